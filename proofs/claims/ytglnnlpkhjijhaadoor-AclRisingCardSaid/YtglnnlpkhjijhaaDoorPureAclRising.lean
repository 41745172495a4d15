/- AclRising in plain words: what the walk computes is true for all inputs. -/
import Derived.Test.YtglnnlpkhjijhaaDoorPAyAclRising
import Derived.Test.YtglnnlpkhjijhaaDoorPureWorks
import Derived.Test.YtglnnlpkhjijhaaDoorPureInto
namespace Go.Proofs.YtglnnlpkhjijhaaDoor.PA
open Go.RowKit Go.Proofs.YtglnnlpkhjijhaaDoorW.PrintWords Go.Proofs.YtglnnlpkhjijhaaDoorW.PrintLast Go.Proofs.YtglnnlpkhjijhaaDoorW.PrintMore

theorem rd_gS {sp : List S32} {i : Nat} (h : i < sp.length) : rd_T32 sp (i : Int) = gS sp i := by
  simp only [rd_T32, gS, Int.toNat_natCast, List.getD_eq_getElem?_getD, List.getElem?_eq_getElem h]; rfl
theorem rising_l0 (a b : Int) (sp : List S32) (hl : sp.length < 1000) (ho : Ok sp 65536) (hab : sp ≠ [] → 1 ≤ a ∧ a ≤ 8 ∧ 1 ≤ b ∧ b ≤ 8) :
    ∀ (n k i : Nat) (last : Int), sp.length - i ≤ n → i ≤ sp.length → n < k → last = (if i = 0 then -2 else (gS sp (i - 1)).f1) → causewaylaw20_AclRising.l0 k a b sp last (i : Int) = some true := by
  have fin : ∀ (k i : Nat) (last : Int), ¬ i < sp.length → 0 < k → causewaylaw20_AclRising.l0 k a b sp last (i : Int) = some true := by
    intro k i last h hk
    obtain ⟨k, rfl⟩ : ∃ k', k = k' + 1 := ⟨k - 1, by omega⟩
    unfold causewaylaw20_AclRising.l0
    rw [if_neg (by omega)]
    by_cases h0 : (sp.length : Int) = 0
    · rw [if_pos h0]
    · obtain ⟨h1, h2, h3, h4⟩ := hab (fun e => h0 (by rw [e]; rfl))
      rw [if_neg h0, if_pos h1, if_pos h2, if_pos h3, decide_eq_true h4]
  intro n
  induction n with
  | zero => intro k i last hn hi hk _; exact fin k i last (by omega) hk
  | succ n ih =>
    intro k i last hn hi hk hlast
    by_cases h : i < sp.length
    · obtain ⟨k, rfl⟩ : ∃ k', k = k' + 1 := ⟨k - 1, by omega⟩
      unfold causewaylaw20_AclRising.l0
      have hw : wrap64 ((i : Int) + 1) = ((i + 1 : Nat) : Int) := by rw [wrap64_of (by omega) (by omega)]; rfl
      have he := ho.each i h
      have hnot : ¬ (gS sp i).f0 ≤ wrap64 (last + 1) := by
        by_cases h0 : i = 0
        · rw [if_pos h0] at hlast
          rw [hlast]
          unfold wrap64; omega
        · rw [if_neg h0] at hlast
          have h1 := ho.each (i - 1) (by omega)
          have h2 := ho.gap (i - 1) (by omega)
          rw [show i - 1 + 1 = i by omega] at h2
          rw [hlast]
          unfold wrap64; omega
      rw [if_pos (by omega), if_pos (by omega), rd_gS h, if_neg hnot, if_neg (by omega), if_neg (by omega), if_neg (by omega), hw]
      exact ih k (i + 1) _ (by omega) (by omega) (by omega) (by rw [if_neg (by omega)]; rfl)
    · exact fin k i last h (by omega)
theorem AclRising_law (l : List S37) (a b : Int) : causewaylaw20_AclRising.f (5 * l.length + 1000) l a b = some true := by
  unfold causewaylaw20_AclRising.f
  rw [works_true _ (by omega)]
  simp only [Option.bind_some, if_true]
  by_cases h : (l.length : Int) > 100
  · rw [if_pos h]
  · rw [if_neg h, Spans_eq l (by omega) a b _ (by omega)]
    simp only [Option.bind_some]
    have hf := spans_few l a b
    exact rising_l0 a b (spansV l a b) (by omega) (spans_ok l a b) (spans_nodes l a b) (spansV l a b).length _ 0 (-2) (by omega) (by omega) (by omega) rfl
end Go.Proofs.YtglnnlpkhjijhaaDoor.PA
