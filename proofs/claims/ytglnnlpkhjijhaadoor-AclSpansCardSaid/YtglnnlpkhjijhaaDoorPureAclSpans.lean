/- AclSpans in plain words: what the walk computes is true for all inputs. -/
import Derived.Test.YtglnnlpkhjijhaaDoorPAyAclSpans
import Derived.Test.YtglnnlpkhjijhaaDoorPureRefSpans
set_option linter.unusedVariables false
set_option linter.unusedSimpArgs false
namespace Go.Proofs.YtglnnlpkhjijhaaDoor.PA
open Go.RowKit Go.Proofs.YtglnnlpkhjijhaaDoorW.PrintWords Go.Proofs.YtglnnlpkhjijhaaDoorW.PrintLast Go.Proofs.YtglnnlpkhjijhaaDoorW.PrintMore

theorem wrapU (i : Nat) (h : i < 9223372036854775807) : wrap64 ((i : Int) + 1) = ((i + 1 : Nat) : Int) := by unfold wrap64; omega
theorem same_l0 (l : List S37) (hl : l.length < 9223372036854775807) : ∀ (n k i : Nat), l.length - i ≤ n → n < k → causewayref20_Same.l0 k l l (i : Int) = some true := by
  intro n
  induction n with
  | zero =>
    intro k i hn hk
    obtain ⟨k, rfl⟩ : ∃ j, k = j + 1 := ⟨k - 1, by omega⟩
    unfold causewayref20_Same.l0
    rw [if_neg (by omega)]
  | succ n ih =>
    intro k i hn hk
    by_cases h : i < l.length
    · obtain ⟨k, rfl⟩ : ∃ j, k = j + 1 := ⟨k - 1, by omega⟩
      unfold causewayref20_Same.l0
      rw [if_pos (by omega), if_pos (by omega), if_pos (by omega), if_neg (by simp), wrapU i (by omega)]
      exact ih k (i + 1) (by omega) (by omega)
    · exact ih k i (by omega) (by omega)
theorem same_refl (l : List S37) (hl : l.length < 9223372036854775807) (k : Nat) (hk : l.length < k) : causewayref20_Same.f k l l = some true := by
  unfold causewayref20_Same.f
  rw [if_pos rfl]
  exact same_l0 l hl l.length k 0 (by omega) hk
theorem sameSpans_l0 (l : List S32) (hl : l.length < 9223372036854775807) : ∀ (n k i : Nat), l.length - i ≤ n → n < k → causewayref20_SameSpans.l0 k l l (i : Int) = some true := by
  intro n
  induction n with
  | zero =>
    intro k i hn hk
    obtain ⟨k, rfl⟩ : ∃ j, k = j + 1 := ⟨k - 1, by omega⟩
    unfold causewayref20_SameSpans.l0
    rw [if_neg (by omega)]
  | succ n ih =>
    intro k i hn hk
    by_cases h : i < l.length
    · obtain ⟨k, rfl⟩ : ∃ j, k = j + 1 := ⟨k - 1, by omega⟩
      unfold causewayref20_SameSpans.l0
      rw [if_pos (by omega), if_pos (by omega), if_pos (by omega), if_neg (by simp), wrapU i (by omega)]
      exact ih k (i + 1) (by omega) (by omega)
    · exact ih k i (by omega) (by omega)
theorem sameSpans_refl (l : List S32) (hl : l.length < 9223372036854775807) (k : Nat) (hk : l.length < k) : causewayref20_SameSpans.f k l l = some true := by
  unfold causewayref20_SameSpans.f
  rw [if_pos rfl]
  exact sameSpans_l0 l hl l.length k 0 (by omega) hk
theorem spans_tail (l : List S37) (hl : l.length ≤ 100) (a b : Int) : ∀ (n k i : Nat) (x : List S32), x.length ≤ 1000 → x.length - i ≤ n → n + 2000 < k → causewaylaw20_AclSpans.l0 k l a b l x (i : Int) = some true := by
  have hfew := spans_few l a b
  have last : ∀ (k : Nat), 2000 ≤ k → ((acl_Spans.f k l a b).bind fun t179 => ((causewayref20_Spans.f l a b).bind fun t182 => ((causewayref20_SameSpans.f k t179 t182).bind fun t185 => (if t185 = true then ((causewaylaw20_works.f k).bind fun t186 => (some t186)) else (some false))))) = some true := by
    intro k hk
    rw [Spans_eq l (by omega) a b k (by omega), ref_Spans_eq l (by omega) a b]
    simp only [Option.bind_some]
    rw [sameSpans_refl _ (by omega) k (by omega), works_true k (by omega)]
    simp only [Option.bind_some, if_true]
  intro n
  induction n with
  | zero =>
    intro k i x hx hn hk
    obtain ⟨k, rfl⟩ : ∃ j, k = j + 1 := ⟨k - 1, by omega⟩
    rw [causewaylaw20_AclSpans.l0, if_neg (by omega)]
    exact last k (by omega)
  | succ n ih =>
    intro k i x hx hn hk
    obtain ⟨k, rfl⟩ : ∃ j, k = j + 1 := ⟨k - 1, by omega⟩
    by_cases h : i < x.length
    · rw [causewaylaw20_AclSpans.l0, if_pos (by omega), if_pos (by omega), wrapU i (by omega)]
      exact ih k (i + 1) _ (by simpa using hx) (by simp; omega) (by omega)
    · rw [causewaylaw20_AclSpans.l0, if_neg (by omega)]
      exact last k (by omega)
theorem AclSpans_law (l : List S37) (a b : Int) : causewaylaw20_AclSpans.f 5000 l a b = some true := by
  unfold causewaylaw20_AclSpans.f
  by_cases h : (l.length : Int) > 100
  · rw [if_pos h, works_true 5000 (by omega)]
    rfl
  · have hfew := spans_few l a b
    rw [if_neg h, if_pos (by simp; omega)]
    simp only [Option.bind_some, List.nil_append]
    rw [Spans_eq l (by omega) a b 5000 (by omega), ref_Spans_eq l (by omega) a b]
    simp only [Option.bind_some]
    rw [sameSpans_refl _ (by omega) 5000 (by omega)]
    simp only [Option.bind_some, if_true]
    rw [same_refl l (by omega) 5000 (by omega)]
    simp only [Option.bind_some, Bool.not_true]
    rw [show (5000 : Nat) = 4999 + 1 from rfl, causewaylaw20_AclSpans.j0, if_neg (by simp)]
    exact spans_tail l (by omega) a b (spansV l a b).length 4999 0 (spansV l a b) (by omega) (by omega) (by omega)
end Go.Proofs.YtglnnlpkhjijhaaDoor.PA
