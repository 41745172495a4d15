/- AclAllows in plain words: what the walk computes is true for all inputs. -/
import Derived.Test.YtglnnlpkhjijhaaDoorPAyAclAllows
import Derived.Test.YtglnnlpkhjijhaaDoorPureWorks
namespace Go.Proofs.YtglnnlpkhjijhaaDoor.PA
open Go.RowKit Go.Proofs.YtglnnlpkhjijhaaDoorW.PrintWords Go.Proofs.YtglnnlpkhjijhaaDoorW.PrintLast Go.Proofs.YtglnnlpkhjijhaaDoorW.PrintMore

/-! #### AclAllows -/
theorem allows_law_l0 (l : List S37) (hl : l.length < 9223372036854775807) (a p q : Int) : ∀ (n k i : Nat), 10 - i ≤ n → i ≤ 10 → n + l.length + 70 < k → causewaylaw20_AclAllows.l0 k l a (i : Int) p q = some true := by
  intro n
  induction n with
  | zero =>
    intro k i hn hi hk
    obtain ⟨k, rfl⟩ : ∃ k', k = k' + 1 := ⟨k - 1, by omega⟩
    unfold causewaylaw20_AclAllows.l0
    rw [if_neg (by omega), Allows_eq l hl _ _ _ k (by omega), ref_Allows_eq l hl _ _ _ k (by omega)]
    simp only [Option.bind_some]
    rw [if_pos (by simp), works_true k (by omega)]
    rfl
  | succ n ih =>
    intro k i hn hi hk
    by_cases h : i = 10
    · obtain ⟨k, rfl⟩ : ∃ k', k = k' + 1 := ⟨k - 1, by omega⟩
      unfold causewaylaw20_AclAllows.l0
      rw [if_neg (by omega), Allows_eq l hl _ _ _ k (by omega), ref_Allows_eq l hl _ _ _ k (by omega)]
      simp only [Option.bind_some]
      rw [if_pos (by simp), works_true k (by omega)]
      rfl
    · obtain ⟨k, rfl⟩ : ∃ k', k = k' + 1 := ⟨k - 1, by omega⟩
      unfold causewaylaw20_AclAllows.l0
      have hw : wrap64 ((i : Int) + 1) = ((i + 1 : Nat) : Int) := by rw [wrap64_of (by omega) (by omega)]; rfl
      rw [if_pos (by omega), Allows_eq l hl _ _ _ k (by omega), ref_Allows_eq l hl _ _ _ k (by omega), Allows_eq l hl _ _ _ k (by omega), ref_Allows_eq l hl _ _ _ k (by omega), hw]
      simp only [Option.bind_some]
      rw [if_neg (by simp), if_neg (by simp)]
      exact ih k (i + 1) (by omega) (by omega) (by omega)
theorem AclAllows_law (l : List S37) (hl : l.length < 9223372036854775807) (a p q : Int) : causewaylaw20_AclAllows.f (l.length + 100) l a p q = some true := by
  unfold causewaylaw20_AclAllows.f
  exact allows_law_l0 l hl a p q 10 _ 0 (by omega) (by omega) (by omega)
end Go.Proofs.YtglnnlpkhjijhaaDoor.PA
