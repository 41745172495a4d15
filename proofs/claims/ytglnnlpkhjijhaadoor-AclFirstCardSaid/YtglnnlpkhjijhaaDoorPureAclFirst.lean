/- AclFirst in plain words: what the walk computes is true for all inputs. -/
import Derived.Test.YtglnnlpkhjijhaaDoorPAyAclFirst
import Derived.Test.YtglnnlpkhjijhaaDoorPureWorks
namespace Go.Proofs.YtglnnlpkhjijhaaDoor.PA
open Go.RowKit Go.Proofs.YtglnnlpkhjijhaaDoorW.PrintWords Go.Proofs.YtglnnlpkhjijhaaDoorW.PrintLast Go.Proofs.YtglnnlpkhjijhaaDoorW.PrintMore

/-! #### AclFirst -/
theorem fits_bits (r : S37) (a b p : Int) : fits r a b p = (decide (Go.bits .and .i64 (shr .i64 r.f1 a) 1 = 1) && decide (Go.bits .and .i64 (shr .i64 r.f2 b) 1 = 1) && decide (r.f3 ≤ p) && decide (p ≤ r.f4)) := by
  rw [and_one, and_one]; rfl
theorem first_j0 (l : List S37) (r : S37) (a b p : Int) (k : Nat) (hl : l.length < 3518437208800) (hk : l.length + 10 < k) (x : Bool) (hx : x = mayAsk a b p) :
    causewaylaw20_AclFirst.j0 k l a b p (r :: l) x r.f0 r.f1 r.f2 r.f3 r.f4 = some true := by
  obtain ⟨k, rfl⟩ : ∃ k', k = k' + 1 := ⟨k - 1, by omega⟩
  rw [causewaylaw20_AclFirst.j0]
  rw [Allows_eq (r :: l) (by simp; omega) _ _ _ k (by simp; omega), Allows_eq l (by omega) _ _ _ k (by omega)]
  simp only [Option.bind_some]
  have hv : allowsV (r :: l) a b p = (mayAsk a b p && (if fits r a b p = true then r.f0 else firstOf l a b p)) := rfl
  have hv2 : allowsV l a b p = (mayAsk a b p && firstOf l a b p) := rfl
  by_cases hm : x = true
  · rw [if_pos hm]
    have hm2 : mayAsk a b p = true := by rw [← hx]; exact hm
    have hab : 0 ≤ a ∧ 0 ≤ b := by
      unfold mayAsk at hm2
      simp only [Bool.and_eq_true, decide_eq_true_eq] at hm2
      omega
    rw [hm2, Bool.true_and] at hv hv2
    rw [if_pos hab.1, if_pos hab.2, hv, hv2]
    have hf := fits_bits r a b p
    by_cases h1 : Go.bits .and .i64 (shr .i64 r.f1 a) 1 = 1
    · by_cases h2 : Go.bits .and .i64 (shr .i64 r.f2 b) 1 = 1
      · by_cases h3 : p ≥ r.f3
        · by_cases h4 : p ≤ r.f4
          · rw [if_pos h1, if_pos h2, if_pos h3, if_pos h4]
            have : fits r a b p = true := by rw [hf]; simp [h1, h2, h4]; exact h3
            simp [this]
          · rw [if_pos h1, if_pos h2, if_pos h3, if_neg h4]
            have : fits r a b p = false := by rw [hf]; simp [h4]
            simp [this]
        · rw [if_pos h1, if_pos h2, if_neg h3]
          have : fits r a b p = false := by rw [hf]; simp [show ¬ r.f3 ≤ p from h3]
          simp [this]
      · rw [if_pos h1, if_neg h2]
        have : fits r a b p = false := by rw [hf]; simp [h2]
        simp [this]
    · rw [if_neg h1]
      have : fits r a b p = false := by rw [hf]; simp [h1]
      simp [this]
  · rw [if_neg hm]
    have hm2 : mayAsk a b p = false := by rw [← hx]; simpa using hm
    rw [hv, hm2]; rfl
theorem AclFirst_law (l : List S37) (hl : l.length < 3518437208800) (r : S37) (a b p : Int) : causewaylaw20_AclFirst.f (l.length + 100) l r.f0 r.f1 r.f2 r.f3 r.f4 a b p = some true := by
  unfold causewaylaw20_AclFirst.f
  rw [works_true _ (by omega)]
  simp only [Option.bind_some, List.nil_append, if_true, List.cons_append]
  rw [if_pos (by simp), if_pos (by simp; omega)]
  have key := fun x hx => first_j0 l r a b p (l.length + 100) hl (by omega) x hx
  have e : (⟨r.f0, r.f1, r.f2, r.f3, r.f4⟩ : S37) = r := rfl
  rw [e]
  by_cases h1 : a ≥ 1
  · rw [if_pos h1]
    by_cases h2 : a ≤ 8
    · rw [if_pos h2]
      by_cases h3 : b ≥ 1
      · rw [if_pos h3]
        by_cases h4 : b ≤ 8
        · rw [if_pos h4]
          by_cases h5 : p ≥ 0
          · rw [if_pos h5]; exact key _ (by unfold mayAsk; simp [show (1 : Int) ≤ a from h1, h2, show (1 : Int) ≤ b from h3, h4, show (0 : Int) ≤ p from h5])
          · rw [if_neg h5]; exact key _ (by unfold mayAsk; simp [show ¬ (0 : Int) ≤ p from h5])
        · rw [if_neg h4]; exact key _ (by unfold mayAsk; simp [h4])
      · rw [if_neg h3]; exact key _ (by unfold mayAsk; simp [show ¬ (1 : Int) ≤ b from h3])
    · rw [if_neg h2]; exact key _ (by unfold mayAsk; simp [h2])
  · rw [if_neg h1]; exact key _ (by unfold mayAsk; simp [show ¬ (1 : Int) ≤ a from h1])
end Go.Proofs.YtglnnlpkhjijhaaDoor.PA
