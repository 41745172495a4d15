/- AclClosed in plain words: what the walk computes is true for all inputs. -/
import Derived.Test.YtglnnlpkhjijhaaDoorPAyAclClosed
import Derived.Test.YtglnnlpkhjijhaaDoorPureWorks
namespace Go.Proofs.YtglnnlpkhjijhaaDoor.PA
open Go.RowKit Go.Proofs.YtglnnlpkhjijhaaDoorW.PrintWords Go.Proofs.YtglnnlpkhjijhaaDoorW.PrintLast Go.Proofs.YtglnnlpkhjijhaaDoorW.PrintMore

/-! #### AclClosed -/
theorem firstOf_deny (l : List S37) (h : ∀ r ∈ l, r.f0 = false) (a b p : Int) : firstOf l a b p = false := by
  induction l with
  | nil => rfl
  | cons r l ih =>
    unfold firstOf
    split
    · exact h r (by simp)
    · exact ih (fun r hr => h r (by simp [hr]))
theorem spansGo_no (ok : Int → Bool) (h : ∀ x, ok x = false) : ∀ (P : List Int) (out : List S32), spansGo ok P out = out
  | [], out => rfl
  | [_], out => rfl
  | x :: y :: rest, out => by unfold spansGo; rw [h x, if_neg (by decide), spansGo_no ok h]
theorem closed_l0 (l : List S37) (hl : l.length < 3518437208800) (a b p : Int) : ∀ (n k i : Nat) (m : List S37), l.length - i ≤ n → i ≤ l.length → m.length = i → (∀ r ∈ m, r.f0 = false) → n + l.length + 20 < k →
    causewaylaw20_AclClosed.l0 k l m (i : Int) a b p = some true := by
  have fin : ∀ (k i : Nat) (m : List S37), ¬ i < l.length → i ≤ l.length → m.length = i → (∀ r ∈ m, r.f0 = false) → l.length + 15 < k → causewaylaw20_AclClosed.l0 k l m (i : Int) a b p = some true := by
    intro k i m h hi hm hd hk
    obtain ⟨k, rfl⟩ : ∃ k', k = k' + 1 := ⟨k - 1, by omega⟩
    unfold causewaylaw20_AclClosed.l0
    rw [if_neg (by omega), Allows_eq m (by omega) _ _ _ k (by omega), Allows_eq [] (by simp) _ _ _ k (by simp; omega), Spans_eq [] (by simp) _ _ k (by simp; omega)]
    simp only [Option.bind_some]
    have h1 : allowsV m a b p = false := by unfold allowsV; rw [firstOf_deny m hd]; simp
    have h2 : allowsV [] a b p = false := by unfold allowsV; simp [firstOf]
    have h3 : spansV [] a b = [] := by unfold spansV; exact spansGo_no _ (fun x => by unfold allowsV; simp [firstOf]) _ _
    rw [h1, h2, h3]; rfl
  intro n
  induction n with
  | zero => intro k i m hn hi hm hd hk; exact fin k i m (by omega) hi hm hd (by omega)
  | succ n ih =>
    intro k i m hn hi hm hd hk
    by_cases h : i < l.length
    · obtain ⟨k, rfl⟩ : ∃ k', k = k' + 1 := ⟨k - 1, by omega⟩
      unfold causewaylaw20_AclClosed.l0
      have hw : wrap64 ((i : Int) + 1) = ((i + 1 : Nat) : Int) := by rw [wrap64_of (by omega) (by omega)]; rfl
      rw [if_pos (by omega), if_pos (by omega), if_pos (by omega), hw]
      refine ih k (i + 1) _ (by omega) (by omega) (by simp; omega) (fun r hr => ?_) (by omega)
      rcases List.mem_append.1 hr with h | h
      · exact hd r h
      · rw [List.mem_singleton.1 h]
    · exact fin k i m h hi hm hd (by omega)
theorem AclClosed_law (l : List S37) (hl : l.length < 3518437208800) (a b p : Int) : causewaylaw20_AclClosed.f (2 * l.length + 100) l a b p = some true := by
  unfold causewaylaw20_AclClosed.f
  rw [works_true _ (by omega)]
  simp only [Option.bind_some, if_true]
  exact closed_l0 l hl a b p l.length _ 0 [] (by omega) (by omega) rfl (by simp) (by omega)
end Go.Proofs.YtglnnlpkhjijhaaDoor.PA
