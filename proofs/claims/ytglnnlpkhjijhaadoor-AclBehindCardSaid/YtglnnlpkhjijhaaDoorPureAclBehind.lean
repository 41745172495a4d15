/- AclBehind in plain words: what the walk computes is true for all inputs. -/
import Derived.Test.YtglnnlpkhjijhaaDoorPAyAclBehind
import Derived.Test.YtglnnlpkhjijhaaDoorPureWorks
namespace Go.Proofs.YtglnnlpkhjijhaaDoor.PA
open Go.RowKit Go.Proofs.YtglnnlpkhjijhaaDoorW.PrintWords Go.Proofs.YtglnnlpkhjijhaaDoorW.PrintLast Go.Proofs.YtglnnlpkhjijhaaDoorW.PrintMore

/-! #### AclBehind -/
theorem firstOf_append (l m : List S37) (a b p : Int) : firstOf (l ++ m) a b p = if l.any (fun r => fits r a b p) = true then firstOf l a b p else firstOf m a b p := by
  induction l with
  | nil => rfl
  | cons r l ih =>
    simp only [List.cons_append, firstOf, List.any_cons]
    by_cases h : fits r a b p = true
    · simp [h]
    · have h' : fits r a b p = false := by simpa using h
      rw [if_neg h, if_neg h, ih]
      simp only [h', Bool.false_or]
theorem AclBehind_law (l : List S37) (hl : l.length < 3518437208800) (r : S37) (a b p : Int) : causewaylaw20_AclBehind.f (l.length + 100) l r.f0 r.f1 r.f2 r.f3 r.f4 a b p = some true := by
  unfold causewaylaw20_AclBehind.f
  rw [works_true _ (by omega)]
  simp only [Option.bind_some, List.nil_append, if_true]
  rw [if_pos (by simp; omega), if_pos (by omega), if_pos (by simp; omega), if_pos (by simp; omega), Allows_eq _ (by simp; omega) _ _ _ _ (by simp), Allows_eq _ (by simp; omega) _ _ _ _ (by simp)]
  simp only [Option.bind_some]
  have e : firstOf (l ++ [⟨!r.f0, r.f1, r.f2, r.f3, r.f4⟩] ++ [⟨r.f0, r.f1, r.f2, r.f3, r.f4⟩]) a b p = firstOf (l ++ [⟨!r.f0, r.f1, r.f2, r.f3, r.f4⟩]) a b p := by
    rw [List.append_assoc, firstOf_append l, firstOf_append l]
    split
    · rfl
    · have hf : fits ⟨!r.f0, r.f1, r.f2, r.f3, r.f4⟩ a b p = fits ⟨r.f0, r.f1, r.f2, r.f3, r.f4⟩ a b p := rfl
      simp only [List.cons_append, List.nil_append, firstOf, hf]
      split
      · rfl
      · rfl
  unfold allowsV
  rw [e]
  simp
end Go.Proofs.YtglnnlpkhjijhaaDoor.PA
