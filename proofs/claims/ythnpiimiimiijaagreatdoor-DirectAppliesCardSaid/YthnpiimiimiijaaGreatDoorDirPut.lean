/- A part of a device of a row is written. -/
import Derived.Test.YthnpiimiimiijaaGreatDoorDirFresh
namespace Go.Proofs.YthnpiimiimiijaaGreatDoor.Dir
open Go Go.RowKit Go.Proofs Go.Proofs.YthnpiimiimiijaaGreatDoorW.PrintWords Go.Proofs.YthnpiimiimiijaaGreatDoorW.PrintLast Go.Proofs.YthnpiimiimiijaaGreatDoorW.PrintMore
set_option linter.unusedVariables false
set_option linter.unusedSimpArgs false
theorem splice_mid {α : Type} (T M D cs : List α) (off : Nat) (h : off + cs.length ≤ M.length) : splice (T ++ (M ++ D)) (T.length + off) cs = T ++ (splice M off cs ++ D) := by
 unfold splice
 rw [List.take_append, List.take_of_length_le (by omega), show T.length + off - T.length = off by omega, List.take_append_of_le_length (by omega),
  List.drop_append, List.drop_eq_nil_of_le (by omega), List.nil_append, show T.length + off + cs.length - T.length = off + cs.length by omega, List.drop_append_of_le_length (by omega)]
 simp only [List.append_assoc]
theorem splice_front {α : Type} (M D cs : List α) (off : Nat) (h : off + cs.length ≤ M.length) : splice (M ++ D) off cs = splice M off cs ++ D := by
 have := splice_mid [] M D cs off h
 simpa using this
theorem flat_parts {α : Type} (f : α → List Value) (k : Nat) (hk : ∀ x, (f x).length = k) (l : List α) (i : Nat) (d : α) (hd : l[i]? = some d) : l.flatMap f = (l.take i).flatMap f ++ (f d ++ (l.drop (i + 1)).flatMap f) ∧ ((l.take i).flatMap f).length = i * k := by
 have hlen : ∀ l : List α, (l.flatMap f).length = l.length * k := fun l => by
  induction l with
  | nil => simp
  | cons a l ih => rw [List.flatMap_cons, List.length_append, hk, ih, List.length_cons, Nat.add_mul]; omega
 obtain ⟨hlt, rfl⟩ := List.getElem?_eq_some_iff.1 hd
 refine ⟨?_, by rw [hlen, List.length_take, Nat.min_eq_left (Nat.le_of_lt hlt)]⟩
 conv => lhs; rw [← List.take_append_drop i l, List.drop_eq_getElem_cons hlt]
 rw [List.flatMap_append, List.flatMap_cons]
theorem flat_set {α : Type} (f : α → List Value) (k : Nat) (hk : ∀ x, (f x).length = k) (l : List α) (i : Nat) (d d' : α) (hd : l[i]? = some d) (off : Nat) (cs : List Value) (ho : off + cs.length ≤ k) (he : f d' = splice (f d) off cs) :
  (l.set i d').flatMap f = splice (l.flatMap f) (i * k + off) cs := by
 obtain ⟨e1, e2⟩ := flat_parts f k hk l i d hd
 have hlt := (List.getElem?_eq_some_iff.1 hd).1
 obtain ⟨e3, e4⟩ := flat_parts f k hk (l.set i d') i d' (by rw [List.getElem?_set, if_pos rfl, if_pos hlt])
 rw [e1, ← e2, splice_mid _ _ _ _ _ (by rw [hk]; omega), ← he, e3]
 rw [List.take_set_of_le (Nat.le_refl i), List.drop_set_of_lt (Nat.lt_succ_self i)]
/-- A part of a device is written: what the row holds then. -/
theorem put_dev {w : World} {base g n c : Nat} {l : List Dev} (h : w.ownsRow base 46 35 (.slice (some ⟨g, 0, none⟩) n c) n (flatD l)) (hn : n = l.length) (t k : Nat) (hz : ∀ w, (Go.sizeOf t).run Tryz.prog w = .ok k w) (i : Nat) (d d' : Dev) (hd : l[i]? = some d) (off : Nat) (v : Value) (cs : List Value) (hv : v.cells.toList = cs) (hk : cs.length = k) (ho : off + k ≤ 35) (h1 : ∀ u ∈ cs, u.oneCell' = true) (he : encD d' = splice (encD d) off cs) :
  ∃ w', (Instr.storeAt t (.pointer (some ⟨g, i * 35 + off, none⟩)) v).run Tryz.prog w = .ok () w' ∧ w'.ownsRow base 46 35 (.slice (some ⟨g, 0, none⟩) n c) n (flatD (l.set i d')) ∧ w.grownBy w' (some g) := by
 obtain ⟨cur, o1, o2, o3, o4, o5, o6, o7⟩ := owns_open h
 have hlt := (List.getElem?_eq_some_iff.1 hd).1
 have hi : i * 35 + 35 ≤ n * 35 := by rw [hn]; omega
 have hc : n * 35 ≤ c * 35 := Nat.mul_le_mul_right _ o3
 have hst := run_storeCells_at Tryz.prog g (i * 35 + off) 46 cs 0 cur.toArray w o2 (by simp; omega) h1
 have hflat : flatD (l.set i d') = splice (flatD l) (i * 35 + off) cs := flat_set encD 35 encD_len l i d d' hd off cs (by omega) he
 have hcur : cur = flatD l ++ cur.drop (n * 35) := by rw [← o6, List.take_append_drop]
 have hsp : splice cur (i * 35 + off) cs = flatD (l.set i d') ++ cur.drop (n * 35) := by
  conv => lhs; rw [hcur]
  rw [splice_front _ _ _ _ (by rw [o7]; omega), hflat]
 refine ⟨w.setRow g (splice cur (i * 35 + off) cs).toArray, ?_, ?_, grownBy_setRow w g _⟩
 ·simp only [Instr.storeAt, Instr.sureAddr, storeVar, Sem.run_bind, Sem.run_pure, Result.andThen_ok, hz]
  rw [if_neg (by rw [← Array.length_toList, hv, hk]; simp), hv]
  simpa [splice] using hst
 ·refine owns_shut o1 (setRow_heap w g cur.toArray _ 46 (0, 0) o2) o3 o4 (by rw [length_splice _ _ _ (by omega), o5]) ?_
  rw [hsp, List.take_append_of_le_length (by rw [flatD_len, List.length_set, ← hn]; exact Nat.le_refl _), List.take_of_length_le (by rw [flatD_len, List.length_set, ← hn]; exact Nat.le_refl _)]
/-- A book whose devices were written. -/
theorem next_devs {w w' : World} {base q : Nat} {B : Book} {g c1 : Nat} {A2 : Option Addr} {c2 : Nat} (h : NextIs w base q B (some ⟨g, 0, none⟩) c1 A2 c2) (ds : List Dev) (hl : ds.length = B.devs.length) (hd : w'.ownsRow base 46 35 (.slice (some ⟨g, 0, none⟩) B.devs.length c1) B.devs.length (flatD ds)) (hg : w.grownBy w' (some g)) :
  NextIs w' base q { B with devs := ds } (some ⟨g, 0, none⟩) c1 A2 c2 := by
 have hq : w'.heap[q]? = some (.cells (bookCells B (some ⟨g, 0, none⟩) c1 A2 c2).toArray 43 (0, 0)) := (hg.block q h.lt (fun e => own_ne h.lists.1 h.box (by decide) (by rw [Value.ownBlock]; exact e))).trans h.box
 have hs : w'.ownsRow base 34 32 (.slice A2 B.spent.length c2) B.spent.length (flatK B.spent) := h.lists.2.1.kept hg (by
  cases hk : (Value.slice A2 B.spent.length c2).ownBlock with
  | none => exact .inl rfl
  | some k => exact .inr (fun e => h.lists.2.2 g rfl (by rw [hk]; exact e)))
 refine ⟨?_, ⟨?_, hs, ?_⟩, h.low, ?_, h.ne2⟩
 ·simp only [bookCells, hl]
  exact hq
 ·show w'.ownsRow base 46 35 (.slice _ ds.length c1) ds.length (flatD ds)
  rw [hl]; exact hd
 ·show ∀ k, (Value.slice _ ds.length c1).ownBlock = some k → _
  exact h.lists.2.2
 ·exact h.ne1
theorem encD_key (d : Dev) (k : Key) : encD { d with key := k } = splice (encD d) 1 (encK k) := by
 unfold splice encD
 rw [encK_len]
 simp only [List.take_succ_cons, List.take_zero, Nat.reduceAdd, List.drop_succ_cons]
 rw [List.drop_append, List.drop_eq_nil_of_le (by rw [encK_len]; omega), encK_len]
 rfl
theorem encD_exp (d : Dev) (e : Int) : encD { d with exp := e } = splice (encD d) 33 [.int .i64 e] := by
 unfold splice encD
 simp only [List.take_succ_cons, List.length_cons, List.length_nil, Nat.reduceAdd, List.drop_succ_cons]
 rw [List.take_append_of_le_length (by rw [encK_len]; omega), List.take_of_length_le (by rw [encK_len]; omega), List.drop_append, List.drop_eq_nil_of_le (by rw [encK_len]; omega), encK_len]
 rfl
theorem encD_rev (d : Dev) (r : Bool) : encD { d with rev := r } = splice (encD d) 34 [.bool r] := by
 unfold splice encD
 simp only [List.take_succ_cons, List.length_cons, List.length_nil, Nat.reduceAdd, List.drop_succ_cons]
 rw [List.take_append, List.take_of_length_le (by rw [encK_len]; omega), encK_len, List.drop_append, List.drop_eq_nil_of_le (by rw [encK_len]; omega), encK_len]
 simp
theorem encD_all (d d' : Dev) : encD d' = splice (encD d) 0 (encD d') := (splice_whole _ _ (by rw [encD_len, encD_len])).symm
end Go.Proofs.YthnpiimiimiijaaGreatDoor.Dir
