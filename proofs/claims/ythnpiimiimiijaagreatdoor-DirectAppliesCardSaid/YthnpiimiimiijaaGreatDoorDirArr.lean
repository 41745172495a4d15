/- Arrays of thirty cells beside a directory; which keys the asks name. -/
import Derived.Test.YthnpiimiimiijaaGreatDoorDirArg
namespace Go.Proofs.YthnpiimiimiijaaGreatDoor.Dir
open Go Go.RowKit Go.Proofs Go.Proofs.YthnpiimiimiijaaGreatDoorW.PrintWords Go.Proofs.YthnpiimiimiijaaGreatDoorW.PrintLast Go.Proofs.YthnpiimiimiijaaGreatDoorW.PrintMore
set_option linter.unusedVariables false
set_option linter.unusedSimpArgs false
/-- A row of thirty values in a block of its own. -/
def row30 (V : Nat → Value) : List Value := (List.range 30).map V
theorem row30_get (V : Nat → Value) (n : Nat) (hn : n < 30) : (row30 V)[n]? = some (V n) := by simp [row30, hn]
/-- An array of thirty cells. -/
structure Arr (w : World) (g : Nat) (T : TypeId) (V : Nat → Value) : Prop where
 at_ : w.heap[g]? = some (.cells (row30 V).toArray T (0, 0))
theorem Arr.cell {w : World} {g : Nat} {T : TypeId} {V : Nat → Value} (h : Arr w g T V) (n : Nat) (hn : n < 30) : w.cell? ⟨g, n, none⟩ = some (V n) := by
 rw [cell_of_heap h.at_]
 exact row30_get V n hn
theorem Arr.lt {w : World} {g : Nat} {T : TypeId} {V : Nat → Value} (h : Arr w g T V) : g < w.heap.size := (Array.getElem?_eq_some_iff.1 h.at_).1
theorem Arr.later {w w' : World} {g : Nat} {T : TypeId} {V : Nat → Value} (h : Arr w g T V) (hb : Below w.heap.size w w') : Arr w' g T V := ⟨(hb.block _ h.lt).trans h.at_⟩
theorem Arr.grown {w w' : World} {g q : Nat} {T : TypeId} {V : Nat → Value} (h : Arr w g T V) (hb : w.grownBy w' (some q)) (hq : g ≠ q) : Arr w' g T V := ⟨(hb.block _ h.lt (fun e => hq (Option.some.inj e))).trans h.at_⟩
theorem Arr.congr {w : World} {g : Nat} {T : TypeId} {V V' : Nat → Value} (h : Arr w g T V) (he : ∀ n, n < 30 → V n = V' n) : Arr w g T V' := by
 refine ⟨?_⟩
 rw [h.at_, show row30 V = row30 V' from List.map_congr_left fun n hn => he n (by simpa using hn)]
/-! ### beside a directory -/
theorem DirAt.other {w w' : World} {p : Nat} {B : Book} (h : DirAt w p B) {g : Nat} {cs : Array Value} {T : TypeId} {fr : Nat × Nat} (hg : w.heap[g]? = some (.cells cs T fr)) (h1 : T ≠ 83) (h2 : T ≠ 46) (h3 : T ≠ 34) (hw : w.grownBy w' (some g)) : DirAt w' p B := by
 obtain ⟨A1, c1, A2, c2, q1, q2, q3, q4⟩ := h
 have ne : ∀ {b : Nat} {ds : Array Value} {T' : TypeId} {fr' : Nat × Nat}, w.heap[b]? = some (.cells ds T' fr') → T ≠ T' → b ≠ g := fun hb hT e => by
  subst e
  rw [hg] at hb
  injection hb with hb; injection hb with _ hb
  exact hT hb
 refine ⟨A1, c1, A2, c2, (hw.block _ (Array.getElem?_eq_some_iff.1 q1).1 (fun e => ne q1 h1 (Option.some.inj e))).trans q1, ?_, q3, q4⟩
 refine ListsAt.kept q2 hw ?_ ?_
 ·rcases q2.1.2 with ⟨e, _⟩ | ⟨b, _, _, e, _, hb, _⟩
  ·rw [e]; exact .inl rfl
  ·rw [e]; exact .inr fun e => ne hb h2 (Option.some.inj e)
 ·rcases q2.2.1.2 with ⟨e, _⟩ | ⟨b, _, _, e, _, hb, _⟩
  ·rw [e]; exact .inl rfl
  ·rw [e]; exact .inr fun e => ne hb h3 (Option.some.inj e)
theorem Lists.other {w w' : World} {base : Nat} {B : Book} {A1 A2 : Option Addr} {c1 c2 : Nat} (q2 : Lists w base B A1 c1 A2 c2) {g : Nat} {cs : Array Value} {T : TypeId} {fr : Nat × Nat} (hg : w.heap[g]? = some (.cells cs T fr)) (h2 : T ≠ 46) (h3 : T ≠ 34) (hw : w.grownBy w' (some g)) : Lists w' base B A1 c1 A2 c2 := by
 have ne : ∀ {b : Nat} {ds : Array Value} {T' : TypeId} {fr' : Nat × Nat}, w.heap[b]? = some (.cells ds T' fr') → T ≠ T' → b ≠ g := fun hb hT e => by
  subst e
  rw [hg] at hb
  injection hb with hb; injection hb with _ hb
  exact hT hb
 refine ListsAt.kept q2 hw ?_ ?_
 ·rcases q2.1.2 with ⟨e, _⟩ | ⟨b, _, _, e, _, hb, _⟩
  ·rw [e]; exact .inl rfl
  ·rw [e]; exact .inr fun e => ne hb h2 (Option.some.inj e)
 ·rcases q2.2.1.2 with ⟨e, _⟩ | ⟨b, _, _, e, _, hb, _⟩
  ·rw [e]; exact .inl rfl
  ·rw [e]; exact .inr fun e => ne hb h3 (Option.some.inj e)
theorem DirSt.other {w W W' : World} {p : Nat} {B : Book} (h : DirSt w W p B) {g : Nat} {cs : Array Value} {T : TypeId} {fr : Nat × Nat} (hg : W.heap[g]? = some (.cells cs T fr)) (h1 : T ≠ 83) (h2 : T ≠ 46) (h3 : T ≠ 34) (hn : w.heap.size ≤ g) (hw : W.grownBy W' (some g)) : DirSt w W' p B :=
 ⟨h.at_.other hg h1 h2 h3 hw, h.fr.grown hw h.fr.size (fun k hk => by have : g = k := Option.some.inj hk; omega), h.new, h.wf, h.laid⟩
theorem DirAt.block {w : World} {p : Nat} {B : Book} (h : DirAt w p B) : ∃ cs fr, w.heap[p]? = some (.cells cs 83 fr) := by
 obtain ⟨A1, c1, A2, c2, q1, _⟩ := h
 exact ⟨_, _, q1⟩
theorem block_ne {w : World} {p g : Nat} {cs ds : Array Value} {S T : TypeId} {fr fr' : Nat × Nat} (h1 : w.heap[p]? = some (.cells cs S fr)) (h2 : w.heap[g]? = some (.cells ds T fr')) (h : S ≠ T) : p ≠ g := fun e => by
 subst e
 rw [h1] at h2
 injection h2 with h2; injection h2 with _ h2
 exact h h2
/-- A book in a variable, its lists beside it. -/
structure BkSt (w : World) (bk : Nat) (B : Book) (A1 : Option Addr) (c1 : Nat) (A2 : Option Addr) (c2 : Nat) : Prop where
 at_ : w.heap[bk]? = some (.cells (bookCells B A1 c1 A2 c2).toArray 43 (0, 0))
 lists : Lists w 0 B A1 c1 A2 c2
section
variable {w w' : World} {bk : Nat} {B : Book} {A1 A2 : Option Addr} {c1 c2 : Nat}
theorem BkSt.lt (h : BkSt w bk B A1 c1 A2 c2) : bk < w.heap.size := (Array.getElem?_eq_some_iff.1 h.at_).1
theorem BkSt.later (h : BkSt w bk B A1 c1 A2 c2) (hb : Below w.heap.size w w') : BkSt w' bk B A1 c1 A2 c2 := ⟨(hb.block _ h.lt).trans h.at_, h.lists.below hb⟩
theorem BkSt.other (h : BkSt w bk B A1 c1 A2 c2) {g : Nat} {cs : Array Value} {T : TypeId} {fr : Nat × Nat} (hg : w.heap[g]? = some (.cells cs T fr)) (h1 : T ≠ 43) (h2 : T ≠ 46) (h3 : T ≠ 34) (hw : w.grownBy w' (some g)) : BkSt w' bk B A1 c1 A2 c2 :=
 ⟨(hw.block _ h.lt (fun e => block_ne h.at_ hg (Ne.symm h1) (Option.some.inj e))).trans h.at_, h.lists.other hg h2 h3 hw⟩
/-- A device's cells. -/
theorem BkSt.dev (h : BkSt w bk B A1 c1 A2 c2) {j : Nat} {d : Dev} (hd : B.devs[j]? = some d) : ∃ g, A1 = some ⟨g, 0, none⟩ ∧ ∀ i v, (encD d)[i]? = some v → w.cell? ⟨g, j * 35 + i, none⟩ = some v := by
 have hlt := (List.getElem?_eq_some_iff.1 hd).1
 obtain ⟨g, rfl⟩ := owned_at h.lists.1 (by omega)
 exact ⟨g, rfl, fun i v hv => row_cell h.lists.1 (Below.refl _ w) (flatMap_at encD 35 encD_len B.devs j d hd i v hv)⟩
/-- A spent key's cells. -/
theorem BkSt.key (h : BkSt w bk B A1 c1 A2 c2) {j : Nat} {d : Key} (hd : B.spent[j]? = some d) : ∃ g, A2 = some ⟨g, 0, none⟩ ∧ ∀ i v, (encK d)[i]? = some v → w.cell? ⟨g, j * 32 + i, none⟩ = some v := by
 have hlt := (List.getElem?_eq_some_iff.1 hd).1
 obtain ⟨g, rfl⟩ := owned_at h.lists.2.1 (by omega)
 exact ⟨g, rfl, fun i v hv => row_cell h.lists.2.1 (Below.refl _ w) (flatMap_at encK 32 encK_len B.spent j d hd i v hv)⟩
end
/-! ### the keys that the asks name -/
end Go.Proofs.YthnpiimiimiijaaGreatDoor.Dir
