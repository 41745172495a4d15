/- The document's directory: fresh, spend, put. -/
import Derived.Test.YthnpiimiimiijaaGreatDoorRefA
namespace Go.Proofs.YthnpiimiimiijaaGreatDoor.Dir
open Go Go.RowKit Go.Proofs Go.Proofs.YthnpiimiimiijaaGreatDoorW.PrintWords Go.Proofs.YthnpiimiimiijaaGreatDoorW.PrintLast Go.Proofs.YthnpiimiimiijaaGreatDoorW.PrintMore
set_option linter.unusedVariables false
set_option linter.unusedSimpArgs false
/-- An op in the block q, beside a book in the block b. -/
structure InO (w W : World) (b q : Nat) (B : Book) (A1 : Option Addr) (c1 : Nat) (A2 : Option Addr) (c2 : Nat) (o : Op) : Prop where
 bk : InB w W b B A1 c1 A2 c2
 op : W.heap[q]? = some (.cells (encO o).toArray 36 (0, 0))
section
variable {w W W' : World} {b q : Nat} {B : Book} {A1 : Option Addr} {c1 : Nat} {A2 : Option Addr} {c2 : Nat} {o : Op}
theorem InO.later (h : InO w W b q B A1 c1 A2 c2 o) (hb : Below W.heap.size W W') : InO w W' b q B A1 c1 A2 c2 o :=
 ⟨h.bk.later hb, (hb.block _ (Array.getElem?_eq_some_iff.1 h.op).1).trans h.op⟩
theorem InO.start (h : SrcB w B A1 A2) : InO w ((w.alloc (.cells (bookCells B A1 c1 A2 c2).toArray 43)).alloc (.cells (encO o).toArray 36)) w.heap.size (w.heap.size + 1) B A1 c1 A2 c2 o :=
 ⟨(InB.start h).later ((Below.refl _ _).alloc (Nat.le_refl _) _), by have := heap_alloc_new (w.alloc (.cells (bookCells B A1 c1 A2 c2).toArray 43)) (.cells (encO o).toArray 36); simpa using this⟩
theorem InO.cells (h : InO w W b q B A1 c1 A2 c2 o) : W.cell? ⟨q, 0, none⟩ = some (.int .i64 o.kind) ∧ W.cell? ⟨q, 1, none⟩ = some (.int .i64 o.node) ∧ W.cell? ⟨q, 34, none⟩ = some (.int .i64 o.exp) ∧ W.cell? ⟨q, 35, none⟩ = some (.string (str o.text)) ∧ W.cell? ⟨q, 36, none⟩ = some (.int .i64 o.at_) := by
 have hq := h.op
 refine ⟨?_, ?_, ?_, ?_, ?_⟩
 ·rw [cell_of_heap hq]; rfl
 ·rw [cell_of_heap hq]; rfl
 ·rw [cell_of_heap hq]; exact tailOfO o 0
 ·rw [cell_of_heap hq]; exact tailOfO o 1
 ·rw [cell_of_heap hq]; exact tailOfO o 2
theorem InO.load (h : InO w W b q B A1 c1 A2 c2 o) : (Instr.loadAt 36 (.pointer (some ⟨q, 0, none⟩))).run Tryz.prog W = .ok (.agg (encO o).toArray) W :=
 run_loadAtK Tryz.prog W 36 37 Tryz.isAgg36 Tryz.sizeOf36 q 0 (encO o) (encO_len o) (cells_of_heap h.op)
theorem InO.key (h : InO w W b q B A1 c1 A2 c2 o) : (Instr.loadAt 34 (.pointer (some ⟨q, 2, none⟩))).run Tryz.prog W = .ok (.agg (encK o.key).toArray) W :=
 run_loadAtK Tryz.prog W 34 32 Tryz.isAgg34 Tryz.sizeOf34 q 2 (encK o.key) (encK_len _) (fun j v hj => by rw [cell_of_heap h.op]; exact keyOfO o j v hj)
end
theorem keysR_taken (B : Book) (k : Key) : k ∈ keysR B ↔ k ∈ takenB B := by
 unfold keysR takenB
 simp only [List.mem_append]
 exact Or.comm
theorem free_taken (B : Book) (k : Key) : freeR B k = false ↔ (k = key0 ∨ k ∈ takenB B) := by
 unfold freeR
 rw [decide_eq_false_iff_not, ← keysR_taken]
 constructor
 ·intro h
  by_cases h1 : k = key0
  ·exact .inl h1
  ·by_cases h2 : k ∈ keysR B
   ·exact .inr h2
   ·exact absurd ⟨h2, h1⟩ h
 ·rintro (h | h) ⟨h1, h2⟩
  ·exact h2 h
  ·exact h1 h
set_option maxHeartbeats 4000000 in
set_option maxRecDepth 100000 in
theorem fresh_ref (B : Book) (A1 : Option Addr) (c1 : Nat) (A2 : Option Addr) (c2 : Nat) (o : Op) (m : Bool) (w : World) (h : SrcB w B A1 A2) (hs1 : B.devs.length ≤ 100000000000) (hs2 : B.spent.length ≤ 100000000000) :
  Calls Tryz.prog 93 #[.agg (bookCells B A1 c1 A2 c2).toArray, .agg (encO o).toArray, .bool m] w fun e w' => e = .returned (.int .i64 (freshOf B o m)) ∧ Below w.heap.size w w' := by
 have hI := InO.start (c1 := c1) (c2 := c2) (o := o) h
 obtain ⟨W0, hW0⟩ : ∃ W0, W0 = (w.alloc (.cells (bookCells B A1 c1 A2 c2).toArray 43)).alloc (.cells (encO o).toArray 36) := ⟨_, rfl⟩
 obtain ⟨p, hp⟩ : ∃ p, p = w.heap.size := ⟨_, rfl⟩
 have hsz : (w.alloc (.cells (bookCells B A1 c1 A2 c2).toArray 43)).heap.size = p + 1 := by rw [hp]; simp
 rw [← hW0, ← hp] at hI
 obtain ⟨r, hr⟩ : ∃ r, r = freshOf B o m := ⟨_, rfl⟩
 have HR := Aside0.mk hr
 have HI := Aside0.mk hI
 have HFR := Aside0.mk (free_ref B A1 c1 A2 c2 o.key W0 hI.bk.src hs1 hs2)
 have HFT := Aside0.mk (free_taken B o.key)
 have L1 := Aside0.mk hI.bk.load
 have L2 := Aside0.mk hI.key
 have hSm := Aside0.mk hs2
 rw [← hr]
 obtain ⟨xe, hxe⟩ : ∃ xe, xe = o.exp := ⟨_, rfl⟩
 obtain ⟨nx, hnx⟩ : ∃ nx, nx = number xe := ⟨_, rfl⟩
 have HN : Aside0 (∀ W, Calls Tryz.prog 66 #[.int .i64 xe] W fun e w' => e = .returned (.bool nx) ∧ w' = W) := ⟨fun W => by rw [hnx]; exact number66 xe W⟩
 have HXE := Aside0.mk (And.intro hxe hnx)
 obtain ⟨fr, hfr⟩ : ∃ fr, fr = freeR B o.key := ⟨_, rfl⟩
 rw [← hfr] at HFR HFT
 obtain ⟨BA, hBA⟩ : ∃ BA, BA = (bookCells B A1 c1 A2 c2).toArray := ⟨_, rfl⟩
 obtain ⟨OA, hOA⟩ : ∃ OA, OA = (encO o).toArray := ⟨_, rfl⟩
 obtain ⟨KA, hKA⟩ : ∃ KA, KA = (encK o.key).toArray := ⟨_, rfl⟩
 rw [← hBA] at HFR L1 hW0 hsz ⊢
 rw [← hOA] at hW0 ⊢
 rw [← hKA] at HFR L2
 clear hI h hs1 hs2 hr hfr hBA hOA hKA hnx
 go_enter Tryz.func93, Tryz.ntmps93
 go_upto_region 1 with fail
 rw [← hW0]
 try rw [hsz]
 try rw [← hp]
 have HEQ := Aside0.mk (And.intro hW0 (And.intro hp hsz))
 clear hW0 hp hsz
 go_wp2_with (first | ((with_reducible refine at_load 43 (.tmp 3) ?_); refine wpList_loadK rfl 43 (.tmp 3) rfl _ rfl _ L1.out ?_) | ((with_reducible refine at_load 34 (.tmp 8) ?_); refine wpList_loadK rfl 34 (.tmp 8) rfl _ rfl _ L2.out ?_))
 refine HFR.out.mono ?_
 rintro e w1 ⟨rfl, hb1⟩
 have HI1 := Aside0.mk (HI.out.later hb1)
 clear hb1
 cases fr
 ·go_wp2_with fail
  go_ret
  have e : r = 221 := by rw [HR.out]; unfold freshOf; rw [if_pos (by first | exact HFT.out.1 rfl | exact HFT.out.1 trivial)]
  exact ⟨by rw [e]; rfl, HI1.out.bk.fr⟩
 have HK : Aside0 (¬ (o.key = key0 ∨ o.key ∈ takenB B)) := ⟨fun hh => by have := HFT.out.2 hh; cases this⟩
 obtain ⟨-, -, x34, -, -⟩ := HI1.out.cells
 obtain ⟨-, k1, -, k3, -⟩ := HI1.out.bk.cells
 rw [← hxe] at x34
 obtain ⟨ck, hck⟩ : ∃ ck, ck = B.clock := ⟨_, rfl⟩
 have HCK := Aside0.mk hck
 rw [← hck] at k1
 clear hck hxe
 by_cases e1 : xe < 1
 ·have d1 : decide (xe < 1) = true := decide_eq_true e1
  have HW : Aside0 (o.exp < 1 ∨ number o.exp = false ∨ o.exp ≤ B.clock) := ⟨.inl (by rw [← HXE.out.1]; exact e1)⟩
  clear e1
  go_wp2_with (go_at_call 66; refine (HN.out _).mono ?_; rintro e w' ⟨rfl, hw⟩; obtain rfl := hw.symm)
  go_ret
  have e : r = 9 := by rw [HR.out]; unfold freshOf; rw [if_neg HK.out, if_pos HW.out]
  exact ⟨by rw [e]; rfl, HI1.out.bk.fr⟩
 have d1 : decide (xe < 1) = false := decide_eq_false e1
 have HE1 := Aside0.mk e1
 clear e1
 cases nx
 ·have HW : Aside0 (o.exp < 1 ∨ number o.exp = false ∨ o.exp ≤ B.clock) := ⟨.inr (.inl (by rw [← HXE.out.1]; exact HXE.out.2.symm))⟩
  go_wp2_with (go_at_call 66; refine (HN.out _).mono ?_; rintro e w' ⟨rfl, hw⟩; obtain rfl := hw.symm)
  go_ret
  have e : r = 9 := by rw [HR.out]; unfold freshOf; rw [if_neg HK.out, if_pos HW.out]
  exact ⟨by rw [e]; rfl, HI1.out.bk.fr⟩
 by_cases e2 : xe ≤ ck
 ·have d2 : decide (xe ≤ ck) = true := decide_eq_true e2
  have HW : Aside0 (o.exp < 1 ∨ number o.exp = false ∨ o.exp ≤ B.clock) := ⟨.inr (.inr (by rw [← HXE.out.1, ← HCK.out]; exact e2))⟩
  clear e2
  go_wp2_with (go_at_call 66; refine (HN.out _).mono ?_; rintro e w' ⟨rfl, hw⟩; obtain rfl := hw.symm)
  go_ret
  have e : r = 9 := by rw [HR.out]; unfold freshOf; rw [if_neg HK.out, if_pos HW.out]
  exact ⟨by rw [e]; rfl, HI1.out.bk.fr⟩
 have d2 : decide (xe ≤ ck) = false := decide_eq_false e2
 have HW : Aside0 (¬ (o.exp < 1 ∨ number o.exp = false ∨ o.exp ≤ B.clock)) := ⟨by
  rw [← HXE.out.1, ← HCK.out, ← HXE.out.2]
  rintro (h | h | h)
  ·exact HE1.out h
  ·cases h
  ·exact e2 h⟩
 clear e2
 cases m
 ·skip
  go_wp2_with (go_at_call 66; refine (HN.out _).mono ?_; rintro e w' ⟨rfl, hw⟩; obtain rfl := hw.symm)
  go_ret
  have e : r = 0 := by rw [HR.out]; unfold freshOf; rw [if_neg HK.out, if_neg HW.out, if_neg (by simp)]
  exact ⟨by rw [e]; rfl, HI1.out.bk.fr⟩
 by_cases e3 : B.spent.length = 64
 ·have HE3 := Aside0.mk e3
  have d3 : ((B.spent.length : Int) == 64) = true := beq_iff_eq.2 (by omega)
  clear e3
  go_wp2_with (go_at_call 66; refine (HN.out _).mono ?_; rintro e w' ⟨rfl, hw⟩; obtain rfl := hw.symm)
  go_ret
  have e : r = 5 := by rw [HR.out]; unfold freshOf; rw [if_neg HK.out, if_neg HW.out, if_pos ⟨rfl, HE3.out⟩]
  exact ⟨by rw [e]; rfl, HI1.out.bk.fr⟩
 ·have HE3 := Aside0.mk e3
  have d3 : ((B.spent.length : Int) == 64) = false := beq_eq_false_iff_ne.2 (by omega)
  clear e3
  go_wp2_with (go_at_call 66; refine (HN.out _).mono ?_; rintro e w' ⟨rfl, hw⟩; obtain rfl := hw.symm)
  go_ret
  have e : r = 0 := by rw [HR.out]; unfold freshOf; rw [if_neg HK.out, if_neg HW.out, if_neg (fun h => HE3.out h.2)]
  exact ⟨by rw [e]; rfl, HI1.out.bk.fr⟩
end Go.Proofs.YthnpiimiimiijaaGreatDoor.Dir
