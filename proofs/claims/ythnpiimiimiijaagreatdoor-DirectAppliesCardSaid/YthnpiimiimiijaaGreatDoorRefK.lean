/- The document's New, Copy. -/
import Derived.Test.YthnpiimiimiijaaGreatDoorRefJ
namespace Go.Proofs.YthnpiimiimiijaaGreatDoor.Dir
open Go Go.RowKit Go.Proofs Go.Proofs.YthnpiimiimiijaaGreatDoorW.PrintWords Go.Proofs.YthnpiimiimiijaaGreatDoorW.PrintLast Go.Proofs.YthnpiimiimiijaaGreatDoorW.PrintMore
set_option linter.unusedVariables false
set_option linter.unusedSimpArgs false
theorem new_ref (w : World) : Calls Tryz.prog 25 #[] w fun e w' => e = .returned (.pointer (some ⟨w.heap.size, 0, none⟩)) ∧ RDirIs w' w.heap.size book0 none 0 none 0 ∧ Below w.heap.size w w' := by
 have hb := (Below.refl _ w).alloc (Nat.le_refl _) (.cells (bookCells book0 none 0 none 0).toArray 63)
 have HF : Aside0 (RDirIs (w.alloc (.cells (bookCells book0 none 0 none 0).toArray 63)) w.heap.size book0 none 0 none 0 ∧ Below w.heap.size w (w.alloc (.cells (bookCells book0 none 0 none 0).toArray 63))) :=
  ⟨⟨heap_alloc_new w _, ⟨⟨rfl, fun _ => rfl, fun a ha => (by cases ha)⟩, ⟨rfl, fun _ => rfl, fun a ha => (by cases ha)⟩, Nat.zero_le _, Nat.zero_le _⟩, fun a ha => (by cases ha), fun a ha => (by cases ha)⟩, hb⟩
 clear hb
 go_enter Tryz.func25, Tryz.ntmps25
 go_wp2
 go_ret
 exact ⟨rfl, HF.out⟩
/-- A book in memory of the call's own. -/
def CopyEnd (w w' : World) (B : Book) (e : Ending) : Prop := ∃ A1 c1 A2 c2, e = .returned (.agg (bookCells B A1 c1 A2 c2).toArray) ∧ Lists w' w.heap.size B A1 c1 A2 c2 ∧ Below w.heap.size w w'
theorem own_setCell {w : World} {base : Nat} {e : TypeId} {size n : Nat} {v : Value} {xs : List Value} (h : w.ownsRow base e size v n xs) {b j : Nat} (hb : b < base) (u : Value) : (w.setCell ⟨b, j, none⟩ u).ownsRow base e size v n xs :=
 ownsRow_setCell_other h (a := ⟨b, j, none⟩) (fun k hk e => by have h1 := own_base h k hk; have h2 : k = b := e; omega) u
set_option maxHeartbeats 8000000 in
set_option maxRecDepth 100000 in
theorem copy_ref (B : Book) (A1 : Option Addr) (c1 : Nat) (A2 : Option Addr) (c2 : Nat) (w : World) (h : SrcB w B A1 A2) (hs1 : B.devs.length ≤ 2513169434916) (hs2 : B.spent.length ≤ 4398046511104) :
  Calls Tryz.prog 22 #[.agg (bookCells B A1 c1 A2 c2).toArray] w fun e w' => CopyEnd w w' B e := by
 obtain ⟨W0, hW0⟩ : ∃ W0, W0 = (w.alloc (.cells (bookCells B A1 c1 A2 c2).toArray 43)).alloc (.cells #[.int .i64 0, .int .i64 0, .slice none 0 0, .slice none 0 0, .string ⟨#[]⟩] 43) := ⟨_, rfl⟩
 obtain ⟨p, hp⟩ : ∃ p, p = w.heap.size := ⟨_, rfl⟩
 have hsz : (w.alloc (.cells (bookCells B A1 c1 A2 c2).toArray 43)).heap.size = p + 1 := by rw [hp]; simp
 have hI : InB w W0 p B A1 c1 A2 c2 := by rw [hW0, hp]; exact (InB.start h).later ((Below.refl _ _).alloc (Nat.le_refl _) _)
 have q2 : W0.heap[p + 1]? = some (.cells ([.int .i64 0, .int .i64 0, .slice none 0 0, .slice none 0 0, .string ⟨#[]⟩] : List Value).toArray 43 (0, 0)) := by rw [hW0, ← hsz]; exact heap_alloc_new _ _
 have hs0 : W0.heap.size = p + 2 := by rw [hW0]; simp [hp]
 have st := Aside0.mk (fun (c : Array Value) (hc : c.size = 5) => run_storeNew Tryz.prog W0 43 5 size43 c (bookCells B A1 c1 A2 c2).toArray hc rfl (by simpa using book_one B A1 A2 c1 c2))
 obtain ⟨W1, hW1⟩ : ∃ W1, W1 = W0.alloc (.cells (bookCells B A1 c1 A2 c2).toArray 43) := ⟨_, rfl⟩
 have hb1 : Below W0.heap.size W0 W1 := by rw [hW1]; exact (Below.refl _ W0).alloc (Nat.le_refl _) _
 have q3 : W1.heap[p + 2]? = some (.cells (bookCells B A1 c1 A2 c2).toArray 43 (0, 0)) := by rw [hW1, ← hs0]; exact heap_alloc_new _ _
 have hs1' : W1.heap.size = p + 3 := by rw [hW1]; simp [hs0]
 have HS := Aside0.mk (And.intro hs1 hs2)
 have LB := Aside0.mk hI.load
 have HP := Aside0.mk (And.intro hp (And.intro hs0 hs1'))
 have HI := Aside0.mk (hI.later hb1)
 have HQ2 := Aside0.mk (room_at q2 hb1)
 have HQ3 := Aside0.mk q3
 have HF := Aside0.mk (below_step hI.fr hb1)
 have HAR := Aside0.mk h
 obtain ⟨BA, hBA⟩ : ∃ BA, BA = (bookCells B A1 c1 A2 c2).toArray := ⟨_, rfl⟩
 rw [← hBA] at hW0 hsz LB st hW1 ⊢
 clear hI h hs1 hs2 q2 q3 hb1 hBA hs1' hs0
 go_enter Tryz.func22, Tryz.ntmps22
 go_upto_region 1 with fail
 rw [← hW0]
 try rw [hsz]
 try rw [← hp]
 have HEQ := Aside0.mk (And.intro hW0 hsz)
 clear hW0 hsz hp
 go_upto_region 2 with (first | ((with_reducible refine at_load 43 (.tmp 1) ?_); refine wpList_loadK rfl 43 (.tmp 1) rfl _ rfl _ LB.out ?_) | ((with_reducible refine at_store 43 (.tmp 3) (.tmp 4) ?_); refine wpList_storeK rfl 43 (.tmp 3) (.tmp 4) rfl rfl _ _ rfl rfl _ (st.out _ rfl) ?_))
 rw [← hW1]
 try rw [HP.out.2.1]
 clear hW1 st LB
 have k2 : W1.cell? ⟨p + 2, 2, none⟩ = some (.slice A1 B.devs.length c1) := by rw [cell_of_heap HQ3.out]; rfl
 have k3 : W1.cell? ⟨p + 2, 3, none⟩ = some (.slice A2 B.spent.length c2) := by rw [cell_of_heap HQ3.out]; rfl
 have fz : ∀ j, W1.frozen? ⟨p + 2, j, none⟩ = false := fun j => frozen_of_heap HQ3.out
 obtain ⟨W3, hW3⟩ : ∃ W3, W3 = (W1.setCell ⟨p + 2, 2, none⟩ (.slice none 0 0)).setCell ⟨p + 2, 3, none⟩ (.slice none 0 0) := ⟨_, rfl⟩
 have HQ5 := Aside0.mk (show W3.heap[p + 2]? = some (.cells ([.int .i64 B.ver, .int .i64 B.clock, .slice none 0 0, .slice none 0 0, .string (str B.acl)] : List Value).toArray 43 (0, 0)) by
  have h1 := heap_setCell_same W1 (p + 2) 2 _ _ (.slice none 0 0) HQ3.out
  have h2 := heap_setCell_same _ (p + 2) 3 _ _ (.slice none 0 0) h1
  rw [hW3, h2]
  rfl)
 have HB3 := Aside0.mk (show Below (p + 2) W1 W3 by rw [hW3]; exact ((Below.refl (p + 2) W1).setCell (by simp) _).setCell (by simp) _)
 have HZ3 := Aside0.mk (show W3.heap.size = p + 3 by rw [hW3]; simp [HP.out.2.2])
 go_upto_region 4 with fail
 rw [← hW3]
 clear hW3 k2 k3 fz
 have HF3 := Aside0.mk (show Below w.heap.size w W3 from HF.out.trans (HB3.out.mono (by have := HP.out.1; omega)))
 have HI3 := Aside0.mk (show W3.heap[p]? = some (.cells (bookCells B A1 c1 A2 c2).toArray 43 (0, 0)) from (HB3.out.block p (by omega)).trans HI.out.bx)
 have HR3 := Aside0.mk (show W3.heap[p + 1]? = some (.cells ([.int .i64 0, .int .i64 0, .slice none 0 0, .slice none 0 0, .string ⟨#[]⟩] : List Value).toArray 43 (0, 0)) from (HB3.out.block (p + 1) (by omega)).trans HQ2.out)
 have k2 : W3.cell? ⟨p + 2, 2, none⟩ = some (.slice none 0 0) := by rw [cell_of_heap HQ5.out]; rfl
 have j2 : W3.cell? ⟨p, 2, none⟩ = some (.slice A1 B.devs.length c1) := by rw [cell_of_heap HI3.out]; rfl
 go_wp2_with (at_builtin; refine wpList_appD rfl (.tmp 8) (.tmp 10) rfl W3.heap.size none 0 [] rfl (ownD_nil _ _) A1 c1 B.devs rfl (HAR.out.later HF3.out).devs ?hl1 (Nat.le_refl _) ?_)
 case hl1 => have := HS.out.1; simp; omega
 intro A3 c3 w4 h1 h2 h3
 try simp only [List.nil_append] at h1 ⊢
 have HO4 := Aside0.mk h1
 have HB4 := Aside0.mk h2
 have HQ6 := Aside0.mk (room_at HQ5.out h2)
 clear h1 h2 h3 k2 j2
 have k2 : w4.cell? ⟨p + 2, 2, none⟩ = some (.slice none 0 0) := by rw [cell_of_heap HQ6.out]; rfl
 have fz : w4.frozen? ⟨p + 2, 2, none⟩ = false := frozen_of_heap HQ6.out
 obtain ⟨W5, hW5⟩ : ∃ W5, W5 = w4.setCell ⟨p + 2, 2, none⟩ (.slice A3 B.devs.length c3) := ⟨_, rfl⟩
 have HQ7 := Aside0.mk (show W5.heap[p + 2]? = some (.cells ([.int .i64 B.ver, .int .i64 B.clock, .slice A3 B.devs.length c3, .slice none 0 0, .string (str B.acl)] : List Value).toArray 43 (0, 0)) by rw [hW5, heap_setCell_same w4 (p + 2) 2 _ _ _ HQ6.out]; rfl)
 have HO5 := Aside0.mk (show OwnD W5 W3.heap.size A3 c3 B.devs by rw [hW5]; exact own_setCell HO4.out (by rw [HZ3.out]; omega) _)
 have HF5 := Aside0.mk (show Below w.heap.size w W5 by rw [hW5]; exact (HF3.out.trans (HB4.out.mono HF3.out.size)).setCell (by have := HP.out.1; show w.heap.size ≤ p + 2; omega) _)
 have HO5B := Aside0.mk (show Below p W3 W5 by rw [hW5]; exact (HB4.out.mono (by rw [HZ3.out]; omega)).setCell (by show p ≤ p + 2; omega) _)
 have HI5 := Aside0.mk (show W5.heap[p]? = some (.cells (bookCells B A1 c1 A2 c2).toArray 43 (0, 0)) by rw [hW5, Below.heap_setCell _ _ _ _ (by simp)]; exact room_at HI3.out HB4.out)
 have HR5 := Aside0.mk (show W5.heap[p + 1]? = some (.cells ([.int .i64 0, .int .i64 0, .slice none 0 0, .slice none 0 0, .string ⟨#[]⟩] : List Value).toArray 43 (0, 0)) by rw [hW5, Below.heap_setCell _ _ _ _ (by simp)]; exact room_at HR3.out HB4.out)
 go_upto_region 5 with fail
 rw [← hW5]
 have HZ5 := Aside0.mk (show p + 3 ≤ W5.heap.size by rw [hW5]; have := HB4.out.size; rw [HZ3.out] at this; simpa using this)
 clear hW5 k2 fz
 have k3 : W5.cell? ⟨p + 2, 3, none⟩ = some (.slice none 0 0) := by rw [cell_of_heap HQ7.out]; rfl
 have j3 : W5.cell? ⟨p, 3, none⟩ = some (.slice A2 B.spent.length c2) := by rw [cell_of_heap HI5.out]; rfl
 go_wp2_with (at_builtin; refine wpList_appK rfl (.tmp 14) (.tmp 16) rfl W5.heap.size none 0 [] rfl (ownK_nil _ _) A2 c2 B.spent rfl (HAR.out.later HF5.out).spent ?hl2 (Nat.le_refl _) ?_)
 case hl2 => have := HS.out.2; simp; omega
 intro A4 c4 w6 h1 h2 h3
 try simp only [List.nil_append] at h1 ⊢
 have HO6 := Aside0.mk h1
 have HB6 := Aside0.mk h2
 have HQ8 := Aside0.mk (room_at HQ7.out h2)
 clear h1 h2 h3 k3 j3
 have k3 : w6.cell? ⟨p + 2, 3, none⟩ = some (.slice none 0 0) := by rw [cell_of_heap HQ8.out]; rfl
 have fz : w6.frozen? ⟨p + 2, 3, none⟩ = false := frozen_of_heap HQ8.out
 obtain ⟨W7, hW7⟩ : ∃ W7, W7 = w6.setCell ⟨p + 2, 3, none⟩ (.slice A4 B.spent.length c4) := ⟨_, rfl⟩
 have HQ9 := Aside0.mk (show W7.heap[p + 2]? = some (.cells (bookCells B A3 c3 A4 c4).toArray 43 (0, 0)) by rw [hW7, heap_setCell_same w6 (p + 2) 3 _ _ _ HQ8.out]; rfl)
 have HO7 := Aside0.mk (show OwnD W7 W3.heap.size A3 c3 B.devs by rw [hW7]; exact own_setCell (HO5.out.below HB6.out) (by rw [HZ3.out]; omega) _)
 have HO8 := Aside0.mk (show OwnK W7 W3.heap.size A4 c4 B.spent by rw [hW7]; exact own_setCell (own_weaken HO6.out (by rw [HZ3.out]; exact HZ5.out)) (by rw [HZ3.out]; omega) _)
 have HF7 := Aside0.mk (show Below w.heap.size w W7 by rw [hW7]; exact (HF5.out.trans (HB6.out.mono HF5.out.size)).setCell (by have := HP.out.1; show w.heap.size ≤ p + 2; omega) _)
 have HR7 := Aside0.mk (show W7.heap[p + 1]? = some (.cells ([.int .i64 0, .int .i64 0, .slice none 0 0, .slice none 0 0, .string ⟨#[]⟩] : List Value).toArray 43 (0, 0)) by rw [hW7, Below.heap_setCell _ _ _ _ (by simp)]; exact room_at HR5.out HB6.out)
 go_upto_region 6 with fail
 rw [← hW7]
 clear hW7 k3 fz
 have LB2 := Aside0.mk (run_loadAtK Tryz.prog W7 43 5 Tryz.isAgg43 Tryz.sizeOf43 (p + 2) 0 _ rfl (cells_of_heap HQ9.out))
 have ST := Aside0.mk (store_book W7 (p + 1) _ HR7.out rfl B A3 c3 A4 c4)
 have HFF := Aside0.mk (setRow_heap W7 (p + 1) _ (bookCells B A3 c3 A4 c4).toArray 43 (0, 0) HR7.out)
 obtain ⟨CB, hCB⟩ : ∃ CB, CB = (bookCells B A3 c3 A4 c4).toArray := ⟨_, rfl⟩
 rw [← hCB] at LB2 ST HFF
 have HCB := Aside0.mk hCB
 have HSZ := Aside0.mk (show CB.size = 5 by rw [hCB]; rfl)
 clear hCB
 go_wp2_with (first | ((with_reducible refine at_load 43 (.tmp 3) ?_); refine wpList_loadK rfl 43 (.tmp 3) rfl _ rfl _ LB2.out ?_) | ((with_reducible refine at_store 43 (.tmp 2) (.tmp 19) ?_); refine wpList_storeK rfl 43 (.tmp 2) (.tmp 19) rfl rfl _ _ rfl rfl _ ST.out ?_))
 try simp only [Exit.inBlock, Exit.then]
 refine bodyPost_ret (results_cell_row rfl _ _ (p + 1) 43 _ (0, 0) _ rfl HFF.out Tryz.underlying43 rfl (by rw [HSZ.out]; kernel_rfl)) rfl ?_
 have h3 := HZ3.out
 have hp := HP.out.1
 have o1 : OwnD (W7.setRow (p + 1) CB) W3.heap.size A3 c3 B.devs := ownD_setRow HO7.out (by omega) _
 have o2 : OwnK (W7.setRow (p + 1) CB) W3.heap.size A4 c4 B.spent := ownK_setRow HO8.out (by omega) _
 refine ⟨A3, c3, A4, c4, by rw [HCB.out], ⟨own_weaken o1 (by omega), own_weaken o2 (by omega), own_apart o1 o2 (by decide)⟩, below_setRow HF7.out (by omega) _⟩
end Go.Proofs.YthnpiimiimiijaaGreatDoor.Dir
