/- Load, of both; a book that is spoilt. -/
import Derived.Test.YthnpiimiimiijaaGreatDoorRefL
namespace Go.Proofs.YthnpiimiimiijaaGreatDoor.Dir
open Go Go.RowKit Go.Proofs Go.Proofs.YthnpiimiimiijaaGreatDoorW.PrintWords Go.Proofs.YthnpiimiimiijaaGreatDoorW.PrintLast Go.Proofs.YthnpiimiimiijaaGreatDoorW.PrintMore
set_option linter.unusedVariables false
set_option linter.unusedSimpArgs false
/-- A directory whose lists lie above a base. -/
def DirHi (w : World) (base p : Nat) (B : Book) : Prop := ∃ A1 c1 A2 c2, w.heap[p]? = some (.cells (.bool true :: bookCells B A1 c1 A2 c2).toArray 83 (0, 0)) ∧ Lists w base B A1 c1 A2 c2
theorem DirHi.at_ {w : World} {base p : Nat} {B : Book} (h : DirHi w base p B) : DirAt w p B := by
 obtain ⟨A1, c1, A2, c2, h1, h2⟩ := h
 refine ⟨A1, c1, A2, c2, h1, h2.lower (Nat.zero_le _), fun k hk e => ?_, fun k hk e => ?_⟩
 ·exact own_ne h2.1 h1 (by decide) (by rw [hk, e])
 ·exact own_ne h2.2.1 h1 (by decide) (by rw [hk, e])
def LoadHi (w w' : World) (B : Book) (e : Ending) : Prop :=
 (∃ p, e = .returned (.tuple #[.pointer (some ⟨p, 0, none⟩), .int .i64 0]) ∧ OkB B ∧ DirHi w' w.heap.size p B ∧ w.heap.size ≤ p) ∨ (e = .returned (.tuple #[.pointer none, .int .i64 2]) ∧ ¬ OkB B)
set_option maxHeartbeats 4000000 in
set_option maxRecDepth 100000 in
theorem load_hi (B : Book) (A1 : Option Addr) (c1 : Nat) (A2 : Option Addr) (c2 : Nat) (w : World) (h : SrcB w B A1 A2) (hbare : Bare A1) (hx : PA.LaidW w) :
  Calls Tryz.prog 23 #[.agg (bookCells B A1 c1 A2 c2).toArray] w fun e w' => LoadHi w w' B e ∧ Below w.heap.size w w' := by
 obtain ⟨W0, hW0⟩ : ∃ W0, W0 = w.alloc (.cells (bookCells B A1 c1 A2 c2).toArray 43) := ⟨_, rfl⟩
 have hb0 : Below w.heap.size w W0 := by rw [hW0]; exact (Below.refl _ w).alloc (Nat.le_refl _) _
 obtain ⟨b0, hb0'⟩ : ∃ b0, b0 = w.heap.size := ⟨_, rfl⟩
 have q1 : W0.heap[b0]? = some (.cells (bookCells B A1 c1 A2 c2).toArray 43 (0, 0)) := by rw [hW0, hb0']; exact heap_alloc_new w _
 have l1 := run_loadAtK Tryz.prog W0 43 5 Tryz.isAgg43 Tryz.sizeOf43 b0 0 (bookCells B A1 c1 A2 c2) rfl (cells_of_heap q1)
 have hS := h.later hb0
 have hck := check_any B A1 c1 A2 c2 W0 hS.devs hS.spent hS.few hS.len hbare (hx.below hb0)
 obtain ⟨BA, hBA⟩ : ∃ BA, BA = (bookCells B A1 c1 A2 c2).toArray := ⟨_, rfl⟩
 have LW : ∀ W, Below W0.heap.size W0 W → (Instr.loadAt 43 (.pointer (some ⟨b0, 0, none⟩))).run Tryz.prog W = .ok (.agg BA) W := fun W hb => by
  rw [hBA]; exact run_loadAtK Tryz.prog W 43 5 Tryz.isAgg43 Tryz.sizeOf43 b0 0 (bookCells B A1 c1 A2 c2) rfl (cells_of_heap ((hb.block _ (Array.getElem?_eq_some_iff.1 q1).1).trans q1))
 have HOWN := Aside0.mk (fun (W : World) (hb : Below W0.heap.size W0 W) (hf : Few B) => own_book B A1 A2 c1 c2 W (hS.later hb).devs (hS.later hb).spent hf)
 rw [← hBA] at l1 hck HOWN hW0 ⊢
 have L1 := Aside0.mk l1
 have HCK := Aside0.mk hck
 have HLW := Aside0.mk LW
 have HB0 := Aside0.mk hb0
 clear h hbare hx hb0 q1 l1 hS hck hBA LW
 go_enter Tryz.func23, Tryz.ntmps23
 go_upto_region 1 with fail
 rw [← hW0, ← hb0']
 have HB0' := Aside0.mk hb0'
 clear hW0 hb0'
 go_wp2_with ((with_reducible refine at_load 43 (.tmp 1) ?_); refine wpList_loadK rfl 43 (.tmp 1) rfl _ rfl _ L1.out ?_)
 refine HCK.out.mono ?_
 rintro e w1 ⟨hce, hb1⟩
 have HB1 := Aside0.mk hb1
 clear hb1
 rcases hce with ⟨rfl, hok⟩ | ⟨rfl, hno⟩
 ·have HOK := Aside0.mk hok
  have L2 := Aside0.mk (HLW.out w1 HB1.out)
  have HO := Aside0.mk (HOWN.out w1 HB1.out ⟨hok.few, hok.len⟩)
  clear hok
  go_wp2_with ((with_reducible refine at_load 43 (.tmp 1) ?_); refine wpList_loadK rfl 43 (.tmp 1) rfl _ rfl _ L2.out ?_)
  refine HO.out.mono ?_
  rintro e w2 ⟨A3, c3, A4, c4, rfl, hL, -, -, hb2⟩
  have HL := Aside0.mk hL
  have HB2 := Aside0.mk (below_step HB1.out hb2)
  clear hL hb2
  rw [show (bookCells B A3 c3 A4 c4).toArray = #[.int .i64 B.ver, .int .i64 B.clock, .slice A3 B.devs.length c3, .slice A4 B.spent.length c4, .string (str B.acl)] from rfl]
  go_wp2_with fail
  go_ret2
  refine ⟨.inl ⟨w2.heap.size, rfl, HOK.out, ?_, ?_⟩, ?_⟩
  ·exact ⟨A3, c3, A4, c4, heap_alloc_new w2 _, (HL.out.lower (Nat.le_trans HB0.out.size HB1.out.size)).below ((Below.refl _ w2).alloc (Nat.le_refl _) _)⟩
  ·exact Nat.le_trans HB0.out.size HB2.out.size
  ·exact (below_step HB0.out HB2.out).alloc (Nat.le_trans HB0.out.size HB2.out.size) _
 ·have HNO := Aside0.mk hno
  clear hno
  go_wp2_with fail
  go_ret2
  exact ⟨.inr ⟨rfl, HNO.out⟩, below_step HB0.out HB1.out⟩
def RLoadEnd (w w' : World) (B : Book) (e : Ending) : Prop :=
 (∃ r A1 c1 A2 c2, e = .returned (.tuple #[.pointer (some ⟨r, 0, none⟩), .int .i64 0]) ∧ MayB B ∧ RDirIs w' r B A1 c1 A2 c2 ∧ NewT w.heap.size w' 46 A1 ∧ NewT w.heap.size w' 34 A2 ∧ w.heap.size ≤ r) ∨ (e = .returned (.tuple #[.pointer none, .int .i64 2]) ∧ ¬ MayB B)
set_option maxHeartbeats 4000000 in
set_option maxRecDepth 100000 in
theorem load_ref (B : Book) (A1 : Option Addr) (c1 : Nat) (A2 : Option Addr) (c2 : Nat) (w : World) (h : SrcB w B A1 A2) :
  Calls Tryz.prog 24 #[.agg (bookCells B A1 c1 A2 c2).toArray] w fun e w' => RLoadEnd w w' B e ∧ Below w.heap.size w w' := by
 have hI := InB.start (c1 := c1) (c2 := c2) h
 obtain ⟨W0, hW0⟩ : ∃ W0, W0 = w.alloc (.cells (bookCells B A1 c1 A2 c2).toArray 43) := ⟨_, rfl⟩
 obtain ⟨p, hp⟩ : ∃ p, p = w.heap.size := ⟨_, rfl⟩
 rw [← hW0, ← hp] at hI
 have HI := Aside0.mk hI
 have HLB := Aside0.mk (fun (W : World) (hb : Below W0.heap.size W0 W) => (hI.later hb).load)
 have HCK := Aside0.mk (check_ref B A1 c1 A2 c2 W0 hI.src)
 have HCP := Aside0.mk (fun (W : World) (hb : Below W0.heap.size W0 W) (hm : MayB B) => copy_ref B A1 c1 A2 c2 W (hI.later hb).src (by have := hm.1.few.1; omega) (by have := hm.1.few.2; omega))
 have L0 := Aside0.mk hI.load
 have HSZ := Aside0.mk (show w.heap.size ≤ W0.heap.size from hI.fr.size)
 obtain ⟨BA, hBA⟩ : ∃ BA, BA = (bookCells B A1 c1 A2 c2).toArray := ⟨_, rfl⟩
 rw [← hBA] at hW0 HLB HCK HCP L0 ⊢
 clear hI h hBA
 go_enter Tryz.func24, Tryz.ntmps24
 go_upto_region 1 with fail
 rw [← hW0, ← hp]
 have HEQ := Aside0.mk (And.intro hW0 hp)
 clear hW0 hp
 go_wp2_with ((with_reducible refine at_load 43 (.tmp 1) ?_); refine wpList_loadK rfl 43 (.tmp 1) rfl _ rfl _ L0.out ?_)
 refine HCK.out.mono ?_
 rintro e w1 ⟨hce, hb1⟩
 have HB1 := Aside0.mk hb1
 clear hb1
 rcases hce with ⟨rfl, hok⟩ | ⟨rfl, hno⟩
 ·have HOK := Aside0.mk hok
  have L1 := Aside0.mk (HLB.out w1 HB1.out)
  have HC := Aside0.mk (HCP.out w1 HB1.out hok)
  clear hok
  go_wp2_with ((with_reducible refine at_load 43 (.tmp 1) ?_); refine wpList_loadK rfl 43 (.tmp 1) rfl _ rfl _ L1.out ?_)
  refine HC.out.mono ?_
  rintro e w2 ⟨A3, c3, A4, c4, rfl, hL, hb2⟩
  have HL := Aside0.mk hL
  have HB2 := Aside0.mk (below_step HB1.out hb2)
  clear hL hb2
  rw [show (bookCells B A3 c3 A4 c4).toArray = #[.int .i64 B.ver, .int .i64 B.clock, .slice A3 B.devs.length c3, .slice A4 B.spent.length c4, .string (str B.acl)] from rfl]
  go_wp2_with fail
  go_ret2
  have hba := (Below.refl w2.heap.size w2).alloc (Nat.le_refl _) (.cells (bookCells B A3 c3 A4 c4).toArray 63)
  have hl := HL.out.below hba
  have hsz := Nat.le_trans HSZ.out HB1.out.size
  refine ⟨.inl ⟨w2.heap.size, A3, c3, A4, c4, rfl, HOK.out, ⟨heap_alloc_new w2 _, SrcB.of_lists hl HOK.out.1.few, own_typed hl.1, own_typed hl.2.1⟩, fun a ha => ⟨Nat.le_trans hsz (own_newA hl.1 a ha), own_typed hl.1 a ha⟩, fun a ha => ⟨Nat.le_trans hsz (own_newA hl.2.1 a ha), own_typed hl.2.1 a ha⟩, Nat.le_trans HSZ.out HB2.out.size⟩, ?_⟩
  exact (below_step HI.out.fr HB2.out).alloc (Nat.le_trans HSZ.out HB2.out.size) _
 ·have HNO := Aside0.mk hno
  clear hno
  go_wp2_with fail
  go_ret2
  exact ⟨.inr ⟨rfl, HNO.out⟩, below_step HI.out.fr HB1.out⟩
/-- Two blocks may have been written. -/
structure Kept2 (w w' : World) (b1 b2 : Option Nat) : Prop where
 os : w'.os = w.os
 tape : w'.tape = w.tape
 output : w'.output = w.output
 size : w.heap.size ≤ w'.heap.size
 block : ∀ k, k < w.heap.size → some k ≠ b1 → some k ≠ b2 → w'.heap[k]? = w.heap[k]?
theorem Kept2.of_below {w w' : World} {b1 b2 : Option Nat} (h : Below w.heap.size w w') : Kept2 w w' b1 b2 := ⟨h.os, h.tape, h.output, h.size, fun k hk _ _ => h.block k hk⟩
theorem Kept2.step {w w1 w2 : World} {b1 b2 : Option Nat} (h : Kept2 w w1 b1 b2) (k : Kept2 w1 w2 b1 b2) : Kept2 w w2 b1 b2 :=
 ⟨k.os.trans h.os, k.tape.trans h.tape, k.output.trans h.output, Nat.le_trans h.size k.size, fun j hj h1 h2 => (k.block j (Nat.lt_of_lt_of_le hj h.size) h1 h2).trans (h.block j hj h1 h2)⟩
theorem Kept2.below {w w' : World} {b1 b2 : Option Nat} {base : Nat} (h : Kept2 w w' b1 b2) (hs : base ≤ w.heap.size) (h1 : ∀ k, b1 = some k → base ≤ k) (h2 : ∀ k, b2 = some k → base ≤ k) : Below base w w' :=
 ⟨h.os, h.tape, h.output, h.size, fun k hk => h.block k (by omega) (fun e => by have := h1 k e.symm; omega) (fun e => by have := h2 k e.symm; omega)⟩
theorem Kept2.setRow {w w1 : World} {b1 b2 : Option Nat} (h : Kept2 w w1 b1 b2) {g : Nat} (hg : b1 = some g ∨ b2 = some g ∨ w.heap.size ≤ g) (cs : Array Value) : Kept2 w (w1.setRow g cs) b1 b2 :=
 ⟨h.os, h.tape, h.output, by rw [setRow_size]; exact h.size, fun k hk h1 h2 => (setRow_other w1 g k cs (fun e => by
  subst e
  rcases hg with e | e | e
  ·exact h1 e.symm
  ·exact h2 e.symm
  ·omega)).trans (h.block k hk h1 h2)⟩
/-- A row of so many cells at least. -/
def RowN (W : World) (b : Option Nat) (T : TypeId) (k : Nat) : Prop := ∀ g, b = some g → ∃ cur : List Value, W.heap[g]? = some (.cells cur.toArray T (0, 0)) ∧ k ≤ cur.length
theorem rowN_own {w : World} {base : Nat} {e : TypeId} {size n : Nat} {v : Value} {xs : List Value} (h : w.ownsRow base e size v n xs) : RowN w v.ownBlock e (n * size) := fun g hg => by
 rcases h.2 with ⟨rfl, -⟩ | ⟨g', cap, cur, rfl, -, hh, hn, -, hs, -⟩
 ·cases hg
 ·have : g' = g := by simpa [Value.ownBlock] using hg
  subst this
  exact ⟨cur.toList, by simpa using hh, by rw [Array.length_toList, hs]; exact Nat.mul_le_mul_right _ hn⟩
theorem RowN.below {W W' : World} {b : Option Nat} {T : TypeId} {k : Nat} (h : RowN W b T k) (hb : Below W.heap.size W W') : RowN W' b T k := fun g hg => by
 obtain ⟨cur, h1, h2⟩ := h g hg
 exact ⟨cur, room_at h1 hb, h2⟩
theorem RowN.setRow {W : World} {b : Option Nat} {T : TypeId} {k : Nat} (h : RowN W b T k) (g : Nat) (cs : List Value) (hc : ∀ cur : List Value, W.heap[g]? = some (.cells cur.toArray T (0, 0)) → cur.length ≤ cs.length) : RowN (W.setRow g cs.toArray) b T k := fun g' hg => by
 obtain ⟨cur, h1, h2⟩ := h g' hg
 by_cases e : g' = g
 ·subst e
  exact ⟨cs, setRow_heap _ _ _ _ _ _ h1, Nat.le_trans h2 (hc cur h1)⟩
 ·exact ⟨cur, by rw [setRow_other _ _ _ _ e]; exact h1, h2⟩
end Go.Proofs.YthnpiimiimiijaaGreatDoor.Dir
