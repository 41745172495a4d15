/- The document's directory: next, at ops that change devices. -/
import Derived.Test.YthnpiimiimiijaaGreatDoorRefF
namespace Go.Proofs.YthnpiimiimiijaaGreatDoor.Dir
open Go Go.RowKit Go.Proofs Go.Proofs.YthnpiimiimiijaaGreatDoorW.PrintWords Go.Proofs.YthnpiimiimiijaaGreatDoorW.PrintLast Go.Proofs.YthnpiimiimiijaaGreatDoorW.PrintMore
set_option linter.unusedVariables false
set_option linter.unusedSimpArgs false
theorem spent_put {B : Book} (hw : WF B) (d : Dev) (hh : hasD B.devs d.node = true) (h1 : 1 ≤ d.node) (h8 : d.node ≤ 8) :
  ({ B with spent := spR B.spent (devAt B d.node).key false, devs := putR B.devs d 8 } : Book) = { spendOf B (devAt B d.node).key with devs := B.devs.set (posD B.devs d.node) d } := by
 obtain ⟨g1, g2, g3, g4⟩ := has_at hw.devs hh
 have hks : (devAt B d.node).key ∉ B.spent := fun hm => by
  have := hw.keys
  unfold takenB at this
  exact (List.nodup_append.1 this).2.2 _ hm _ (List.mem_map.2 ⟨_, g4, rfl⟩) rfl
 unfold spendOf
 rw [spR_plain _ _ hw.spent hks, put_plain hw d h1 h8, if_pos hh]
theorem put_set {B : Book} (hw : WF B) (d : Dev) (hh : hasD B.devs d.node = true) (h1 : 1 ≤ d.node) (h8 : d.node ≤ 8) : ({ B with devs := putR B.devs d 8 } : Book) = { B with devs := B.devs.set (posD B.devs d.node) d } := by
 rw [put_plain hw d h1 h8, if_pos hh]
theorem put_new {B : Book} (hw : WF B) (d : Dev) (hh : hasD B.devs d.node = false) (h1 : 1 ≤ d.node) (h8 : d.node ≤ 8) : ({ B with devs := putR B.devs d 8 } : Book) = { B with devs := insertAt B.devs (posD B.devs d.node) d } := by
 rw [put_plain hw d h1 h8, if_neg (by rw [hh]; decide)]
set_option maxHeartbeats 8000000 in
set_option maxRecDepth 100000 in
theorem next_1 (B : Book) (A1 : Option Addr) (c1 : Nat) (A2 : Option Addr) (c2 : Nat) (o : Op) (w : World) (h : SrcB w B A1 A2) (hw : WF B) (hk : o.kind = 1) :
  Calls Tryz.prog 55 #[.agg (bookCells B A1 c1 A2 c2).toArray, .agg (encO o).toArray] w fun e w' => NextEnd w w' A1 A2 (nextOf rulesOf B o) e := by
 obtain ⟨W0, hW0⟩ : ∃ W0, W0 = ((w.alloc (.cells (bookCells B A1 c1 A2 c2).toArray 43)).alloc (.cells (encO o).toArray 36)).alloc (.cells #[.int .i64 0, .int .i64 0, .slice none 0 0, .slice none 0 0, .string ⟨#[]⟩] 43) := ⟨_, rfl⟩
 obtain ⟨p, hp⟩ : ∃ p, p = w.heap.size := ⟨_, rfl⟩
 have hsz : (w.alloc (.cells (bookCells B A1 c1 A2 c2).toArray 43)).heap.size = p + 1 := by rw [hp]; simp
 have hsz2 : ((w.alloc (.cells (bookCells B A1 c1 A2 c2).toArray 43)).alloc (.cells (encO o).toArray 36)).heap.size = p + 2 := by rw [hp]; simp
 have hI : InO w W0 p (p + 1) B A1 c1 A2 c2 o := by rw [hW0, hp]; exact (InO.start h).later ((Below.refl _ _).alloc (Nat.le_refl _) _)
 have q3 : W0.heap[p + 2]? = some (.cells ([.int .i64 0, .int .i64 0, .slice none 0 0, .slice none 0 0, .string ⟨#[]⟩] : List Value).toArray 43 (0, 0)) := by rw [hW0, ← hsz2]; exact heap_alloc_new _ _
 have HI := Aside0.mk hI
 have HQ3 := Aside0.mk (And.intro q3 (Array.getElem?_eq_some_iff.1 q3).1)
 have HAR := Aside0.mk h
 have HWF := Aside0.mk hw
 have HSM := Aside0.mk (show B.devs.length ≤ 100000000 ∧ B.spent.length ≤ 100000000 by have := devs_len hw; have := hw.len; omega)
 have HLB := Aside0.mk (fun (W : World) (hb : Below W0.heap.size W0 W) => (hI.later hb).bk.load)
 have HLO := Aside0.mk (fun (W : World) (hb : Below W0.heap.size W0 W) => (hI.later hb).load)
 have HFD := Aside0.mk (find_ref B A1 c1 A2 c2 o.node W0 hI.bk.src)
 have HIX := Aside0.mk (idx_pos hw o.node)
 have HFR := Aside0.mk (fun (m : Bool) (W : World) (hb : Below W0.heap.size W0 W) => fresh_ref B A1 c1 A2 c2 o m W (hI.later hb).bk.src (by have := devs_len hw; omega) (by have := hw.len; omega))
 obtain ⟨ix, hix⟩ : ∃ ix, ix = idxF B.devs o.node 0 := ⟨_, rfl⟩
 rw [← hix] at HFD HIX
 obtain ⟨R, hR⟩ : ∃ R, R = nextOf rulesOf B o := ⟨_, rfl⟩
 have HR := Aside0.mk hR
 rw [← hR]
 obtain ⟨BA, hBA⟩ : ∃ BA, BA = (bookCells B A1 c1 A2 c2).toArray := ⟨_, rfl⟩
 obtain ⟨OA, hOA⟩ : ∃ OA, OA = (encO o).toArray := ⟨_, rfl⟩
 have HBA := Aside0.mk (And.intro hBA (show BA.size = 5 by rw [hBA]; rfl))
 rw [← hBA] at hW0 hsz hsz2 HFD HLB HFR ⊢
 rw [← hOA] at hW0 hsz2 HFR HLO ⊢
 clear hI h hw q3 hix hR hBA hOA
 have HK := Aside0.mk hk
 clear hk
 go_enter Tryz.func55, Tryz.ntmps55
 go_upto_region 1 with fail
 rw [← hW0]
 try rw [hsz2]
 try rw [hsz]
 try rw [← hp]
 have HEQ := Aside0.mk (And.intro hW0 (And.intro hp (And.intro hsz hsz2)))
 clear hW0 hsz hsz2 hp
 obtain ⟨nd, hnd⟩ : ∃ nd, nd = o.node := ⟨_, rfl⟩
 have HND := Aside0.mk hnd
 rw [← hnd] at HFD
 have x1 : W0.cell? ⟨p + 1, 1, none⟩ = some (.int .i64 nd) := by rw [hnd]; exact HI.out.cells.2.1
 clear hnd
 have LB := Aside0.mk (HLB.out W0 (Below.refl _ _))
 go_wp2_with ((with_reducible refine at_load 43 (.tmp 2) ?_); refine wpList_loadK rfl 43 (.tmp 2) rfl _ rfl _ LB.out ?_)
 refine HFD.out.mono ?_
 rintro e w1 ⟨rfl, hb1⟩
 have HB1 := Aside0.mk hb1
 obtain ⟨x0, x1', x34, x35, x36⟩ := (HI.out.later hb1).cells
 obtain ⟨k0, k1, k2, k3, k4⟩ := (HI.out.later hb1).bk.cells
 rw [← HND.out] at x1'
 clear x1 hb1 k0 k4
 rw [HK.out] at x0
 by_cases e1 : nd < 1
 ·have d1 : decide (nd < 1) = true := decide_eq_true e1
  have HE := Aside0.mk e1
  clear e1
  have LB2 := Aside0.mk (HLB.out w1 HB1.out)
  obtain ⟨CB, hCB⟩ : ∃ CB, CB = BA := ⟨_, rfl⟩
  have ST := Aside0.mk (store_book w1 (p + 2) _ (room_at HQ3.out.1 HB1.out) rfl B A1 c1 A2 c2)
  have HF := Aside0.mk (setRow_heap w1 (p + 2) _ BA 43 (0, 0) (room_at HQ3.out.1 HB1.out))
  rw [← HBA.out.1] at ST
  have HSZ := Aside0.mk (show CB.size = 5 by rw [hCB]; exact HBA.out.2)
  have HCB := Aside0.mk (show CB = (bookCells B A1 c1 A2 c2).toArray by rw [hCB]; exact HBA.out.1)
  rw [← hCB] at LB2 ST HF
  clear hCB
  go_wp2_with (first | ((with_reducible refine at_load 43 (.tmp 2) ?_); refine wpList_loadK rfl 43 (.tmp 2) rfl _ rfl _ LB2.out ?_) | ((with_reducible refine at_store 43 (.tmp 4) (.tmp 41) ?_); refine wpList_storeK rfl 43 (.tmp 4) (.tmp 41) rfl rfl _ _ rfl rfl _ ST.out ?_))
  try simp only [Exit.inBlock, Exit.then]
  refine bodyPost_ret (results_row_tmp rfl _ _ (p + 2) 43 _ (0, 0) _ rfl HF.out Tryz.underlying43 rfl (by rw [HSZ.out]; kernel_rfl)) rfl ?_
  have hlt0 := HQ3.out.2
  have hfr : Below w.heap.size w (w1.setRow (p + 2) CB) := below_setRow (HI.out.bk.fr.trans ((HB1.out).mono HI.out.bk.fr.size)) (by rw [HEQ.out.2.1]; omega) _
  have hE : R = (B, _) := HR.out.trans (by unfold nextOf registerOf; rw [HK.out, if_pos rfl]; rw [if_pos (.inl (by rw [← HND.out]; exact HE.out))])
  rw [hE]
  refine ⟨A1, c1, A2, c2, by rw [HCB.out]; rfl, ⟨HAR.out.devs.grown hfr, HAR.out.spent.grown hfr, HAR.out.few, HAR.out.len⟩, .inl rfl, .inl rfl, hfr⟩
 by_cases e2 : 8 < nd
 ·have d1 : decide (nd < 1) = false := decide_eq_false e1
  have d2 : decide (8 < nd) = true := decide_eq_true e2
  have HE := Aside0.mk e2
  clear e1 e2
  have LB2 := Aside0.mk (HLB.out w1 HB1.out)
  obtain ⟨CB, hCB⟩ : ∃ CB, CB = BA := ⟨_, rfl⟩
  have ST := Aside0.mk (store_book w1 (p + 2) _ (room_at HQ3.out.1 HB1.out) rfl B A1 c1 A2 c2)
  have HF := Aside0.mk (setRow_heap w1 (p + 2) _ BA 43 (0, 0) (room_at HQ3.out.1 HB1.out))
  rw [← HBA.out.1] at ST
  have HSZ := Aside0.mk (show CB.size = 5 by rw [hCB]; exact HBA.out.2)
  have HCB := Aside0.mk (show CB = (bookCells B A1 c1 A2 c2).toArray by rw [hCB]; exact HBA.out.1)
  rw [← hCB] at LB2 ST HF
  clear hCB
  go_wp2_with (first | ((with_reducible refine at_load 43 (.tmp 2) ?_); refine wpList_loadK rfl 43 (.tmp 2) rfl _ rfl _ LB2.out ?_) | ((with_reducible refine at_store 43 (.tmp 4) (.tmp 41) ?_); refine wpList_storeK rfl 43 (.tmp 4) (.tmp 41) rfl rfl _ _ rfl rfl _ ST.out ?_))
  try simp only [Exit.inBlock, Exit.then]
  refine bodyPost_ret (results_row_tmp rfl _ _ (p + 2) 43 _ (0, 0) _ rfl HF.out Tryz.underlying43 rfl (by rw [HSZ.out]; kernel_rfl)) rfl ?_
  have hlt0 := HQ3.out.2
  have hfr : Below w.heap.size w (w1.setRow (p + 2) CB) := below_setRow (HI.out.bk.fr.trans ((HB1.out).mono HI.out.bk.fr.size)) (by rw [HEQ.out.2.1]; omega) _
  have hE : R = (B, _) := HR.out.trans (by unfold nextOf registerOf; rw [HK.out, if_pos rfl]; rw [if_pos (.inr (.inl (by rw [← HND.out]; exact HE.out)))])
  rw [hE]
  refine ⟨A1, c1, A2, c2, by rw [HCB.out]; rfl, ⟨HAR.out.devs.grown hfr, HAR.out.spent.grown hfr, HAR.out.few, HAR.out.len⟩, .inl rfl, .inl rfl, hfr⟩
 have d1 : decide (nd < 1) = false := decide_eq_false e1
 have d2 : decide (8 < nd) = false := decide_eq_false e2
 have HE1 := Aside0.mk (show 1 ≤ o.node ∧ o.node ≤ 8 by rw [← HND.out]; omega)
 clear e1 e2
 by_cases hh : hasD B.devs o.node = true
 ·skip
  have hh' : hasD B.devs o.node = true := hh
  obtain ⟨g1, g2, g3, g4⟩ := has_at HWF.out.devs hh'
  have hixi : ix = (posD B.devs o.node : Int) := HIX.out.trans (if_pos hh')
  obtain ⟨i, hi⟩ : ∃ i, i = posD B.devs o.node := ⟨_, rfl⟩
  obtain ⟨dd, hdd⟩ : ∃ dd, dd = devAt B o.node := ⟨_, rfl⟩
  have HDD := Aside0.mk (And.intro hi hdd)
  rw [← hi] at g1 g2 hixi
  rw [← hdd] at g2 g3
  obtain ⟨g, o', hA1, hc⟩ := HI.out.bk.src.devc g2
  subst hA1
  have HC := Aside0.mk hc
  have HFW := HAR.out.few
  have hlt3 : (i : Int) < (B.devs.length : Int) := by omega
  obtain ⟨rv, hrv⟩ : ∃ rv, rv = dd.rev := ⟨_, rfl⟩
  have HRV := Aside0.mk hrv
  have r1 : w1.cell? ⟨g, o' + i * 35 + 34, none⟩ = some (.bool rv) := by rw [hrv]; exact hc w1 HB1.out 34 _ (revOfD dd)
  have HHH := Aside0.mk hh'
  clear hc hi hdd hrv g2 g3 g4 hh hh'
  subst hixi
  cases rv
  ·have HW : Aside0 (o.node < 1 ∨ 8 < o.node ∨ hasD B.devs o.node = true ∧ (devAt B o.node).rev = false) := ⟨.inr (.inr ⟨HHH.out, by rw [← HDD.out.2]; exact HRV.out.symm⟩)⟩
   have LB2 := Aside0.mk (HLB.out w1 HB1.out)
   obtain ⟨CB, hCB⟩ : ∃ CB, CB = BA := ⟨_, rfl⟩
   have ST := Aside0.mk (store_book w1 (p + 2) _ (room_at HQ3.out.1 HB1.out) rfl B (some ⟨g, o', none⟩) c1 A2 c2)
   have HF := Aside0.mk (setRow_heap w1 (p + 2) _ BA 43 (0, 0) (room_at HQ3.out.1 HB1.out))
   rw [← HBA.out.1] at ST
   have HSZ := Aside0.mk (show CB.size = 5 by rw [hCB]; exact HBA.out.2)
   have HCB := Aside0.mk (show CB = (bookCells B (some ⟨g, o', none⟩) c1 A2 c2).toArray by rw [hCB]; exact HBA.out.1)
   rw [← hCB] at LB2 ST HF
   clear hCB
   go_wp2_with (first | ((with_reducible refine at_load 43 (.tmp 2) ?_); refine wpList_loadK rfl 43 (.tmp 2) rfl _ rfl _ LB2.out ?_) | ((with_reducible refine at_store 43 (.tmp 4) (.tmp 41) ?_); refine wpList_storeK rfl 43 (.tmp 4) (.tmp 41) rfl rfl _ _ rfl rfl _ ST.out ?_))
   try simp only [Exit.inBlock, Exit.then]
   refine bodyPost_ret (results_row_tmp rfl _ _ (p + 2) 43 _ (0, 0) _ rfl HF.out Tryz.underlying43 rfl (by rw [HSZ.out]; kernel_rfl)) rfl ?_
   have hlt0 := HQ3.out.2
   have hfr : Below w.heap.size w (w1.setRow (p + 2) CB) := below_setRow (HI.out.bk.fr.trans ((HB1.out).mono HI.out.bk.fr.size)) (by rw [HEQ.out.2.1]; omega) _
   have hE : R = (B, _) := HR.out.trans (by unfold nextOf registerOf; rw [HK.out, if_pos rfl]; rw [if_pos HW.out])
   rw [hE]
   refine ⟨(some ⟨g, o', none⟩), c1, A2, c2, by rw [HCB.out]; rfl, ⟨HAR.out.devs.grown hfr, HAR.out.spent.grown hfr, HAR.out.few, HAR.out.len⟩, .inl rfl, .inl rfl, hfr⟩
  have HW : Aside0 (¬ (o.node < 1 ∨ 8 < o.node ∨ hasD B.devs o.node = true ∧ (devAt B o.node).rev = false)) := ⟨by
   have := HE1.out
   rintro (h | h | ⟨-, h⟩)
   ·omega
   ·omega
   ·rw [← HDD.out.2, ← HRV.out] at h; cases h⟩
  have LB1 := Aside0.mk (HLB.out w1 HB1.out)
  have LO1 := Aside0.mk (HLO.out w1 HB1.out)
  have HFC := Aside0.mk (HFR.out true w1 HB1.out)
  obtain ⟨fe, hfe⟩ : ∃ fe, fe = freshOf B o true := ⟨_, rfl⟩
  rw [← hfe] at HFC
  have HFE := Aside0.mk hfe
  clear hfe
  go_wp2_with (first | ((with_reducible refine at_load 43 (.tmp 2) ?_); refine wpList_loadK rfl 43 (.tmp 2) rfl _ rfl _ LB1.out ?_) | ((with_reducible refine at_load 36 (.tmp 3) ?_); refine wpList_loadK rfl 36 (.tmp 3) rfl _ rfl _ LO1.out ?_))
  refine HFC.out.mono ?_
  rintro e w2 ⟨rfl, hb2⟩
  have HB2 := Aside0.mk (below_step HB1.out hb2)
  clear hb2
  by_cases hf : fe = 0
  ·have HFZ := Aside0.mk (HFE.out.symm.trans hf)
   subst hf
   obtain ⟨KA, hKA⟩ : ∃ KA, KA = (encK dd.key).toArray := ⟨_, rfl⟩
   obtain ⟨B1, hB1⟩ : ∃ B1 : Book, B1 = { B with spent := spR B.spent dd.key false } := ⟨_, rfl⟩
   have KL := Aside0.mk (fun (W : World) (hb : Below W0.heap.size W0 W) => run_loadAtK Tryz.prog W 34 32 Tryz.isAgg34 Tryz.sizeOf34 g (o' + i * 35 + 1) (encK dd.key) (encK_len _) (fun j v hj => by rw [Nat.add_assoc]; exact HC.out W hb (1 + j) v (keyOfD dd j v hj)))
   have HSPD := Aside0.mk (fun (W : World) (hb : Below W0.heap.size W0 W) => spend_ref B (some ⟨g, o', none⟩) c1 A2 c2 dd.key W (HI.out.later hb).bk.src HSM.out.2)
   rw [← hKA, ← HBA.out.1, ← hB1] at HSPD
   rw [← hKA] at KL
   have HB1' := Aside0.mk hB1
   have HKA := Aside0.mk hKA
   have h5w : W0.heap.size ≤ w2.heap.size := HB2.out.size
   clear hKA r1 x1' x34 x35 x36 k1 k2 k3 h5w
   go_upto_region 10 with fail
   refine start_ (n := 9) (S := fun W => Below w2.heap.size w2 W) (ds := [7, 8]) #[false, false, false, false, false, false, false, false, false] (by kernel_rfl) rfl rfl ((Below.refl _ w2).drew) (fun hHeld => ?_)
   generalize World.drew _ = w5 at hHeld ⊢
   refine pure_ (i := 1) (N := (some 54)) (v := ?_) (a' := ?_) #[false, true, false, false, false, false, false, false, false] rfl rfl (by kernel_rfl) (fun _ _ _ h => h) (Or.inl ⟨by rfl, ?_⟩) ?_ ?_
   rotate_left
   ·intro w'
    go_simp
    with_reducible rfl
   rotate_left
   ·simp only [Act.put, List.setIfInBounds_toArray, List.set_cons_zero, List.set_cons_succ, i64_w, i32_w]
    rfl
   refine pure_ (i := 3) (N := (some 56)) (v := ?_) (a' := ?_) #[false, true, false, true, false, false, false, false, false] rfl rfl (by kernel_rfl) (fun _ _ _ h => h) (Or.inl ⟨by rfl, ?_⟩) ?_ ?_
   rotate_left
   ·intro w'
    go_simp
    with_reducible rfl
   rotate_left
   ·simp only [Act.put, List.setIfInBounds_toArray, List.set_cons_zero, List.set_cons_succ, i64_w, i32_w]
    rfl
   refine take_ (i := 0) (N := (some 53)) (v := _) (a' := ?_) #[true, true, false, true, false, false, false, false, false] rfl rfl (by kernel_rfl) (fun _ _ _ h => h) (Or.inl ⟨by rfl, fun w' hs => yields_load 43 (.tmp 2) _ rfl _ _ rfl _ (HLB.out w' (below_step HB2.out hs))⟩) hHeld ?_ ?_
   rotate_left
   ·simp only [Act.put, List.setIfInBounds_toArray, List.set_cons_zero, List.set_cons_succ, i64_w, i32_w]
    rfl
   refine take_ (i := 2) (N := (some 55)) (v := ?_) (a' := ?_) #[true, true, true, true, false, false, false, false, false] rfl rfl (by kernel_rfl) (fun _ _ _ h => h) (Or.inl ⟨by rfl, ?_⟩) hHeld ?_ ?_
   rotate_left
   ·rintro w' hs
    obtain ⟨-, -, k2, -, -⟩ := (HI.out.later (below_step HB2.out hs)).bk.cells
    go_simp
    with_reducible rfl
   rotate_left
   ·simp only [Act.put, List.setIfInBounds_toArray, List.set_cons_zero, List.set_cons_succ, i64_w, i32_w]
    rfl
   refine pure_ (i := 4) (N := (some 57)) (v := ?_) (a' := ?_) #[true, true, true, true, true, false, false, false, false] rfl rfl (by kernel_rfl) (fun _ _ _ h => h) (Or.inl ⟨by rfl, ?_⟩) ?_ ?_
   rotate_left
   ·intro w'
    go_simp
    with_reducible rfl
   rotate_left
   ·simp only [Act.put, List.setIfInBounds_toArray, List.set_cons_zero, List.set_cons_succ, i64_w, i32_w]
    rfl
   refine pure_ (i := 5) (N := (some 58)) (v := ?_) (a' := ?_) #[true, true, true, true, true, true, false, false, false] rfl rfl (by kernel_rfl) (fun _ _ _ h => h) (Or.inl ⟨by rfl, ?_⟩) ?_ ?_
   rotate_left
   ·intro w'
    go_simp
    with_reducible rfl
   rotate_left
   ·simp only [Act.put, List.setIfInBounds_toArray, List.set_cons_zero, List.set_cons_succ, i64_w, i32_w]
    rfl
   refine take_ (i := 6) (N := (some 59)) (v := _) (a' := ?_) #[true, true, true, true, true, true, true, false, false] rfl rfl (by kernel_rfl) (fun _ _ _ h => h) (Or.inl ⟨by rfl, fun w' hs => yields_load 34 (.tmp 58) _ rfl _ _ rfl _ (KL.out w' (below_step HB2.out hs))⟩) hHeld ?_ ?_
   rotate_left
   ·simp only [Act.put, List.setIfInBounds_toArray, List.set_cons_zero, List.set_cons_succ, i64_w, i32_w]
    rfl
   refine last_ (i := 7) (N := (some 60)) #[true, true, true, true, true, true, true, true, false] rfl rfl (by kernel_rfl) (by decide) (fun K hK => ?_)
   refine goes_ Tryz.func94 (by kernel_rfl) rfl #[.agg BA, .agg KA] (by rfl) rfl rfl (by (try simp only [List.map_toArray, List.map_cons, List.map_nil]); first | done | rfl) ?_
   refine (HSPD.out _ (below_step HB2.out hHeld)).mono ?_
   rintro e w5c ⟨A3, c3, rfl, hs3, hn3, hb3⟩
   refine ⟨_, rfl, ?_⟩
   have HB5 := Aside0.mk (below_step (below_step HB2.out hHeld) hb3)
   have HS3 := Aside0.mk (And.intro hs3 hn3)
   have HLW := Aside0.mk (Nat.le_trans HB2.out.size hHeld.size)
   clear hs3 hn3 hb3 hHeld
   refine hK.out _ _ ?_
   clear hK K
   refine norm_ (a' := ?_) ?_ ?_
   rotate_left
   ·show Act.put _ (some 60) _ = _
    simp only [Act.put, List.setIfInBounds_toArray, List.set_cons_zero, List.set_cons_succ, i64_w, i32_w]
    rfl
   refine last_ (i := 8) (N := none) #[true, true, true, true, true, true, true, true, true] rfl rfl (by kernel_rfl) (by decide) (fun K hK => ?_)
   refine store_ (w1 := w5c.setRow p (bookCells B1 (some ⟨g, o', none⟩) c1 A3 c3).toArray) (by rfl) rfl ?_ ?_
   ·exact runs_store 43 (.tmp 2) (.tmp 60) _ rfl _ _ _ rfl rfl _ (store_book w5c p _ (room_at HI.out.bk.bx HB5.out) rfl B1 (some ⟨g, o', none⟩) c1 A3 c3)
   skip
   refine hK.out _ _ ?_
   clear hK K
   refine norm_ (a' := ?_) ?_ ?_
   rotate_left
   ·show Act.put _ none _ = _
    simp only [Act.put, List.setIfInBounds_toArray, List.set_cons_zero, List.set_cons_succ, i64_w, i32_w]
    rfl
   refine done_ (by kernel_rfl) ?_
   have h5w : W0.heap.size ≤ w2.heap.size := HB2.out.size
   obtain ⟨W3, hW3⟩ : ∃ W3, W3 = w5c.setRow p (bookCells B1 (some ⟨g, o', none⟩) c1 A3 c3).toArray := ⟨_, rfl⟩
   have hp2 : w5c.heap[p + 2]? = some (.cells ([.int .i64 0, .int .i64 0, .slice none 0 0, .slice none 0 0, .string ⟨#[]⟩] : List Value).toArray 43 (0, 0)) := room_at HQ3.out.1 HB5.out
   have HROOM := Aside0.mk (show W3.heap[p + 2]? = some (.cells ([.int .i64 0, .int .i64 0, .slice none 0 0, .slice none 0 0, .string ⟨#[]⟩] : List Value).toArray 43 (0, 0)) by rw [hW3, setRow_other _ _ _ _ (by omega)]; exact hp2)
   have hop : W3.heap[p + 1]? = some (.cells (encO o).toArray 36 (0, 0)) := by rw [hW3, setRow_other _ _ _ _ (by omega)]; exact room_at HI.out.op HB5.out
   have hq : W3.heap[p]? = some (.cells (bookCells B1 (some ⟨g, o', none⟩) c1 A3 c3).toArray 43 (0, 0)) := by rw [hW3]; exact setRow_heap _ _ _ _ _ _ (room_at HI.out.bk.bx HB5.out)
   have HF3 := Aside0.mk (show Below w.heap.size w W3 by rw [hW3]; exact below_setRow (HI.out.bk.fr.trans (HB5.out.mono HI.out.bk.fr.size)) (by rw [HEQ.out.2.1]; exact Nat.le_refl _) _)
   have HNE3 := Aside0.mk (show ∀ a, A3 = some a → p + 2 < a.block from fun a ha => by have h1 := (HS3.out.2 a ha).1; have h2 := HLW.out; have h3 := HQ3.out.2; have := h5w; omega)
   have HT3 := Aside0.mk (show TyA W3 A3 34 by rw [hW3]; exact HS3.out.2.ty.setRow _ _)
   have HSB3 := Aside0.mk (show SrcB W3 B1 (some ⟨g, o', none⟩) A3 from ⟨by rw [hB1]; exact HAR.out.devs.grown HF3.out, by rw [hW3]; exact HS3.out.1.spent.setRow (fun a ha e => by have := HNE3.out a ha; omega) _, HS3.out.1.few, HS3.out.1.len⟩)
   have LB3 := Aside0.mk (run_loadAtK Tryz.prog W3 43 5 Tryz.isAgg43 Tryz.sizeOf43 p 0 _ rfl (cells_of_heap hq))
   have LK3 := Aside0.mk (run_loadAtK Tryz.prog W3 34 32 Tryz.isAgg34 Tryz.sizeOf34 (p + 1) 2 (encK o.key) (encK_len _) (fun j v hj => by rw [cell_of_heap hop]; exact keyOfO o j v hj))
   have y1 : W3.cell? ⟨p + 1, 1, none⟩ = some (.int .i64 nd) := by rw [cell_of_heap hop, HND.out]; rfl
   have y34 : W3.cell? ⟨p + 1, 34, none⟩ = some (.int .i64 o.exp) := by rw [cell_of_heap hop]; exact tailOfO o 0
   have BD := Aside0.mk (show (Instr.build 46 #[(0, .int .i64 nd), (1, .agg (encK o.key).toArray), (2, .int .i64 o.exp)]).run Tryz.prog W3 = .ok (.agg (encD (devOf o)).toArray) W3 by rw [HND.out]; exact run_buildDev W3 o.node o.exp o.key)
   rw [← hW3]
   clear hW3 hp2 hop hq
   clear h5w hB1
   go_upto_region 12 with (first | ((with_reducible refine at_load 43 (.tmp 2) ?_); refine wpList_loadK rfl 43 (.tmp 2) rfl _ rfl _ LB3.out ?_) | ((with_reducible refine at_load 34 (.tmp 64) ?_); refine wpList_loadK rfl 34 (.tmp 64) rfl _ rfl _ LK3.out ?_) | ((with_reducible refine at_build 46 #[(0, .tmp 63), (1, .tmp 65), (2, .tmp 67)] ?_); refine wpList_build3 rfl 46 (.tmp 63) (.tmp 65) (.tmp 67) rfl _ _ _ rfl rfl rfl _ _ BD.out ?_))
   refine (put_ref B1 (some ⟨g, o', none⟩) c1 A3 c3 (devOf o) W3 HSB3.out).mono ?_
   rintro e w6 ⟨A5, c5, rfl, hs5, hn5, hb5⟩
   have HS5 := Aside0.mk (And.intro hs5 (And.intro hn5 hb5))
   have hroom : w6.heap[p + 2]? = some (.cells ([.int .i64 0, .int .i64 0, .slice none 0 0, .slice none 0 0, .string ⟨#[]⟩] : List Value).toArray 43 (0, 0)) := room_at (HROOM.out) hb5
   obtain ⟨B2, hB2⟩ : ∃ B2 : Book, B2 = { B1 with devs := putR B1.devs (devOf o) 8 } := ⟨_, rfl⟩
   have HSB := Aside0.mk (show SrcB w6 B2 A5 A3 by rw [hB2]; exact hs5)
   have ST := Aside0.mk (store_book w6 (p + 2) _ hroom rfl B2 A5 c5 A3 c3)
   have HF := Aside0.mk (setRow_heap w6 (p + 2) _ (bookCells B2 A5 c5 A3 c3).toArray 43 (0, 0) hroom)
   rw [← hB2]
   obtain ⟨CB, hCB⟩ : ∃ CB, CB = (bookCells B2 A5 c5 A3 c3).toArray := ⟨_, rfl⟩
   rw [← hCB] at ST HF ⊢
   have HCB := Aside0.mk hCB
   have HSZ := Aside0.mk (show CB.size = 5 by rw [hCB]; rfl)
   have HB2 := Aside0.mk hB2
   clear hs5 hn5 hb5 hroom hCB hB2
   go_wp2_with ((with_reducible refine at_store 43 (.tmp 4) (.tmp 69) ?_); refine wpList_storeK rfl 43 (.tmp 4) (.tmp 69) rfl rfl _ _ rfl rfl _ ST.out ?_)
   try simp only [Exit.inBlock, Exit.then]
   refine bodyPost_ret (results_row_tmp rfl _ _ (p + 2) 43 _ (0, 0) _ rfl HF.out Tryz.underlying43 rfl (by rw [HSZ.out]; kernel_rfl)) rfl ?_
   have hlt0 := HQ3.out.2
   have hf6 : Below w.heap.size w w6 := below_step HF3.out HS5.out.2.2
   have hfr : Below w.heap.size w (w6.setRow (p + 2) CB) := below_setRow hf6 (by rw [HEQ.out.2.1]; omega) _
   have hE : R = (B2, 0) := HR.out.trans (by rw [HB2.out]; unfold nextOf registerOf; rw [HK.out, if_pos rfl]; rw [if_neg HW.out, HHH.out, HFZ.out, if_pos rfl, if_pos rfl]; rw [HB1'.out]; have := spent_put HWF.out (devOf o) HHH.out HE1.out.1 HE1.out.2; rw [HDD.out.2]; exact congrArg (fun b : Book => (b, (0 : Int))) this.symm)
   rw [hE]
   have h3 : p + 2 < W3.heap.size := (Array.getElem?_eq_some_iff.1 (HROOM.out)).1
   refine ⟨A5, c5, A3, c3, by rw [HCB.out]; rfl, ⟨HSB.out.devs.setRow (fun a ha e => by have := (HS5.out.2.1 a ha).1; omega) _, HSB.out.spent.setRow (fun a ha e => by have := HNE3.out a ha; omega) _, HSB.out.few, HSB.out.len⟩, .inr (fun a ha => ⟨by have := (HS5.out.2.1 a ha).1; have := HEQ.out.2.1; omega, HS5.out.2.1.ty.setRow _ _ a ha⟩), .inr (fun a ha => ⟨by have := HNE3.out a ha; have := HEQ.out.2.1; omega, (HT3.out.below HS5.out.2.2).setRow _ _ a ha⟩), hfr⟩
  ·have hfb : (fe == 0) = false := beq_eq_false_iff_ne.2 hf
   have HFN := Aside0.mk hf
   clear hf
   have LB2 := Aside0.mk (HLB.out w2 HB2.out)
   obtain ⟨CB, hCB⟩ : ∃ CB, CB = BA := ⟨_, rfl⟩
   have ST := Aside0.mk (store_book w2 (p + 2) _ (room_at HQ3.out.1 HB2.out) rfl B (some ⟨g, o', none⟩) c1 A2 c2)
   have HF := Aside0.mk (setRow_heap w2 (p + 2) _ BA 43 (0, 0) (room_at HQ3.out.1 HB2.out))
   rw [← HBA.out.1] at ST
   have HSZ := Aside0.mk (show CB.size = 5 by rw [hCB]; exact HBA.out.2)
   have HCB := Aside0.mk (show CB = (bookCells B (some ⟨g, o', none⟩) c1 A2 c2).toArray by rw [hCB]; exact HBA.out.1)
   rw [← hCB] at LB2 ST HF
   clear hCB
   go_wp2_with (first | ((with_reducible refine at_load 43 (.tmp 2) ?_); refine wpList_loadK rfl 43 (.tmp 2) rfl _ rfl _ LB2.out ?_) | ((with_reducible refine at_store 43 (.tmp 4) (.tmp 49) ?_); refine wpList_storeK rfl 43 (.tmp 4) (.tmp 49) rfl rfl _ _ rfl rfl _ ST.out ?_))
   try simp only [Exit.inBlock, Exit.then]
   refine bodyPost_ret (results_row_tmp rfl _ _ (p + 2) 43 _ (0, 0) _ rfl HF.out Tryz.underlying43 rfl (by rw [HSZ.out]; kernel_rfl)) rfl ?_
   have hlt0 := HQ3.out.2
   have hfr : Below w.heap.size w (w2.setRow (p + 2) CB) := below_setRow (HI.out.bk.fr.trans ((HB2.out).mono HI.out.bk.fr.size)) (by rw [HEQ.out.2.1]; omega) _
   have hE : R = (B, _) := HR.out.trans (by unfold nextOf registerOf; rw [HK.out, if_pos rfl]; rw [if_neg HW.out, HHH.out, ← HFE.out, if_neg HFN.out])
   rw [hE]
   refine ⟨(some ⟨g, o', none⟩), c1, A2, c2, by rw [HCB.out]; rfl, ⟨HAR.out.devs.grown hfr, HAR.out.spent.grown hfr, HAR.out.few, HAR.out.len⟩, .inl rfl, .inl rfl, hfr⟩
 ·have hixi : ix = -1 := HIX.out.trans (if_neg hh)
  have HHN := Aside0.mk (show hasD B.devs o.node = false by simpa using hh)
  have HW : Aside0 (¬ (o.node < 1 ∨ 8 < o.node ∨ hasD B.devs o.node = true ∧ (devAt B o.node).rev = false)) := ⟨by
   have := HE1.out
   rintro (h | h | ⟨h, -⟩)
   ·omega
   ·omega
   ·exact hh h⟩
  clear hh
  subst hixi
  have LB1 := Aside0.mk (HLB.out w1 HB1.out)
  have LO1 := Aside0.mk (HLO.out w1 HB1.out)
  have HFC := Aside0.mk (HFR.out false w1 HB1.out)
  obtain ⟨fe, hfe⟩ : ∃ fe, fe = freshOf B o false := ⟨_, rfl⟩
  rw [← hfe] at HFC
  have HFE := Aside0.mk hfe
  clear hfe
  go_wp2_with (first | ((with_reducible refine at_load 43 (.tmp 2) ?_); refine wpList_loadK rfl 43 (.tmp 2) rfl _ rfl _ LB1.out ?_) | ((with_reducible refine at_load 36 (.tmp 3) ?_); refine wpList_loadK rfl 36 (.tmp 3) rfl _ rfl _ LO1.out ?_))
  refine HFC.out.mono ?_
  rintro e w2 ⟨rfl, hb2⟩
  have HB2 := Aside0.mk (below_step HB1.out hb2)
  clear hb2
  by_cases hf : fe = 0
  ·have HFZ := Aside0.mk (HFE.out.symm.trans hf)
   subst hf
   clear x1' x34 x35 x36 k1 k2 k3
   have HBQ := HB2
   clear HB2
   have hop := (HI.out.later HBQ.out).op
   have LB2 := Aside0.mk (HLB.out w2 HBQ.out)
   have LK3 := Aside0.mk (run_loadAtK Tryz.prog w2 34 32 Tryz.isAgg34 Tryz.sizeOf34 (p + 1) 2 (encK o.key) (encK_len _) (fun j v hj => by rw [cell_of_heap hop]; exact keyOfO o j v hj))
   have y1 : w2.cell? ⟨p + 1, 1, none⟩ = some (.int .i64 nd) := by rw [cell_of_heap hop, HND.out]; rfl
   have y34 : w2.cell? ⟨p + 1, 34, none⟩ = some (.int .i64 o.exp) := by rw [cell_of_heap hop]; exact tailOfO o 0
   have BD := Aside0.mk (show (Instr.build 46 #[(0, .int .i64 nd), (1, .agg (encK o.key).toArray), (2, .int .i64 o.exp)]).run Tryz.prog w2 = .ok (.agg (encD (devOf o)).toArray) w2 by rw [HND.out]; exact run_buildDev w2 o.node o.exp o.key)
   clear hop
   go_wp2_with (first | ((with_reducible refine at_load 43 (.tmp 2) ?_); refine wpList_loadK rfl 43 (.tmp 2) rfl _ rfl _ LB2.out ?_) | ((with_reducible refine at_load 34 (.tmp 64) ?_); refine wpList_loadK rfl 34 (.tmp 64) rfl _ rfl _ LK3.out ?_) | ((with_reducible refine at_build 46 #[(0, .tmp 63), (1, .tmp 65), (2, .tmp 67)] ?_); refine wpList_build3 rfl 46 (.tmp 63) (.tmp 65) (.tmp 67) rfl _ _ _ rfl rfl rfl _ _ BD.out ?_))
   rw [HBA.out.1]
   refine (put_ref B A1 c1 A2 c2 (devOf o) w2 (HI.out.later HBQ.out).bk.src).mono ?_
   rintro e w6 ⟨A5, c5, rfl, hs5, hn5, hb5⟩
   have HS5 := Aside0.mk (And.intro hs5 (And.intro hn5 hb5))
   have hroom : w6.heap[p + 2]? = some (.cells ([.int .i64 0, .int .i64 0, .slice none 0 0, .slice none 0 0, .string ⟨#[]⟩] : List Value).toArray 43 (0, 0)) := room_at ((room_at HQ3.out.1 HBQ.out)) hb5
   obtain ⟨B2, hB2⟩ : ∃ B2 : Book, B2 = { B with devs := putR B.devs (devOf o) 8 } := ⟨_, rfl⟩
   have HSB := Aside0.mk (show SrcB w6 B2 A5 A2 by rw [hB2]; exact hs5)
   have ST := Aside0.mk (store_book w6 (p + 2) _ hroom rfl B2 A5 c5 A2 c2)
   have HF := Aside0.mk (setRow_heap w6 (p + 2) _ (bookCells B2 A5 c5 A2 c2).toArray 43 (0, 0) hroom)
   rw [← hB2]
   obtain ⟨CB, hCB⟩ : ∃ CB, CB = (bookCells B2 A5 c5 A2 c2).toArray := ⟨_, rfl⟩
   rw [← hCB] at ST HF ⊢
   have HCB := Aside0.mk hCB
   have HSZ := Aside0.mk (show CB.size = 5 by rw [hCB]; rfl)
   have HB2 := Aside0.mk hB2
   clear hs5 hn5 hb5 hroom hCB hB2
   go_wp2_with ((with_reducible refine at_store 43 (.tmp 4) (.tmp 69) ?_); refine wpList_storeK rfl 43 (.tmp 4) (.tmp 69) rfl rfl _ _ rfl rfl _ ST.out ?_)
   try simp only [Exit.inBlock, Exit.then]
   refine bodyPost_ret (results_row_tmp rfl _ _ (p + 2) 43 _ (0, 0) _ rfl HF.out Tryz.underlying43 rfl (by rw [HSZ.out]; kernel_rfl)) rfl ?_
   have hlt0 := HQ3.out.2
   have hf6 : Below w.heap.size w w6 := below_step (HI.out.bk.fr.trans (HBQ.out.mono HI.out.bk.fr.size)) HS5.out.2.2
   have hfr : Below w.heap.size w (w6.setRow (p + 2) CB) := below_setRow hf6 (by rw [HEQ.out.2.1]; omega) _
   have hE : R = (B2, 0) := HR.out.trans (by rw [HB2.out]; unfold nextOf registerOf; rw [HK.out, if_pos rfl]; rw [if_neg HW.out, HHN.out, HFZ.out, if_pos rfl, if_neg (by decide)]; exact congrArg (fun b : Book => (b, (0 : Int))) (put_new HWF.out (devOf o) HHN.out HE1.out.1 HE1.out.2).symm)
   rw [hE]
   have h3 : p + 2 < w2.heap.size := (Array.getElem?_eq_some_iff.1 ((room_at HQ3.out.1 HBQ.out))).1
   refine ⟨A5, c5, A2, c2, by rw [HCB.out]; rfl, ⟨HSB.out.devs.setRow (fun a ha e => by have := (HS5.out.2.1 a ha).1; omega) _, (by rw [HB2.out]; exact HAR.out.spent.grown hfr), HSB.out.few, HSB.out.len⟩, .inr (fun a ha => ⟨by have := (HS5.out.2.1 a ha).1; have := HEQ.out.2.1; omega, HS5.out.2.1.ty.setRow _ _ a ha⟩), .inl rfl, hfr⟩
  ·have hfb : (fe == 0) = false := beq_eq_false_iff_ne.2 hf
   have HFN := Aside0.mk hf
   clear hf
   have LB2 := Aside0.mk (HLB.out w2 HB2.out)
   obtain ⟨CB, hCB⟩ : ∃ CB, CB = BA := ⟨_, rfl⟩
   have ST := Aside0.mk (store_book w2 (p + 2) _ (room_at HQ3.out.1 HB2.out) rfl B A1 c1 A2 c2)
   have HF := Aside0.mk (setRow_heap w2 (p + 2) _ BA 43 (0, 0) (room_at HQ3.out.1 HB2.out))
   rw [← HBA.out.1] at ST
   have HSZ := Aside0.mk (show CB.size = 5 by rw [hCB]; exact HBA.out.2)
   have HCB := Aside0.mk (show CB = (bookCells B A1 c1 A2 c2).toArray by rw [hCB]; exact HBA.out.1)
   rw [← hCB] at LB2 ST HF
   clear hCB
   go_wp2_with (first | ((with_reducible refine at_load 43 (.tmp 2) ?_); refine wpList_loadK rfl 43 (.tmp 2) rfl _ rfl _ LB2.out ?_) | ((with_reducible refine at_store 43 (.tmp 4) (.tmp 49) ?_); refine wpList_storeK rfl 43 (.tmp 4) (.tmp 49) rfl rfl _ _ rfl rfl _ ST.out ?_))
   try simp only [Exit.inBlock, Exit.then]
   refine bodyPost_ret (results_row_tmp rfl _ _ (p + 2) 43 _ (0, 0) _ rfl HF.out Tryz.underlying43 rfl (by rw [HSZ.out]; kernel_rfl)) rfl ?_
   have hlt0 := HQ3.out.2
   have hfr : Below w.heap.size w (w2.setRow (p + 2) CB) := below_setRow (HI.out.bk.fr.trans ((HB2.out).mono HI.out.bk.fr.size)) (by rw [HEQ.out.2.1]; omega) _
   have hE : R = (B, _) := HR.out.trans (by unfold nextOf registerOf; rw [HK.out, if_pos rfl]; rw [if_neg HW.out, HHN.out, ← HFE.out, if_neg HFN.out])
   rw [hE]
   refine ⟨A1, c1, A2, c2, by rw [HCB.out]; rfl, ⟨HAR.out.devs.grown hfr, HAR.out.spent.grown hfr, HAR.out.few, HAR.out.len⟩, .inl rfl, .inl rfl, hfr⟩
end Go.Proofs.YthnpiimiimiijaaGreatDoor.Dir
