/- The document's directory: next, at ops that rotate and revoke. -/
import Derived.Test.YthnpiimiimiijaaGreatDoorRefG
namespace Go.Proofs.YthnpiimiimiijaaGreatDoor.Dir
open Go Go.RowKit Go.Proofs Go.Proofs.YthnpiimiimiijaaGreatDoorW.PrintWords Go.Proofs.YthnpiimiimiijaaGreatDoorW.PrintLast Go.Proofs.YthnpiimiimiijaaGreatDoorW.PrintMore
set_option linter.unusedVariables false
set_option linter.unusedSimpArgs false
set_option maxHeartbeats 8000000 in
set_option maxRecDepth 100000 in
theorem next_3 (B : Book) (A1 : Option Addr) (c1 : Nat) (A2 : Option Addr) (c2 : Nat) (o : Op) (w : World) (h : SrcB w B A1 A2) (hw : WF B) (hk : o.kind = 3) :
  Calls Tryz.prog 55 #[.agg (bookCells B A1 c1 A2 c2).toArray, .agg (encO o).toArray] w fun e w' => NextEnd w w' A1 A2 (nextOf rulesOf B o) e := by
 obtain ⟨W0, hW0⟩ : ∃ W0, W0 = ((w.alloc (.cells (bookCells B A1 c1 A2 c2).toArray 43)).alloc (.cells (encO o).toArray 36)).alloc (.cells #[.int .i64 0, .int .i64 0, .slice none 0 0, .slice none 0 0, .string ⟨#[]⟩] 43) := ⟨_, rfl⟩
 obtain ⟨p, hp⟩ : ∃ p, p = w.heap.size := ⟨_, rfl⟩
 have hsz : (w.alloc (.cells (bookCells B A1 c1 A2 c2).toArray 43)).heap.size = p + 1 := by rw [hp]; simp
 have hsz2 : ((w.alloc (.cells (bookCells B A1 c1 A2 c2).toArray 43)).alloc (.cells (encO o).toArray 36)).heap.size = p + 2 := by rw [hp]; simp
 have hI : InO w W0 p (p + 1) B A1 c1 A2 c2 o := by rw [hW0, hp]; exact (InO.start h).later ((Below.refl _ _).alloc (Nat.le_refl _) _)
 have q3 : W0.heap[p + 2]? = some (.cells ([.int .i64 0, .int .i64 0, .slice none 0 0, .slice none 0 0, .string ⟨#[]⟩] : List Value).toArray 43 (0, 0)) := by rw [hW0, ← hsz2]; exact heap_alloc_new _ _
 have HI := Aside0.mk hI
 have HQ3 := Aside0.mk (And.intro q3 (Array.getElem?_eq_some_iff.1 q3).1)
 have HAR := Aside0.mk h
 have HWF := Aside0.mk hw
 have HSM := Aside0.mk (show B.devs.length ≤ 100000000 ∧ B.spent.length ≤ 100000000 by have := devs_len hw; have := hw.len; omega)
 have HLB := Aside0.mk (fun (W : World) (hb : Below W0.heap.size W0 W) => (hI.later hb).bk.load)
 have HLO := Aside0.mk (fun (W : World) (hb : Below W0.heap.size W0 W) => (hI.later hb).load)
 have HFD := Aside0.mk (find_ref B A1 c1 A2 c2 o.node W0 hI.bk.src)
 have HIX := Aside0.mk (idx_pos hw o.node)
 have HFR := Aside0.mk (fun (m : Bool) (W : World) (hb : Below W0.heap.size W0 W) => fresh_ref B A1 c1 A2 c2 o m W (hI.later hb).bk.src (by have := devs_len hw; omega) (by have := hw.len; omega))
 obtain ⟨ix, hix⟩ : ∃ ix, ix = idxF B.devs o.node 0 := ⟨_, rfl⟩
 rw [← hix] at HFD HIX
 obtain ⟨R, hR⟩ : ∃ R, R = nextOf rulesOf B o := ⟨_, rfl⟩
 have HR := Aside0.mk hR
 rw [← hR]
 obtain ⟨BA, hBA⟩ : ∃ BA, BA = (bookCells B A1 c1 A2 c2).toArray := ⟨_, rfl⟩
 obtain ⟨OA, hOA⟩ : ∃ OA, OA = (encO o).toArray := ⟨_, rfl⟩
 have HBA := Aside0.mk (And.intro hBA (show BA.size = 5 by rw [hBA]; rfl))
 rw [← hBA] at hW0 hsz hsz2 HFD HLB HFR ⊢
 rw [← hOA] at hW0 hsz2 HFR HLO ⊢
 clear hI h hw q3 hix hR hBA hOA
 have HK := Aside0.mk hk
 clear hk
 go_enter Tryz.func55, Tryz.ntmps55
 go_upto_region 1 with fail
 rw [← hW0]
 try rw [hsz2]
 try rw [hsz]
 try rw [← hp]
 have HEQ := Aside0.mk (And.intro hW0 (And.intro hp (And.intro hsz hsz2)))
 clear hW0 hsz hsz2 hp
 obtain ⟨nd, hnd⟩ : ∃ nd, nd = o.node := ⟨_, rfl⟩
 have HND := Aside0.mk hnd
 rw [← hnd] at HFD
 have x1 : W0.cell? ⟨p + 1, 1, none⟩ = some (.int .i64 nd) := by rw [hnd]; exact HI.out.cells.2.1
 clear hnd
 have LB := Aside0.mk (HLB.out W0 (Below.refl _ _))
 go_wp2_with ((with_reducible refine at_load 43 (.tmp 2) ?_); refine wpList_loadK rfl 43 (.tmp 2) rfl _ rfl _ LB.out ?_)
 refine HFD.out.mono ?_
 rintro e w1 ⟨rfl, hb1⟩
 have HB1 := Aside0.mk hb1
 obtain ⟨x0, x1', x34, x35, x36⟩ := (HI.out.later hb1).cells
 obtain ⟨k0, k1, k2, k3, k4⟩ := (HI.out.later hb1).bk.cells
 rw [← HND.out] at x1'
 clear x1 hb1 k0 k4
 rw [HK.out] at x0
 by_cases hh : hasD B.devs o.node = true
 ·skip
  have hh' : hasD B.devs o.node = true := hh
  obtain ⟨g1, g2, g3, g4⟩ := has_at HWF.out.devs hh'
  have hixi : ix = (posD B.devs o.node : Int) := HIX.out.trans (if_pos hh')
  obtain ⟨i, hi⟩ : ∃ i, i = posD B.devs o.node := ⟨_, rfl⟩
  obtain ⟨dd, hdd⟩ : ∃ dd, dd = devAt B o.node := ⟨_, rfl⟩
  have HDD := Aside0.mk (And.intro hi hdd)
  rw [← hi] at g1 g2 hixi
  rw [← hdd] at g2 g3
  obtain ⟨g, o', hA1, hc⟩ := HI.out.bk.src.devc g2
  subst hA1
  have HC := Aside0.mk hc
  have HFW := HAR.out.few
  have hlt3 : (i : Int) < (B.devs.length : Int) := by omega
  obtain ⟨rv, hrv⟩ : ∃ rv, rv = dd.rev := ⟨_, rfl⟩
  have HRV := Aside0.mk hrv
  have r1 : w1.cell? ⟨g, o' + i * 35 + 34, none⟩ = some (.bool rv) := by rw [hrv]; exact hc w1 HB1.out 34 _ (revOfD dd)
  have HHH := Aside0.mk hh'
  clear hc hi hdd hrv g2 g3 g4 hh hh'
  subst hixi
  have DL := Aside0.mk (run_loadAtK Tryz.prog w1 46 35 Tryz.isAgg46 Tryz.sizeOf46 g (o' + i * 35) (encD dd) (encD_len _) (fun j v hj => HC.out w1 HB1.out j v hj))
  have st := Aside0.mk (fun (c : Array Value) (hc : c.size = 35) => run_storeNew Tryz.prog w1 46 35 sizeD c (encD dd).toArray hc (by simpa using encD_len dd) (by simpa using encD_one dd))
  obtain ⟨w3, hw3⟩ : ∃ w3, w3 = w1.alloc (.cells (encD dd).toArray 46) := ⟨_, rfl⟩
  obtain ⟨nb, hnb⟩ : ∃ nb, nb = w1.heap.size := ⟨_, rfl⟩
  have HND3 := Aside0.mk (show w3.heap[nb]? = some (.cells (encD dd).toArray 46 (0, 0)) by rw [hw3, hnb]; exact heap_alloc_new w1 _)
  have HB3 := Aside0.mk (show Below W0.heap.size W0 w3 by rw [hw3]; exact HB1.out.alloc HB1.out.size _)
  have HNB := Aside0.mk (show W0.heap.size ≤ nb by rw [hnb]; exact HB1.out.size)
  obtain ⟨DA, hDA⟩ : ∃ DA, DA = (encD dd).toArray := ⟨_, rfl⟩
  rw [← hDA] at DL st hw3
  clear hDA r1
  go_upto_region 17 with (first | ((with_reducible refine at_load 46 (.tmp 79) ?_); refine wpList_loadK rfl 46 (.tmp 79) rfl _ rfl _ DL.out ?_) | ((with_reducible refine at_store 46 (.tmp 8) (.tmp 80) ?_); refine wpList_storeK rfl 46 (.tmp 8) (.tmp 80) rfl rfl _ _ rfl rfl _ (st.out _ rfl) ?_))
  rw [← hw3, ← hnb]
  clear hw3 hnb st DL x0 x1' x34 x35 x36 k1 k2 k3
  have r34 : w3.cell? ⟨nb, 34, none⟩ = some (.bool rv) := by rw [cell_of_heap HND3.out, HRV.out]; exact revOfD dd
  cases rv
  rotate_left
  ·have HL : Aside0 (liveOf B o.node = 222) := ⟨by unfold liveOf; rw [HHH.out, if_neg (by decide), ← HDD.out.2, ← HRV.out, if_pos rfl]⟩
   have LB2 := Aside0.mk (HLB.out w3 HB3.out)
   obtain ⟨CB, hCB⟩ : ∃ CB, CB = BA := ⟨_, rfl⟩
   have ST := Aside0.mk (store_book w3 (p + 2) _ (room_at HQ3.out.1 HB3.out) rfl B (some ⟨g, o', none⟩) c1 A2 c2)
   have HF := Aside0.mk (setRow_heap w3 (p + 2) _ BA 43 (0, 0) (room_at HQ3.out.1 HB3.out))
   rw [← HBA.out.1] at ST
   have HSZ := Aside0.mk (show CB.size = 5 by rw [hCB]; exact HBA.out.2)
   have HCB := Aside0.mk (show CB = (bookCells B (some ⟨g, o', none⟩) c1 A2 c2).toArray by rw [hCB]; exact HBA.out.1)
   rw [← hCB] at LB2 ST HF
   clear hCB
   go_wp2_with (first | ((with_reducible refine at_load 43 (.tmp 2) ?_); refine wpList_loadK rfl 43 (.tmp 2) rfl _ rfl _ LB2.out ?_) | ((with_reducible refine at_store 43 (.tmp 4) (.tmp 83) ?_); refine wpList_storeK rfl 43 (.tmp 4) (.tmp 83) rfl rfl _ _ rfl rfl _ ST.out ?_))
   try simp only [Exit.inBlock, Exit.then]
   refine bodyPost_ret (results_row_tmp rfl _ _ (p + 2) 43 _ (0, 0) _ rfl HF.out Tryz.underlying43 rfl (by rw [HSZ.out]; kernel_rfl)) rfl ?_
   have hlt0 := HQ3.out.2
   have hfr : Below w.heap.size w (w3.setRow (p + 2) CB) := below_setRow (HI.out.bk.fr.trans ((HB3.out).mono HI.out.bk.fr.size)) (by rw [HEQ.out.2.1]; omega) _
   have hE : R = (B, _) := HR.out.trans (by unfold nextOf revokeOf; rw [HK.out]; simp only [show ¬ ((3 : Int) = 1) by decide, show ¬ ((3 : Int) = 2) by decide, if_true, if_false]; rw [HL.out, if_neg (by decide)])
   rw [hE]
   refine ⟨(some ⟨g, o', none⟩), c1, A2, c2, by rw [HCB.out]; rfl, ⟨HAR.out.devs.grown hfr, HAR.out.spent.grown hfr, HAR.out.few, HAR.out.len⟩, .inl rfl, .inl rfl, hfr⟩
  have HL : Aside0 (liveOf B o.node = 0) := ⟨by unfold liveOf; rw [HHH.out, if_neg (by decide), ← HDD.out.2, ← HRV.out, if_neg (by decide)]⟩
  have HE1 := Aside0.mk (show 1 ≤ o.node ∧ o.node ≤ 8 by
   obtain ⟨g1, g2, g3, g4⟩ := has_at HWF.out.devs HHH.out
   have := HWF.out.nodes _ g4
   rw [g3] at this
   exact this)
  have z0 : w3.cell? ⟨p + 1, 0, none⟩ = some (.int .i64 3) := by rw [(HI.out.later HB3.out).cells.1, HK.out]
  have fz : w3.frozen? ⟨nb, 34, none⟩ = false := frozen_of_heap HND3.out
  obtain ⟨dv, hdv⟩ : ∃ dv : Dev, dv = { dd with rev := true } := ⟨_, rfl⟩
  obtain ⟨w4, hw4⟩ : ∃ w4, w4 = w3.setCell ⟨nb, 34, none⟩ (.bool true) := ⟨_, rfl⟩
  have hd4 : w4.heap[nb]? = some (.cells (encD dv).toArray 46 (0, 0)) := by
   rw [hw4, heap_setCell_same w3 nb 34 _ _ _ HND3.out, hdv]
   congr 2
   show (encD dd).toArray.setIfInBounds 34 _ = _
   rw [List.setIfInBounds_toArray]
   congr 1
   unfold encD
   rw [List.set_cons_succ, List.set_append_right _ _ (by rw [encK_len]; decide), encK_len]
   rfl
  have HB4 := Aside0.mk (show Below W0.heap.size W0 w4 by rw [hw4]; exact HB3.out.setCell HNB.out _)
  have HDV := Aside0.mk hdv
  have DL := Aside0.mk (run_loadAtK Tryz.prog w4 46 35 Tryz.isAgg46 Tryz.sizeOf46 nb 0 (encD dv) (encD_len _) (cells_of_heap hd4))
  have LB4 := Aside0.mk (HLB.out w4 HB4.out)
  clear hd4 hdv
  go_upto_region 21 with fail
  rw [← hw4]
  clear hw4 fz r34 z0
  go_wp2_with (first | ((with_reducible refine at_load 43 (.tmp 2) ?_); refine wpList_loadK rfl 43 (.tmp 2) rfl _ rfl _ LB4.out ?_) | ((with_reducible refine at_load 46 (.tmp 8) ?_); refine wpList_loadK rfl 46 (.tmp 8) rfl _ rfl _ DL.out ?_))
  rw [HBA.out.1]
  refine (put_ref B (some ⟨g, o', none⟩) c1 A2 c2 dv w4 (HI.out.later HB4.out).bk.src).mono ?_
  rintro e w6 ⟨A5, c5, rfl, hs5, hn5, hb5⟩
  have HS5 := Aside0.mk (And.intro hs5 (And.intro hn5 hb5))
  have hroom : w6.heap[p + 2]? = some (.cells ([.int .i64 0, .int .i64 0, .slice none 0 0, .slice none 0 0, .string ⟨#[]⟩] : List Value).toArray 43 (0, 0)) := room_at ((room_at HQ3.out.1 HB4.out)) hb5
  obtain ⟨B2, hB2⟩ : ∃ B2 : Book, B2 = { B with devs := putR B.devs dv 8 } := ⟨_, rfl⟩
  have HSB := Aside0.mk (show SrcB w6 B2 A5 A2 by rw [hB2]; exact hs5)
  have ST := Aside0.mk (store_book w6 (p + 2) _ hroom rfl B2 A5 c5 A2 c2)
  have HF := Aside0.mk (setRow_heap w6 (p + 2) _ (bookCells B2 A5 c5 A2 c2).toArray 43 (0, 0) hroom)
  rw [← hB2]
  obtain ⟨CB, hCB⟩ : ∃ CB, CB = (bookCells B2 A5 c5 A2 c2).toArray := ⟨_, rfl⟩
  rw [← hCB] at ST HF ⊢
  have HCB := Aside0.mk hCB
  have HSZ := Aside0.mk (show CB.size = 5 by rw [hCB]; rfl)
  have HB2 := Aside0.mk hB2
  clear hs5 hn5 hb5 hroom hCB hB2
  go_wp2_with ((with_reducible refine at_store 43 (.tmp 4) (.tmp 90) ?_); refine wpList_storeK rfl 43 (.tmp 4) (.tmp 90) rfl rfl _ _ rfl rfl _ ST.out ?_)
  try simp only [Exit.inBlock, Exit.then]
  refine bodyPost_ret (results_row_tmp rfl _ _ (p + 2) 43 _ (0, 0) _ rfl HF.out Tryz.underlying43 rfl (by rw [HSZ.out]; kernel_rfl)) rfl ?_
  have hlt0 := HQ3.out.2
  have hf6 : Below w.heap.size w w6 := below_step (HI.out.bk.fr.trans (HB4.out.mono HI.out.bk.fr.size)) HS5.out.2.2
  have hfr : Below w.heap.size w (w6.setRow (p + 2) CB) := below_setRow hf6 (by rw [HEQ.out.2.1]; omega) _
  have hE : R = (B2, 0) := HR.out.trans (by rw [HB2.out]; unfold nextOf revokeOf; rw [HK.out]; simp only [show ¬ ((3 : Int) = 1) by decide, show ¬ ((3 : Int) = 2) by decide, if_true, if_false]; rw [HL.out, if_pos rfl]; have hn : dv.node = o.node := (by obtain ⟨g1, g2, g3, g4⟩ := has_at HWF.out.devs HHH.out; rw [HDV.out, HDD.out.2]; exact g3); have := put_set HWF.out dv (by rw [hn]; exact HHH.out) (by rw [hn]; exact HE1.out.1) (by rw [hn]; exact HE1.out.2); rw [this, hn, HDV.out, HDD.out.2])
  rw [hE]
  have h3 : p + 2 < w4.heap.size := (Array.getElem?_eq_some_iff.1 ((room_at HQ3.out.1 HB4.out))).1
  refine ⟨A5, c5, A2, c2, by rw [HCB.out]; rfl, ⟨HSB.out.devs.setRow (fun a ha e => by have := (HS5.out.2.1 a ha).1; omega) _, (by rw [HB2.out]; exact HAR.out.spent.grown hfr), HSB.out.few, HSB.out.len⟩, .inr (fun a ha => ⟨by have := (HS5.out.2.1 a ha).1; have := HEQ.out.2.1; omega, HS5.out.2.1.ty.setRow _ _ a ha⟩), .inl rfl, hfr⟩
 ·have hixi : ix = -1 := HIX.out.trans (if_neg hh)
  have HL : Aside0 (liveOf B o.node = 220) := ⟨by unfold liveOf; rw [if_pos (by simpa using hh)]⟩
  clear hh
  subst hixi
  have LB2 := Aside0.mk (HLB.out w1 HB1.out)
  obtain ⟨CB, hCB⟩ : ∃ CB, CB = BA := ⟨_, rfl⟩
  have ST := Aside0.mk (store_book w1 (p + 2) _ (room_at HQ3.out.1 HB1.out) rfl B A1 c1 A2 c2)
  have HF := Aside0.mk (setRow_heap w1 (p + 2) _ BA 43 (0, 0) (room_at HQ3.out.1 HB1.out))
  rw [← HBA.out.1] at ST
  have HSZ := Aside0.mk (show CB.size = 5 by rw [hCB]; exact HBA.out.2)
  have HCB := Aside0.mk (show CB = (bookCells B A1 c1 A2 c2).toArray by rw [hCB]; exact HBA.out.1)
  rw [← hCB] at LB2 ST HF
  clear hCB
  go_wp2_with (first | ((with_reducible refine at_load 43 (.tmp 2) ?_); refine wpList_loadK rfl 43 (.tmp 2) rfl _ rfl _ LB2.out ?_) | ((with_reducible refine at_store 43 (.tmp 4) (.tmp 75) ?_); refine wpList_storeK rfl 43 (.tmp 4) (.tmp 75) rfl rfl _ _ rfl rfl _ ST.out ?_))
  try simp only [Exit.inBlock, Exit.then]
  refine bodyPost_ret (results_row_tmp rfl _ _ (p + 2) 43 _ (0, 0) _ rfl HF.out Tryz.underlying43 rfl (by rw [HSZ.out]; kernel_rfl)) rfl ?_
  have hlt0 := HQ3.out.2
  have hfr : Below w.heap.size w (w1.setRow (p + 2) CB) := below_setRow (HI.out.bk.fr.trans ((HB1.out).mono HI.out.bk.fr.size)) (by rw [HEQ.out.2.1]; omega) _
  have hE : R = (B, _) := HR.out.trans (by unfold nextOf revokeOf; rw [HK.out]; simp only [show ¬ ((3 : Int) = 1) by decide, show ¬ ((3 : Int) = 2) by decide, if_true, if_false]; rw [HL.out, if_neg (by decide)])
  rw [hE]
  refine ⟨A1, c1, A2, c2, by rw [HCB.out]; rfl, ⟨HAR.out.devs.grown hfr, HAR.out.spent.grown hfr, HAR.out.few, HAR.out.len⟩, .inl rfl, .inl rfl, hfr⟩
end Go.Proofs.YthnpiimiimiijaaGreatDoor.Dir
