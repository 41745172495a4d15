/- Chain: deltas one behind the other come to the same as one. -/
import Derived.Test.YtmgbaefgcdglpaaGreatDoorNc30
import Derived.Test.YtmgbaefgcdglpaaGreatDoorNc29
section
namespace Go.Proofs.YtmgbaefgcdglpaaGreatDoor.Net
open Go Go.RowKit Go.Proofs Go.Proofs.YtmgbaefgcdglpaaGreatDoorW.PrintWords Go.Proofs.YtmgbaefgcdglpaaGreatDoorW.PrintLast Go.Proofs.YtmgbaefgcdglpaaGreatDoorW.PrintMore Go.Proofs.YtmgbaefgcdglpaaGreatDoor.Dir
set_option linter.unusedVariables false
set_option linter.unusedSimpArgs false
set_option maxHeartbeats 4000000 in
set_option maxRecDepth 100000 in
theorem chain_law (a b z : NMap) (A0 : Option Addr) (c0 : Nat) (A1 : Option Addr) (c1 : Nat) (A2 : Option Addr) (c2 : Nat) (w : World) (h0 : PsAt w A0 c0 a.peers) (h1 : PsAt w A1 c1 b.peers) (h2 : PsAt w A2 c2 z.peers) (hx : PA.LaidW w) :
  Calls Tryz.prog 8 #[.agg (mapCells a A0 c0).toArray, .agg (mapCells b A1 c1).toArray, .agg (mapCells z A2 c2).toArray] w fun e w' => e = .returned (.bool true) ∧ Below w.heap.size w w' := by
 obtain ⟨q0, hq0⟩ : ∃ q0, q0 = w.heap.size := ⟨_, rfl⟩
 obtain ⟨wx0, hwx0⟩ : ∃ wx0, wx0 = w.alloc (.cells (mapCells a A0 c0).toArray 31) := ⟨_, rfl⟩
 have hbx : Below w.heap.size w wx0 := by rw [hwx0]; exact (Below.refl _ w).alloc (Nat.le_refl _) _
 have BW := Aside0.mk (hbx)
 have Q0 := Aside0.mk (show wx0.heap[q0]? = some (.cells (mapCells a A0 c0).toArray 31 (0, 0)) by rw [hwx0, hq0]; exact heap_alloc_new w _)
 have PS0 := Aside0.mk (h0.below hbx)
 have PS1 := Aside0.mk (h1.below hbx)
 have PS2 := Aside0.mk (h2.below hbx)
 have HX := Aside0.mk (hx.below hbx)
 clear hbx
 obtain ⟨q1, hq1⟩ : ∃ q1, q1 = wx0.heap.size := ⟨_, rfl⟩
 obtain ⟨wx1, hwx1⟩ : ∃ wx1, wx1 = wx0.alloc (.cells (mapCells b A1 c1).toArray 31) := ⟨_, rfl⟩
 have hbx : Below wx0.heap.size wx0 wx1 := by rw [hwx1]; exact (Below.refl _ wx0).alloc (Nat.le_refl _) _
 have BW := Aside0.mk (below_step BW.out hbx)
 have Q1 := Aside0.mk (show wx1.heap[q1]? = some (.cells (mapCells b A1 c1).toArray 31 (0, 0)) by rw [hwx1, hq1]; exact heap_alloc_new wx0 _)
 have Q0 := Aside0.mk (roomN Q0.out hbx)
 have PS0 := Aside0.mk (PS0.out.below hbx)
 have PS1 := Aside0.mk (PS1.out.below hbx)
 have PS2 := Aside0.mk (PS2.out.below hbx)
 have HX := Aside0.mk (HX.out.below hbx)
 have hq1' : q0 + 1 = q1 := by rw [hq1, hq0, hwx0]; simp
 clear hbx
 obtain ⟨q2, hq2⟩ : ∃ q2, q2 = wx1.heap.size := ⟨_, rfl⟩
 obtain ⟨wx2, hwx2⟩ : ∃ wx2, wx2 = wx1.alloc (.cells (mapCells z A2 c2).toArray 31) := ⟨_, rfl⟩
 have hbx : Below wx1.heap.size wx1 wx2 := by rw [hwx2]; exact (Below.refl _ wx1).alloc (Nat.le_refl _) _
 have BW := Aside0.mk (below_step BW.out hbx)
 have Q2 := Aside0.mk (show wx2.heap[q2]? = some (.cells (mapCells z A2 c2).toArray 31 (0, 0)) by rw [hwx2, hq2]; exact heap_alloc_new wx1 _)
 have Q0 := Aside0.mk (roomN Q0.out hbx)
 have Q1 := Aside0.mk (roomN Q1.out hbx)
 have PS0 := Aside0.mk (PS0.out.below hbx)
 have PS1 := Aside0.mk (PS1.out.below hbx)
 have PS2 := Aside0.mk (PS2.out.below hbx)
 have HX := Aside0.mk (HX.out.below hbx)
 have hq2' : q1 + 1 = q2 := by rw [hq2, hq1, hwx1]; simp
 clear hbx
 obtain ⟨X0, hX0⟩ : ∃ X0, X0 = (mapCells a A0 c0).toArray := ⟨_, rfl⟩
 have HX0 := Aside0.mk hX0
 rw [← hX0] at hwx0 ⊢
 clear hX0
 obtain ⟨X1, hX1⟩ : ∃ X1, X1 = (mapCells b A1 c1).toArray := ⟨_, rfl⟩
 have HX1 := Aside0.mk hX1
 rw [← hX1] at hwx1 ⊢
 clear hX1
 obtain ⟨X2, hX2⟩ : ∃ X2, X2 = (mapCells z A2 c2).toArray := ⟨_, rfl⟩
 have HX2 := Aside0.mk hX2
 rw [← hX2] at hwx2 ⊢
 clear hX2
 clear hx h0 h1 h2
 go_enter Tryz.func8, Tryz.ntmps8
 go_upto_region 1 with fail
 change Code.wp _ _ _ _ (((w.alloc (.cells X0 31)).alloc (.cells X1 31)).alloc (.cells X2 31))
 rw [← hwx0, ← hq0]
 rw [← hwx1, hq1']
 rw [← hwx2, hq2']
 clear hwx0 hq0 hwx1 hq1 hq1' hwx2 hq2 hq2'
 go_wp2_with fail
 refine (works20 wx2 HX.out).mono ?_
 rintro e wb ⟨rfl, hb⟩
 have BW := Aside0.mk (below_step BW.out hb)
 have HX := Aside0.mk (HX.out.below hb)
 have Q0 := Aside0.mk (roomN Q0.out hb)
 have Q1 := Aside0.mk (roomN Q1.out hb)
 have Q2 := Aside0.mk (roomN Q2.out hb)
 have PS0 := Aside0.mk (PsAt.below PS0.out hb)
 have PS1 := Aside0.mk (PsAt.below PS1.out hb)
 have PS2 := Aside0.mk (PsAt.below PS2.out hb)
 clear hb
 have lx := Aside0.mk (run_loadAtK Tryz.prog wb 31 37 Tryz.isAgg31 Tryz.sizeOf31 q0 0 (mapCells a A0 c0) (mapCells_len _ _ _) (cells_of_heap Q0.out))
 have ly := Aside0.mk (run_loadAtK Tryz.prog wb 31 37 Tryz.isAgg31 Tryz.sizeOf31 q1 0 (mapCells b A1 c1) (mapCells_len _ _ _) (cells_of_heap Q1.out))
 have DC := Aside0.mk (diff_any a b A0 c0 A1 c1 wb PS0.out PS1.out)
 rw [← HX0.out] at lx DC
 rw [← HX1.out] at ly DC
 go_wp2_with (first | ((with_reducible refine at_load 31 (.tmp 3) ?_); refine wpList_loadK rfl 31 (.tmp 3) rfl _ rfl _ lx.out ?_) | ((with_reducible refine at_load 31 (.tmp 4) ?_); refine wpList_loadK rfl 31 (.tmp 4) rfl _ rfl _ ly.out ?_))
 refine DC.out.mono ?_
 rintro e wc ⟨D1, G1, g1, S1, s1, co1, rfl, hda, hb, hdf, -, -⟩
 have DA1 := Aside0.mk hda
 have DF1 := Aside0.mk hdf
 clear hda hdf lx ly DC
 have BW := Aside0.mk (below_step BW.out hb)
 have HX := Aside0.mk (HX.out.below hb)
 have Q0 := Aside0.mk (roomN Q0.out hb)
 have Q1 := Aside0.mk (roomN Q1.out hb)
 have Q2 := Aside0.mk (roomN Q2.out hb)
 have PS0 := Aside0.mk (PsAt.below PS0.out hb)
 have PS1 := Aside0.mk (PsAt.below PS1.out hb)
 have PS2 := Aside0.mk (PsAt.below PS2.out hb)
 clear hb
 obtain ⟨dd1, hdd1⟩ : ∃ dd1, dd1 = wc.heap.size := ⟨_, rfl⟩
 obtain ⟨wd, hwd⟩ : ∃ wd, wd = wc.alloc (.cells (delCells D1 G1 g1 S1 s1).toArray 55) := ⟨_, rfl⟩
 have hbb : Below wc.heap.size wc wd := by rw [hwd]; exact (Below.refl _ wc).alloc (Nat.le_refl _) _
 have Qdd1 := Aside0.mk (show wd.heap[dd1]? = some (.cells (delCells D1 G1 g1 S1 s1).toArray 55 (0, 0)) by rw [hwd, hdd1]; exact heap_alloc_new wc _)
 have st := Aside0.mk (fun (C : Array Value) (hc : C.size = 39) => run_storeNew Tryz.prog wc 55 39 (by kernel_rfl) C (delCells D1 G1 g1 S1 s1).toArray hc (by simpa using delCells_len _ _ _ _ _) (del_one _ _ _ _ _))
 obtain ⟨Mdd1, hMdd1⟩ : ∃ Mdd1, Mdd1 = (delCells D1 G1 g1 S1 s1).toArray := ⟨_, rfl⟩
 have HMdd1 := Aside0.mk hMdd1
 rw [← hMdd1] at hwd st ⊢
 have BW := Aside0.mk (below_step BW.out hbb)
 have HX := Aside0.mk (HX.out.below hbb)
 have Q0 := Aside0.mk (roomN Q0.out hbb)
 have Q1 := Aside0.mk (roomN Q1.out hbb)
 have Q2 := Aside0.mk (roomN Q2.out hbb)
 have PS0 := Aside0.mk (PsAt.below PS0.out hbb)
 have PS1 := Aside0.mk (PsAt.below PS1.out hbb)
 have PS2 := Aside0.mk (PsAt.below PS2.out hbb)
 have DA1 := Aside0.mk (DAt.below DA1.out hbb)
 clear hMdd1 hbb
 go_upto_region 4 with ((with_reducible refine at_store 55 (.tmp 7) (.tmp 25) ?_); refine wpList_storeK rfl 55 (.tmp 7) (.tmp 25) rfl rfl _ _ rfl rfl _ (st.out _ rfl) ?_)
 rw [← hwd, ← hdd1]
 clear hwd hdd1 st
 have lx := Aside0.mk (run_loadAtK Tryz.prog wd 31 37 Tryz.isAgg31 Tryz.sizeOf31 q1 0 (mapCells b A1 c1) (mapCells_len _ _ _) (cells_of_heap Q1.out))
 have ly := Aside0.mk (run_loadAtK Tryz.prog wd 31 37 Tryz.isAgg31 Tryz.sizeOf31 q2 0 (mapCells z A2 c2) (mapCells_len _ _ _) (cells_of_heap Q2.out))
 have DC := Aside0.mk (diff_any b z A1 c1 A2 c2 wd PS1.out PS2.out)
 rw [← HX1.out] at lx DC
 rw [← HX2.out] at ly DC
 go_wp2_with (first | ((with_reducible refine at_load 31 (.tmp 4) ?_); refine wpList_loadK rfl 31 (.tmp 4) rfl _ rfl _ lx.out ?_) | ((with_reducible refine at_load 31 (.tmp 5) ?_); refine wpList_loadK rfl 31 (.tmp 5) rfl _ rfl _ ly.out ?_))
 refine DC.out.mono ?_
 rintro e we ⟨D2, G2, g2, S2, s2, co2, rfl, hda, hb, hdf, -, -⟩
 have DA2 := Aside0.mk hda
 have DF2 := Aside0.mk hdf
 clear hda hdf lx ly DC
 have BW := Aside0.mk (below_step BW.out hb)
 have HX := Aside0.mk (HX.out.below hb)
 have Q0 := Aside0.mk (roomN Q0.out hb)
 have Q1 := Aside0.mk (roomN Q1.out hb)
 have Q2 := Aside0.mk (roomN Q2.out hb)
 have PS0 := Aside0.mk (PsAt.below PS0.out hb)
 have PS1 := Aside0.mk (PsAt.below PS1.out hb)
 have PS2 := Aside0.mk (PsAt.below PS2.out hb)
 have DA1 := Aside0.mk (DAt.below DA1.out hb)
 have Qdd1 := Aside0.mk (roomN Qdd1.out hb)
 clear hb
 obtain ⟨dd2, hdd2⟩ : ∃ dd2, dd2 = we.heap.size := ⟨_, rfl⟩
 obtain ⟨wf, hwf⟩ : ∃ wf, wf = we.alloc (.cells (delCells D2 G2 g2 S2 s2).toArray 55) := ⟨_, rfl⟩
 have hbb : Below we.heap.size we wf := by rw [hwf]; exact (Below.refl _ we).alloc (Nat.le_refl _) _
 have Qdd2 := Aside0.mk (show wf.heap[dd2]? = some (.cells (delCells D2 G2 g2 S2 s2).toArray 55 (0, 0)) by rw [hwf, hdd2]; exact heap_alloc_new we _)
 have st := Aside0.mk (fun (C : Array Value) (hc : C.size = 39) => run_storeNew Tryz.prog we 55 39 (by kernel_rfl) C (delCells D2 G2 g2 S2 s2).toArray hc (by simpa using delCells_len _ _ _ _ _) (del_one _ _ _ _ _))
 obtain ⟨Mdd2, hMdd2⟩ : ∃ Mdd2, Mdd2 = (delCells D2 G2 g2 S2 s2).toArray := ⟨_, rfl⟩
 have HMdd2 := Aside0.mk hMdd2
 rw [← hMdd2] at hwf st ⊢
 have BW := Aside0.mk (below_step BW.out hbb)
 have HX := Aside0.mk (HX.out.below hbb)
 have Q0 := Aside0.mk (roomN Q0.out hbb)
 have Q1 := Aside0.mk (roomN Q1.out hbb)
 have Q2 := Aside0.mk (roomN Q2.out hbb)
 have PS0 := Aside0.mk (PsAt.below PS0.out hbb)
 have PS1 := Aside0.mk (PsAt.below PS1.out hbb)
 have PS2 := Aside0.mk (PsAt.below PS2.out hbb)
 have DA1 := Aside0.mk (DAt.below DA1.out hbb)
 have Qdd1 := Aside0.mk (roomN Qdd1.out hbb)
 have DA2 := Aside0.mk (DAt.below DA2.out hbb)
 clear hMdd2 hbb
 go_upto_region 5 with ((with_reducible refine at_store 55 (.tmp 9) (.tmp 31) ?_); refine wpList_storeK rfl 55 (.tmp 9) (.tmp 31) rfl rfl _ _ rfl rfl _ (st.out _ rfl) ?_)
 rw [← hwf, ← hdd2]
 clear hwf hdd2 st
 by_cases hc1 : co1 = 0
 case neg =>
  have hc1b : (co1 != 0) = true := by simpa using hc1
  clear hc1
  go_wp2_with fail
  go_ret
  exact ⟨rfl, BW.out⟩
 have hc1b : (co1 != 0) = false := by simpa using hc1
 have HC1 := Aside0.mk hc1
 clear hc1
 by_cases hc2 : co2 = 0
 case neg =>
  have hc2b : (co2 != 0) = true := by simpa using hc2
  clear hc2
  go_wp2_with fail
  go_ret
  exact ⟨rfl, BW.out⟩
 have hc2b : (co2 != 0) = false := by simpa using hc2
 have CH := Aside0.mk (chain a b z (by rw [← DF1.out]; exact HC1.out) (by rw [← DF2.out]; exact hc2))
 clear hc2
 have lx := Aside0.mk (run_loadAtK Tryz.prog wf 31 37 Tryz.isAgg31 Tryz.sizeOf31 q0 0 (mapCells a A0 c0) (mapCells_len _ _ _) (cells_of_heap Q0.out))
 have ly := Aside0.mk (run_loadAtK Tryz.prog wf 31 37 Tryz.isAgg31 Tryz.sizeOf31 q2 0 (mapCells z A2 c2) (mapCells_len _ _ _) (cells_of_heap Q2.out))
 have DC := Aside0.mk (diff_any a z A0 c0 A2 c2 wf PS0.out PS2.out)
 rw [← HX0.out] at lx DC
 rw [← HX2.out] at ly DC
 go_wp2_with (first | ((with_reducible refine at_load 31 (.tmp 3) ?_); refine wpList_loadK rfl 31 (.tmp 3) rfl _ rfl _ lx.out ?_) | ((with_reducible refine at_load 31 (.tmp 5) ?_); refine wpList_loadK rfl 31 (.tmp 5) rfl _ rfl _ ly.out ?_))
 refine DC.out.mono ?_
 rintro e wg ⟨D3, G3, g3, S3, s3, co3, rfl, hda, hb, hdf, -, -⟩
 have DA3 := Aside0.mk hda
 have DF3 := Aside0.mk hdf
 clear hda hdf lx ly DC
 have BW := Aside0.mk (below_step BW.out hb)
 have HX := Aside0.mk (HX.out.below hb)
 have Q0 := Aside0.mk (roomN Q0.out hb)
 have Q1 := Aside0.mk (roomN Q1.out hb)
 have Q2 := Aside0.mk (roomN Q2.out hb)
 have PS0 := Aside0.mk (PsAt.below PS0.out hb)
 have PS1 := Aside0.mk (PsAt.below PS1.out hb)
 have PS2 := Aside0.mk (PsAt.below PS2.out hb)
 have DA1 := Aside0.mk (DAt.below DA1.out hb)
 have Qdd1 := Aside0.mk (roomN Qdd1.out hb)
 have DA2 := Aside0.mk (DAt.below DA2.out hb)
 have Qdd2 := Aside0.mk (roomN Qdd2.out hb)
 clear hb
 obtain ⟨dd3, hdd3⟩ : ∃ dd3, dd3 = wg.heap.size := ⟨_, rfl⟩
 obtain ⟨wh, hwh⟩ : ∃ wh, wh = wg.alloc (.cells (delCells D3 G3 g3 S3 s3).toArray 55) := ⟨_, rfl⟩
 have hbb : Below wg.heap.size wg wh := by rw [hwh]; exact (Below.refl _ wg).alloc (Nat.le_refl _) _
 have Qdd3 := Aside0.mk (show wh.heap[dd3]? = some (.cells (delCells D3 G3 g3 S3 s3).toArray 55 (0, 0)) by rw [hwh, hdd3]; exact heap_alloc_new wg _)
 have st := Aside0.mk (fun (C : Array Value) (hc : C.size = 39) => run_storeNew Tryz.prog wg 55 39 (by kernel_rfl) C (delCells D3 G3 g3 S3 s3).toArray hc (by simpa using delCells_len _ _ _ _ _) (del_one _ _ _ _ _))
 obtain ⟨Mdd3, hMdd3⟩ : ∃ Mdd3, Mdd3 = (delCells D3 G3 g3 S3 s3).toArray := ⟨_, rfl⟩
 have HMdd3 := Aside0.mk hMdd3
 rw [← hMdd3] at hwh st ⊢
 have BW := Aside0.mk (below_step BW.out hbb)
 have HX := Aside0.mk (HX.out.below hbb)
 have Q0 := Aside0.mk (roomN Q0.out hbb)
 have Q1 := Aside0.mk (roomN Q1.out hbb)
 have Q2 := Aside0.mk (roomN Q2.out hbb)
 have PS0 := Aside0.mk (PsAt.below PS0.out hbb)
 have PS1 := Aside0.mk (PsAt.below PS1.out hbb)
 have PS2 := Aside0.mk (PsAt.below PS2.out hbb)
 have DA1 := Aside0.mk (DAt.below DA1.out hbb)
 have Qdd1 := Aside0.mk (roomN Qdd1.out hbb)
 have DA2 := Aside0.mk (DAt.below DA2.out hbb)
 have Qdd2 := Aside0.mk (roomN Qdd2.out hbb)
 have DA3 := Aside0.mk (DAt.below DA3.out hbb)
 clear hMdd3 hbb
 go_upto_region 8 with ((with_reducible refine at_store 55 (.tmp 11) (.tmp 43) ?_); refine wpList_storeK rfl 55 (.tmp 11) (.tmp 43) rfl rfl _ _ rfl rfl _ (st.out _ rfl) ?_)
 rw [← hwh, ← hdd3]
 clear hwh hdd3 st
 have lx := Aside0.mk (run_loadAtK Tryz.prog wh 31 37 Tryz.isAgg31 Tryz.sizeOf31 q0 0 (mapCells a A0 c0) (mapCells_len _ _ _) (cells_of_heap Q0.out))
 have ly := Aside0.mk (run_loadAtK Tryz.prog wh 55 39 Tryz.isAgg55 Tryz.sizeOf55 dd1 0 (delCells D1 G1 g1 S1 s1) (delCells_len _ _ _ _ _) (cells_of_heap Qdd1.out))
 have AC := Aside0.mk (apply_any a D1 A0 c0 G1 g1 S1 s1 wh PS0.out DA1.out)
 rw [← HX0.out] at lx AC
 rw [← HMdd1.out] at ly AC
 go_wp2_with (first | ((with_reducible refine at_load 31 (.tmp 3) ?_); refine wpList_loadK rfl 31 (.tmp 3) rfl _ rfl _ lx.out ?_) | ((with_reducible refine at_load 55 (.tmp 7) ?_); refine wpList_loadK rfl 55 (.tmp 7) rfl _ rfl _ ly.out ?_))
 refine AC.out.mono ?_
 rintro e wi ⟨N4, B4, b4, ca4, rfl, hps, hb, hap, -⟩
 have PN4 := Aside0.mk hps
 have AP4 := Aside0.mk hap
 clear hps hap lx ly AC
 have BW := Aside0.mk (below_step BW.out hb)
 have HX := Aside0.mk (HX.out.below hb)
 have Q0 := Aside0.mk (roomN Q0.out hb)
 have Q1 := Aside0.mk (roomN Q1.out hb)
 have Q2 := Aside0.mk (roomN Q2.out hb)
 have PS0 := Aside0.mk (PsAt.below PS0.out hb)
 have PS1 := Aside0.mk (PsAt.below PS1.out hb)
 have PS2 := Aside0.mk (PsAt.below PS2.out hb)
 have DA1 := Aside0.mk (DAt.below DA1.out hb)
 have Qdd1 := Aside0.mk (roomN Qdd1.out hb)
 have DA2 := Aside0.mk (DAt.below DA2.out hb)
 have Qdd2 := Aside0.mk (roomN Qdd2.out hb)
 have DA3 := Aside0.mk (DAt.below DA3.out hb)
 have Qdd3 := Aside0.mk (roomN Qdd3.out hb)
 clear hb
 obtain ⟨nn4, hnn4⟩ : ∃ nn4, nn4 = wi.heap.size := ⟨_, rfl⟩
 obtain ⟨wj, hwj⟩ : ∃ wj, wj = wi.alloc (.cells (mapCells N4 B4 b4).toArray 31) := ⟨_, rfl⟩
 have hbb : Below wi.heap.size wi wj := by rw [hwj]; exact (Below.refl _ wi).alloc (Nat.le_refl _) _
 have Qnn4 := Aside0.mk (show wj.heap[nn4]? = some (.cells (mapCells N4 B4 b4).toArray 31 (0, 0)) by rw [hwj, hnn4]; exact heap_alloc_new wi _)
 have st := Aside0.mk (fun (C : Array Value) (hc : C.size = 37) => run_storeNew Tryz.prog wi 31 37 (by kernel_rfl) C (mapCells N4 B4 b4).toArray hc (by simpa using mapCells_len _ _ _) (map_one _ _ _))
 obtain ⟨Mnn4, hMnn4⟩ : ∃ Mnn4, Mnn4 = (mapCells N4 B4 b4).toArray := ⟨_, rfl⟩
 have HMnn4 := Aside0.mk hMnn4
 rw [← hMnn4] at hwj st ⊢
 have BW := Aside0.mk (below_step BW.out hbb)
 have HX := Aside0.mk (HX.out.below hbb)
 have Q0 := Aside0.mk (roomN Q0.out hbb)
 have Q1 := Aside0.mk (roomN Q1.out hbb)
 have Q2 := Aside0.mk (roomN Q2.out hbb)
 have PS0 := Aside0.mk (PsAt.below PS0.out hbb)
 have PS1 := Aside0.mk (PsAt.below PS1.out hbb)
 have PS2 := Aside0.mk (PsAt.below PS2.out hbb)
 have DA1 := Aside0.mk (DAt.below DA1.out hbb)
 have Qdd1 := Aside0.mk (roomN Qdd1.out hbb)
 have DA2 := Aside0.mk (DAt.below DA2.out hbb)
 have Qdd2 := Aside0.mk (roomN Qdd2.out hbb)
 have DA3 := Aside0.mk (DAt.below DA3.out hbb)
 have Qdd3 := Aside0.mk (roomN Qdd3.out hbb)
 have PN4 := Aside0.mk (PsAt.below PN4.out hbb)
 clear hMnn4 hbb
 go_upto_region 9 with ((with_reducible refine at_store 31 (.tmp 13) (.tmp 49) ?_); refine wpList_storeK rfl 31 (.tmp 13) (.tmp 49) rfl rfl _ _ rfl rfl _ (st.out _ rfl) ?_)
 rw [← hwj, ← hnn4]
 clear hwj hnn4 st
 have lx := Aside0.mk (run_loadAtK Tryz.prog wj 31 37 Tryz.isAgg31 Tryz.sizeOf31 nn4 0 (mapCells N4 B4 b4) (mapCells_len _ _ _) (cells_of_heap Qnn4.out))
 have ly := Aside0.mk (run_loadAtK Tryz.prog wj 55 39 Tryz.isAgg55 Tryz.sizeOf55 dd2 0 (delCells D2 G2 g2 S2 s2) (delCells_len _ _ _ _ _) (cells_of_heap Qdd2.out))
 have AC := Aside0.mk (apply_any N4 D2 B4 b4 G2 g2 S2 s2 wj PN4.out DA2.out)
 rw [← HMnn4.out] at lx AC
 rw [← HMdd2.out] at ly AC
 go_wp2_with (first | ((with_reducible refine at_load 31 (.tmp 13) ?_); refine wpList_loadK rfl 31 (.tmp 13) rfl _ rfl _ lx.out ?_) | ((with_reducible refine at_load 55 (.tmp 9) ?_); refine wpList_loadK rfl 55 (.tmp 9) rfl _ rfl _ ly.out ?_))
 refine AC.out.mono ?_
 rintro e wk ⟨N5, B5, b5, ca5, rfl, hps, hb, hap, -⟩
 have PN5 := Aside0.mk hps
 have AP5 := Aside0.mk hap
 clear hps hap lx ly AC
 have BW := Aside0.mk (below_step BW.out hb)
 have HX := Aside0.mk (HX.out.below hb)
 have Q0 := Aside0.mk (roomN Q0.out hb)
 have Q1 := Aside0.mk (roomN Q1.out hb)
 have Q2 := Aside0.mk (roomN Q2.out hb)
 have PS0 := Aside0.mk (PsAt.below PS0.out hb)
 have PS1 := Aside0.mk (PsAt.below PS1.out hb)
 have PS2 := Aside0.mk (PsAt.below PS2.out hb)
 have DA1 := Aside0.mk (DAt.below DA1.out hb)
 have Qdd1 := Aside0.mk (roomN Qdd1.out hb)
 have DA2 := Aside0.mk (DAt.below DA2.out hb)
 have Qdd2 := Aside0.mk (roomN Qdd2.out hb)
 have DA3 := Aside0.mk (DAt.below DA3.out hb)
 have Qdd3 := Aside0.mk (roomN Qdd3.out hb)
 have PN4 := Aside0.mk (PsAt.below PN4.out hb)
 have Qnn4 := Aside0.mk (roomN Qnn4.out hb)
 clear hb
 obtain ⟨nn5, hnn5⟩ : ∃ nn5, nn5 = wk.heap.size := ⟨_, rfl⟩
 obtain ⟨wl, hwl⟩ : ∃ wl, wl = wk.alloc (.cells (mapCells N5 B5 b5).toArray 31) := ⟨_, rfl⟩
 have hbb : Below wk.heap.size wk wl := by rw [hwl]; exact (Below.refl _ wk).alloc (Nat.le_refl _) _
 have Qnn5 := Aside0.mk (show wl.heap[nn5]? = some (.cells (mapCells N5 B5 b5).toArray 31 (0, 0)) by rw [hwl, hnn5]; exact heap_alloc_new wk _)
 have st := Aside0.mk (fun (C : Array Value) (hc : C.size = 37) => run_storeNew Tryz.prog wk 31 37 (by kernel_rfl) C (mapCells N5 B5 b5).toArray hc (by simpa using mapCells_len _ _ _) (map_one _ _ _))
 obtain ⟨Mnn5, hMnn5⟩ : ∃ Mnn5, Mnn5 = (mapCells N5 B5 b5).toArray := ⟨_, rfl⟩
 have HMnn5 := Aside0.mk hMnn5
 rw [← hMnn5] at hwl st ⊢
 have BW := Aside0.mk (below_step BW.out hbb)
 have HX := Aside0.mk (HX.out.below hbb)
 have Q0 := Aside0.mk (roomN Q0.out hbb)
 have Q1 := Aside0.mk (roomN Q1.out hbb)
 have Q2 := Aside0.mk (roomN Q2.out hbb)
 have PS0 := Aside0.mk (PsAt.below PS0.out hbb)
 have PS1 := Aside0.mk (PsAt.below PS1.out hbb)
 have PS2 := Aside0.mk (PsAt.below PS2.out hbb)
 have DA1 := Aside0.mk (DAt.below DA1.out hbb)
 have Qdd1 := Aside0.mk (roomN Qdd1.out hbb)
 have DA2 := Aside0.mk (DAt.below DA2.out hbb)
 have Qdd2 := Aside0.mk (roomN Qdd2.out hbb)
 have DA3 := Aside0.mk (DAt.below DA3.out hbb)
 have Qdd3 := Aside0.mk (roomN Qdd3.out hbb)
 have PN4 := Aside0.mk (PsAt.below PN4.out hbb)
 have Qnn4 := Aside0.mk (roomN Qnn4.out hbb)
 have PN5 := Aside0.mk (PsAt.below PN5.out hbb)
 clear hMnn5 hbb
 go_upto_region 10 with ((with_reducible refine at_store 31 (.tmp 15) (.tmp 55) ?_); refine wpList_storeK rfl 31 (.tmp 15) (.tmp 55) rfl rfl _ _ rfl rfl _ (st.out _ rfl) ?_)
 rw [← hwl, ← hnn5]
 clear hwl hnn5 st
 have lx := Aside0.mk (run_loadAtK Tryz.prog wl 31 37 Tryz.isAgg31 Tryz.sizeOf31 q0 0 (mapCells a A0 c0) (mapCells_len _ _ _) (cells_of_heap Q0.out))
 have ly := Aside0.mk (run_loadAtK Tryz.prog wl 55 39 Tryz.isAgg55 Tryz.sizeOf55 dd3 0 (delCells D3 G3 g3 S3 s3) (delCells_len _ _ _ _ _) (cells_of_heap Qdd3.out))
 have AC := Aside0.mk (apply_any a D3 A0 c0 G3 g3 S3 s3 wl PS0.out DA3.out)
 rw [← HX0.out] at lx AC
 rw [← HMdd3.out] at ly AC
 go_wp2_with (first | ((with_reducible refine at_load 31 (.tmp 3) ?_); refine wpList_loadK rfl 31 (.tmp 3) rfl _ rfl _ lx.out ?_) | ((with_reducible refine at_load 55 (.tmp 11) ?_); refine wpList_loadK rfl 55 (.tmp 11) rfl _ rfl _ ly.out ?_))
 refine AC.out.mono ?_
 rintro e wm ⟨N6, B6, b6, ca6, rfl, hps, hb, hap, -⟩
 have PN6 := Aside0.mk hps
 have AP6 := Aside0.mk hap
 clear hps hap lx ly AC
 have BW := Aside0.mk (below_step BW.out hb)
 have HX := Aside0.mk (HX.out.below hb)
 have Q0 := Aside0.mk (roomN Q0.out hb)
 have Q1 := Aside0.mk (roomN Q1.out hb)
 have Q2 := Aside0.mk (roomN Q2.out hb)
 have PS0 := Aside0.mk (PsAt.below PS0.out hb)
 have PS1 := Aside0.mk (PsAt.below PS1.out hb)
 have PS2 := Aside0.mk (PsAt.below PS2.out hb)
 have DA1 := Aside0.mk (DAt.below DA1.out hb)
 have Qdd1 := Aside0.mk (roomN Qdd1.out hb)
 have DA2 := Aside0.mk (DAt.below DA2.out hb)
 have Qdd2 := Aside0.mk (roomN Qdd2.out hb)
 have DA3 := Aside0.mk (DAt.below DA3.out hb)
 have Qdd3 := Aside0.mk (roomN Qdd3.out hb)
 have PN4 := Aside0.mk (PsAt.below PN4.out hb)
 have Qnn4 := Aside0.mk (roomN Qnn4.out hb)
 have PN5 := Aside0.mk (PsAt.below PN5.out hb)
 have Qnn5 := Aside0.mk (roomN Qnn5.out hb)
 clear hb
 obtain ⟨nn6, hnn6⟩ : ∃ nn6, nn6 = wm.heap.size := ⟨_, rfl⟩
 obtain ⟨wn, hwn⟩ : ∃ wn, wn = wm.alloc (.cells (mapCells N6 B6 b6).toArray 31) := ⟨_, rfl⟩
 have hbb : Below wm.heap.size wm wn := by rw [hwn]; exact (Below.refl _ wm).alloc (Nat.le_refl _) _
 have Qnn6 := Aside0.mk (show wn.heap[nn6]? = some (.cells (mapCells N6 B6 b6).toArray 31 (0, 0)) by rw [hwn, hnn6]; exact heap_alloc_new wm _)
 have st := Aside0.mk (fun (C : Array Value) (hc : C.size = 37) => run_storeNew Tryz.prog wm 31 37 (by kernel_rfl) C (mapCells N6 B6 b6).toArray hc (by simpa using mapCells_len _ _ _) (map_one _ _ _))
 obtain ⟨Mnn6, hMnn6⟩ : ∃ Mnn6, Mnn6 = (mapCells N6 B6 b6).toArray := ⟨_, rfl⟩
 have HMnn6 := Aside0.mk hMnn6
 rw [← hMnn6] at hwn st ⊢
 have BW := Aside0.mk (below_step BW.out hbb)
 have HX := Aside0.mk (HX.out.below hbb)
 have Q0 := Aside0.mk (roomN Q0.out hbb)
 have Q1 := Aside0.mk (roomN Q1.out hbb)
 have Q2 := Aside0.mk (roomN Q2.out hbb)
 have PS0 := Aside0.mk (PsAt.below PS0.out hbb)
 have PS1 := Aside0.mk (PsAt.below PS1.out hbb)
 have PS2 := Aside0.mk (PsAt.below PS2.out hbb)
 have DA1 := Aside0.mk (DAt.below DA1.out hbb)
 have Qdd1 := Aside0.mk (roomN Qdd1.out hbb)
 have DA2 := Aside0.mk (DAt.below DA2.out hbb)
 have Qdd2 := Aside0.mk (roomN Qdd2.out hbb)
 have DA3 := Aside0.mk (DAt.below DA3.out hbb)
 have Qdd3 := Aside0.mk (roomN Qdd3.out hbb)
 have PN4 := Aside0.mk (PsAt.below PN4.out hbb)
 have Qnn4 := Aside0.mk (roomN Qnn4.out hbb)
 have PN5 := Aside0.mk (PsAt.below PN5.out hbb)
 have Qnn5 := Aside0.mk (roomN Qnn5.out hbb)
 have PN6 := Aside0.mk (PsAt.below PN6.out hbb)
 clear hMnn6 hbb
 go_upto_region 11 with ((with_reducible refine at_store 31 (.tmp 17) (.tmp 61) ?_); refine wpList_storeK rfl 31 (.tmp 17) (.tmp 61) rfl rfl _ _ rfl rfl _ (st.out _ rfl) ?_)
 rw [← hwn, ← hnn6]
 clear hwn hnn6 st
 have FIN := Aside0.mk (show co3 = 0 ∧ ca4 = 0 ∧ ca5 = 0 ∧ ca6 = 0 ∧ N5 = N6 by
  obtain ⟨h1, h2, h3, h4⟩ := CH.out
  rw [← DF1.out] at h2
  rw [← DF2.out] at h3
  rw [← DF3.out] at h1 h4
  have e4 := AP4.out.trans h2
  have n4 : N4 = b := congrArg Prod.fst e4
  have e5 := AP5.out
  rw [n4] at e5
  have e5 := e5.trans h3
  have e6 := AP6.out.trans h4
  exact ⟨h1, congrArg Prod.snd e4, congrArg Prod.snd e5, congrArg Prod.snd e6, (congrArg Prod.fst e5).trans (congrArg Prod.fst e6).symm⟩)
 obtain ⟨f1, f2, f3, f4, f5⟩ := FIN.out
 subst f1 f2 f3 f4
 have lx := Aside0.mk (run_loadAtK Tryz.prog wn 31 37 Tryz.isAgg31 Tryz.sizeOf31 nn5 0 (mapCells N5 B5 b5) (mapCells_len _ _ _) (cells_of_heap Qnn5.out))
 have ly := Aside0.mk (run_loadAtK Tryz.prog wn 31 37 Tryz.isAgg31 Tryz.sizeOf31 nn6 0 (mapCells N6 B6 b6) (mapCells_len _ _ _) (cells_of_heap Qnn6.out))
 have SM := Aside0.mk (same18 N5 N6 B5 B6 b5 b6 wn PN5.out PN6.out)
 rw [decide_eq_true f5, ← HMnn5.out, ← HMnn6.out] at SM
 rw [← HMnn5.out] at lx
 rw [← HMnn6.out] at ly
 clear f5
 go_wp2_with (first | ((with_reducible refine at_load 31 (.tmp 15) ?_); refine wpList_loadW (by rfl) 31 (.tmp 15) rfl _ rfl _ lx.out ?_) | ((with_reducible refine at_load 31 (.tmp 17) ?_); refine wpList_loadW (by rfl) 31 (.tmp 17) rfl _ rfl _ ly.out ?_))
 refine SM.out.mono ?_
 rintro e wo ⟨rfl, hb⟩
 have HE := Aside0.mk (below_step BW.out hb)
 clear hb
 go_wp2_with fail
 go_ret
 exact ⟨rfl, HE.out⟩
end Go.Proofs.YtmgbaefgcdglpaaGreatDoor.Net
end
