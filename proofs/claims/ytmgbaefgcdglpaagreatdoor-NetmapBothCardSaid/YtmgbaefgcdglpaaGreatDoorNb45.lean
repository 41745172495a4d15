/- Both: two nodes are each other's peers, or neither is. What the rows' arguments read as: rows of asks; the listed variables; the wrap. What arguments read as: books, and rows of ops. What arguments read as: keys by value, rows of bytes. What arguments read as: netmaps and deltas. -/
import Derived.Test.YtmgbaefgcdglpaaGreatDoorNb44
import Derived.Test.YtmgbaefgcdglpaaGreatDoorTie
import Derived.Test.YtmgbaefgcdglpaaGreatDoorNb26
import Derived.Test.YtmgbaefgcdglpaaGreatDoorNb28
import Derived.ProofKit
import Derived.OpenShut
import Derived.LaidMore
import Derived.Lay
import Derived.SevenTiedAt
import Derived.Stop.Joined
import Derived.WalkKit
import Derived.ChangeOld
import Derived.SizedLaws
import Derived.Deep.SlicePairs
import Derived.WideKeyArr2
import Derived.HandedShaped
import Derived.Test.YtmgbaefgcdglpaaGreatDoorNb31
import Derived.Test.YtmgbaefgcdglpaaGreatDoorNb42
section
namespace Go.Proofs.YtmgbaefgcdglpaaGreatDoor.Net
open Go Go.RowKit Go.Proofs Go.Proofs.YtmgbaefgcdglpaaGreatDoorW.PrintWords Go.Proofs.YtmgbaefgcdglpaaGreatDoorW.PrintLast Go.Proofs.YtmgbaefgcdglpaaGreatDoorW.PrintMore Go.Proofs.YtmgbaefgcdglpaaGreatDoor.Dir
set_option linter.unusedVariables false
set_option linter.unusedSimpArgs false
set_option maxHeartbeats 4000000 in
set_option maxRecDepth 100000 in
theorem both_law (B : Book) (A1 : Option Addr) (c1 : Nat) (A2 : Option Addr) (c2 : Nat) (x y : Int) (w : World) (h : SrcB w B A1 A2) (hx : PA.LaidW w) :
  Calls Tryz.prog 5 #[.agg (bookCells B A1 c1 A2 c2).toArray, .int .i64 x, .int .i64 y] w fun e w' => e = .returned (.bool true) ∧ Below w.heap.size w w' := by
 obtain ⟨bb, hbb0⟩ : ∃ bb, bb = w.heap.size := ⟨_, rfl⟩
 obtain ⟨wa, hwa⟩ : ∃ wa, wa = w.alloc (.cells (bookCells B A1 c1 A2 c2).toArray 25) := ⟨_, rfl⟩
 have hba : Below w.heap.size w wa := by rw [hwa]; exact (Below.refl _ w).alloc (Nat.le_refl _) _
 have BW := Aside0.mk hba
 have SRC := Aside0.mk (h.later hba)
 have HX := Aside0.mk (hx.below hba)
 have QB := Aside0.mk (show wa.heap[bb]? = some (.cells (bookCells B A1 c1 A2 c2).toArray 25 (0, 0)) by rw [hwa, hbb0]; exact heap_alloc_new w _)
 obtain ⟨X, hX⟩ : ∃ X, X = (bookCells B A1 c1 A2 c2).toArray := ⟨_, rfl⟩
 have HXX := Aside0.mk hX
 rw [← hX] at hwa ⊢
 clear hX hba h hx
 go_enter Tryz.func5, Tryz.ntmps5
 go_upto_region 1 with fail
 change Code.wp _ _ _ _ (w.alloc (.cells X 25))
 rw [← hwa, ← hbb0]
 clear hwa hbb0
 go_wp2_with fail
 refine (works20 wa HX.out).mono ?_
 rintro e wb ⟨rfl, hb⟩
 have BW := Aside0.mk (below_step BW.out hb)
 have SRC := Aside0.mk (SRC.out.later hb)
 have HX := Aside0.mk (HX.out.below hb)
 have QB := Aside0.mk (roomN QB.out hb)
 clear hb
 have lb := Aside0.mk (run_loadAtK Tryz.prog wb 25 5 Tryz.isAgg25 Tryz.sizeOf25 bb 0 (bookCells B A1 c1 A2 c2) rfl (cells_of_heap QB.out))
 have OC := Aside0.mk (of_any B x A1 c1 A2 c2 wb SRC.out HX.out)
 rw [← HXX.out] at lb OC
 go_wp2_with ((with_reducible refine at_load 25 (.tmp 3) ?_); refine wpList_loadK rfl 25 (.tmp 3) rfl _ rfl _ lb.out ?_)
 refine OC.out.mono ?_
 rintro e wc ⟨m1, PA1, pc1, co1, rfl, hps, hb, hres, -⟩
 have PS1 := Aside0.mk hps
 have RS1 := Aside0.mk hres
 clear hps hres lb OC
 have BW := Aside0.mk (below_step BW.out hb)
 have SRC := Aside0.mk (SRC.out.later hb)
 have HX := Aside0.mk (HX.out.below hb)
 have QB := Aside0.mk (roomN QB.out hb)
 clear hb
 obtain ⟨n1, hn1⟩ : ∃ n1, n1 = wc.heap.size := ⟨_, rfl⟩
 obtain ⟨wd, hwd⟩ : ∃ wd, wd = wc.alloc (.cells (mapCells m1 PA1 pc1).toArray 31) := ⟨_, rfl⟩
 have hbb : Below wc.heap.size wc wd := by rw [hwd]; exact (Below.refl _ wc).alloc (Nat.le_refl _) _
 have Qn1 := Aside0.mk (show wd.heap[n1]? = some (.cells (mapCells m1 PA1 pc1).toArray 31 (0, 0)) by rw [hwd, hn1]; exact heap_alloc_new wc _)
 have st := Aside0.mk (fun (C : Array Value) (hc : C.size = 37) => run_storeNew Tryz.prog wc 31 37 (by kernel_rfl) C (mapCells m1 PA1 pc1).toArray hc (by simpa using mapCells_len _ _ _) (map_one _ _ _))
 obtain ⟨Mn1, hMn1⟩ : ∃ Mn1, Mn1 = (mapCells m1 PA1 pc1).toArray := ⟨_, rfl⟩
 have HMn1 := Aside0.mk hMn1
 rw [← hMn1] at hwd st ⊢
 have BW := Aside0.mk (below_step BW.out hbb)
 have SRC := Aside0.mk (SRC.out.later hbb)
 have HX := Aside0.mk (HX.out.below hbb)
 have QB := Aside0.mk (roomN QB.out hbb)
 have PS1 := Aside0.mk (PsAt.below PS1.out hbb)
 clear hMn1 hbb
 go_upto_region 4 with ((with_reducible refine at_store 31 (.tmp 7) (.tmp 21) ?_); refine wpList_storeK rfl 31 (.tmp 7) (.tmp 21) rfl rfl _ _ rfl rfl _ (st.out _ rfl) ?_)
 rw [← hwd, ← hn1]
 clear hwd hn1 st
 have lb := Aside0.mk (run_loadAtK Tryz.prog wd 25 5 Tryz.isAgg25 Tryz.sizeOf25 bb 0 (bookCells B A1 c1 A2 c2) rfl (cells_of_heap QB.out))
 have OC := Aside0.mk (of_any B y A1 c1 A2 c2 wd SRC.out HX.out)
 rw [← HXX.out] at lb OC
 go_wp2_with ((with_reducible refine at_load 25 (.tmp 3) ?_); refine wpList_loadK rfl 25 (.tmp 3) rfl _ rfl _ lb.out ?_)
 refine OC.out.mono ?_
 rintro e we ⟨m2, PA2, pc2, co2, rfl, hps, hb, hres, -⟩
 have PS2 := Aside0.mk hps
 have RS2 := Aside0.mk hres
 clear hps hres lb OC
 have BW := Aside0.mk (below_step BW.out hb)
 have SRC := Aside0.mk (SRC.out.later hb)
 have HX := Aside0.mk (HX.out.below hb)
 have QB := Aside0.mk (roomN QB.out hb)
 have PS1 := Aside0.mk (PsAt.below PS1.out hb)
 have Qn1 := Aside0.mk (roomN Qn1.out hb)
 clear hb
 obtain ⟨n2, hn2⟩ : ∃ n2, n2 = we.heap.size := ⟨_, rfl⟩
 obtain ⟨wf, hwf⟩ : ∃ wf, wf = we.alloc (.cells (mapCells m2 PA2 pc2).toArray 31) := ⟨_, rfl⟩
 have hbb : Below we.heap.size we wf := by rw [hwf]; exact (Below.refl _ we).alloc (Nat.le_refl _) _
 have Qn2 := Aside0.mk (show wf.heap[n2]? = some (.cells (mapCells m2 PA2 pc2).toArray 31 (0, 0)) by rw [hwf, hn2]; exact heap_alloc_new we _)
 have st := Aside0.mk (fun (C : Array Value) (hc : C.size = 37) => run_storeNew Tryz.prog we 31 37 (by kernel_rfl) C (mapCells m2 PA2 pc2).toArray hc (by simpa using mapCells_len _ _ _) (map_one _ _ _))
 obtain ⟨Mn2, hMn2⟩ : ∃ Mn2, Mn2 = (mapCells m2 PA2 pc2).toArray := ⟨_, rfl⟩
 have HMn2 := Aside0.mk hMn2
 rw [← hMn2] at hwf st ⊢
 have BW := Aside0.mk (below_step BW.out hbb)
 have SRC := Aside0.mk (SRC.out.later hbb)
 have HX := Aside0.mk (HX.out.below hbb)
 have QB := Aside0.mk (roomN QB.out hbb)
 have PS1 := Aside0.mk (PsAt.below PS1.out hbb)
 have Qn1 := Aside0.mk (roomN Qn1.out hbb)
 have PS2 := Aside0.mk (PsAt.below PS2.out hbb)
 clear hMn2 hbb
 go_upto_region 5 with ((with_reducible refine at_store 31 (.tmp 9) (.tmp 27) ?_); refine wpList_storeK rfl 31 (.tmp 9) (.tmp 27) rfl rfl _ _ rfl rfl _ (st.out _ rfl) ?_)
 rw [← hwf, ← hn2]
 clear hwf hn2 st
 by_cases hc1 : co1 = 0
 case neg =>
  have hc1b : (co1 != 0) = true := by simpa using hc1
  have hc1e : (co1 == 0) = false := by simpa using hc1
  go_wp2_with fail
  go_ret
  exact ⟨rfl, BW.out⟩
 have hc1b : (co1 != 0) = false := by simpa using hc1
 have HC1 := Aside0.mk hc1
 by_cases hc2 : co2 = 0
 case neg =>
  have hc2b : (co2 != 0) = true := by simpa using hc2
  clear hc1
  go_wp2_with fail
  go_ret
  exact ⟨rfl, BW.out⟩
 have hc2b : (co2 != 0) = false := by simpa using hc2
 have HC2 := Aside0.mk hc2
 clear hc1 hc2
 have E1 := Aside0.mk ((RS1.out.ok HC1.out).2.2)
 have E2 := Aside0.mk ((RS2.out.ok HC2.out).2.2)
 have k1 : wf.cell? ⟨n1, 36, none⟩ = some (.slice PA1 m1.peers.length pc1) := by rw [cell_of_heap Qn1.out]; exact map36 m1 PA1 pc1
 go_wp2_with fail
 refine (find_any m1.peers y PA1 pc1 wf PS1.out).mono ?_
 rintro e wg ⟨p, P1, d1, P2, d2, is1, rfl, hin, hb, hat1⟩
 have IN1 := Aside0.mk hin
 have AT1 := Aside0.mk hat1
 clear hin hat1 k1
 have BW := Aside0.mk (below_step BW.out hb)
 have SRC := Aside0.mk (SRC.out.later hb)
 have HX := Aside0.mk (HX.out.below hb)
 have QB := Aside0.mk (roomN QB.out hb)
 have PS1 := Aside0.mk (PsAt.below PS1.out hb)
 have Qn1 := Aside0.mk (roomN Qn1.out hb)
 have PS2 := Aside0.mk (PsAt.below PS2.out hb)
 have Qn2 := Aside0.mk (roomN Qn2.out hb)
 clear hb
 obtain ⟨p1, hp1⟩ : ∃ p1, p1 = wg.heap.size := ⟨_, rfl⟩
 obtain ⟨wh, hwh⟩ : ∃ wh, wh = wg.alloc (.cells (peerCells p P1 d1 P2 d2).toArray 48) := ⟨_, rfl⟩
 have hbb : Below wg.heap.size wg wh := by rw [hwh]; exact (Below.refl _ wg).alloc (Nat.le_refl _) _
 have Qp1 := Aside0.mk (show wh.heap[p1]? = some (.cells (peerCells p P1 d1 P2 d2).toArray 48 (0, 0)) by rw [hwh, hp1]; exact heap_alloc_new wg _)
 have st := Aside0.mk (fun (C : Array Value) (hc : C.size = 36) => run_storeNew Tryz.prog wg 48 36 (by kernel_rfl) C (peerCells p P1 d1 P2 d2).toArray hc (by simpa using peerCells_len _ _ _ _ _) (peer_one _ _ _ _ _))
 obtain ⟨Mp1, hMp1⟩ : ∃ Mp1, Mp1 = (peerCells p P1 d1 P2 d2).toArray := ⟨_, rfl⟩
 have HMp1 := Aside0.mk hMp1
 rw [← hMp1] at hwh st ⊢
 have BW := Aside0.mk (below_step BW.out hbb)
 have SRC := Aside0.mk (SRC.out.later hbb)
 have HX := Aside0.mk (HX.out.below hbb)
 have QB := Aside0.mk (roomN QB.out hbb)
 have PS2 := Aside0.mk (PsAt.below PS2.out hbb)
 have Qn1 := Aside0.mk (roomN Qn1.out hbb)
 have Qn2 := Aside0.mk (roomN Qn2.out hbb)
 have IN1 := Aside0.mk (PIn.below IN1.out hbb)
 clear hMp1 hbb
 go_upto_region 8 with ((with_reducible refine at_store 48 (.tmp 11) (.tmp 40) ?_); refine wpList_storeK rfl 48 (.tmp 11) (.tmp 40) rfl rfl _ _ rfl rfl _ (st.out _ rfl) ?_)
 rw [← hwh, ← hp1]
 clear hwh hp1 st
 have k2 : wh.cell? ⟨n2, 36, none⟩ = some (.slice PA2 m2.peers.length pc2) := by rw [cell_of_heap Qn2.out]; exact map36 m2 PA2 pc2
 go_wp2_with fail
 refine (find_any m2.peers x PA2 pc2 wh PS2.out).mono ?_
 rintro e wi ⟨q, P3, d3, P4, d4, is2, rfl, hin, hb, hat2⟩
 have IN2 := Aside0.mk hin
 have AT2 := Aside0.mk hat2
 clear hin hat2 k2
 have BW := Aside0.mk (below_step BW.out hb)
 have SRC := Aside0.mk (SRC.out.later hb)
 have HX := Aside0.mk (HX.out.below hb)
 have QB := Aside0.mk (roomN QB.out hb)
 have Qn1 := Aside0.mk (roomN Qn1.out hb)
 have Qn2 := Aside0.mk (roomN Qn2.out hb)
 have IN1 := Aside0.mk (PIn.below IN1.out hb)
 have Qp1 := Aside0.mk (roomN Qp1.out hb)
 clear hb
 obtain ⟨p2, hp2⟩ : ∃ p2, p2 = wi.heap.size := ⟨_, rfl⟩
 obtain ⟨wj, hwj⟩ : ∃ wj, wj = wi.alloc (.cells (peerCells q P3 d3 P4 d4).toArray 48) := ⟨_, rfl⟩
 have hbb : Below wi.heap.size wi wj := by rw [hwj]; exact (Below.refl _ wi).alloc (Nat.le_refl _) _
 have Qp2 := Aside0.mk (show wj.heap[p2]? = some (.cells (peerCells q P3 d3 P4 d4).toArray 48 (0, 0)) by rw [hwj, hp2]; exact heap_alloc_new wi _)
 have st := Aside0.mk (fun (C : Array Value) (hc : C.size = 36) => run_storeNew Tryz.prog wi 48 36 (by kernel_rfl) C (peerCells q P3 d3 P4 d4).toArray hc (by simpa using peerCells_len _ _ _ _ _) (peer_one _ _ _ _ _))
 obtain ⟨Mp2, hMp2⟩ : ∃ Mp2, Mp2 = (peerCells q P3 d3 P4 d4).toArray := ⟨_, rfl⟩
 have HMp2 := Aside0.mk hMp2
 rw [← hMp2] at hwj st ⊢
 have BW := Aside0.mk (below_step BW.out hbb)
 have SRC := Aside0.mk (SRC.out.later hbb)
 have HX := Aside0.mk (HX.out.below hbb)
 have QB := Aside0.mk (roomN QB.out hbb)
 have Qn1 := Aside0.mk (roomN Qn1.out hbb)
 have Qn2 := Aside0.mk (roomN Qn2.out hbb)
 have IN1 := Aside0.mk (PIn.below IN1.out hbb)
 have Qp1 := Aside0.mk (roomN Qp1.out hbb)
 have IN2 := Aside0.mk (PIn.below IN2.out hbb)
 clear hMp2 hbb
 go_upto_region 9 with ((with_reducible refine at_store 48 (.tmp 13) (.tmp 47) ?_); refine wpList_storeK rfl 48 (.tmp 13) (.tmp 47) rfl rfl _ _ rfl rfl _ (st.out _ rfl) ?_)
 rw [← hwj, ← hp2]
 clear hwj hp2 st
 have BOTH := Aside0.mk (show bothOk m1.key m2.key m1.exp m2.exp (if is1 = true then some p else none) (if is2 = true then some q else none) = true by
  rw [← AT1.out, ← AT2.out, E1.out, E2.out]
  exact both_ok (spB B) B x y)
 cases is1 with
 | false =>
  cases is2 with
  | true => exact absurd BOTH.out (by simp [bothOk])
  | false =>
   go_wp2_with fail
   go_ret
   exact ⟨rfl, BW.out⟩
 | true =>
  cases is2 with
  | false => exact absurd BOTH.out (by simp [bothOk])
  | true =>
   have hbo := BOTH.out
   rw [if_pos rfl, if_pos rfl] at hbo
   unfold bothOk at hbo
   simp only [Bool.and_eq_true, decide_eq_true_eq] at hbo
   obtain ⟨⟨⟨⟨⟨h1, h2⟩, h3⟩, h4⟩, h5⟩, h6⟩ := hbo
   have f34 : wj.cell? ⟨p1, 34, none⟩ = some (.slice P1 p.inn.length d1) := by rw [cell_of_heap Qp1.out]; exact peer34 p P1 d1 P2 d2
   have g35 : wj.cell? ⟨p2, 35, none⟩ = some (.slice P4 q.out.length d4) := by rw [cell_of_heap Qp2.out]; exact peer35 q P3 d3 P4 d4
   have S1 := Aside0.mk (sameSpans24 p.inn q.out P1 P4 d1 d4 wj IN1.out.inn IN2.out.out)
   have F35 := Aside0.mk (fun (W : World) (hb : Below wj.heap.size wj W) => (show W.cell? ⟨p1, 35, none⟩ = some (.slice P2 p.out.length d2) by rw [cell_of_heap (roomN Qp1.out hb)]; exact peer35 p P1 d1 P2 d2))
   have G34 := Aside0.mk (fun (W : World) (hb : Below wj.heap.size wj W) => (show W.cell? ⟨p2, 34, none⟩ = some (.slice P3 q.inn.length d3) by rw [cell_of_heap (roomN Qp2.out hb)]; exact peer34 q P3 d3 P4 d4))
   have S2 := Aside0.mk (fun (W : World) (hb : Below wj.heap.size wj W) => sameSpans24 p.out q.inn P2 P3 d2 d3 W (IN1.out.out.below hb) (IN2.out.inn.below hb))
   have FK := Aside0.mk (fun (W : World) (hb : Below wj.heap.size wj W) => run_loadAtK Tryz.prog W 28 32 Tryz.isAgg28 Tryz.sizeOf28 p1 1 (encK m2.key) (encK_len _) (fun j v hj => by rw [cell_of_heap (roomN Qp1.out hb)]; exact peerK p P1 d1 P2 d2 j v (by rw [h3]; exact hj)))
   have GK := Aside0.mk (fun (W : World) (hb : Below wj.heap.size wj W) => run_loadAtK Tryz.prog W 28 32 Tryz.isAgg28 Tryz.sizeOf28 p2 1 (encK m1.key) (encK_len _) (fun j v hj => by rw [cell_of_heap (roomN Qp2.out hb)]; exact peerK q P3 d3 P4 d4 j v (by rw [h4]; exact hj)))
   have MK := Aside0.mk (fun (W : World) (hb : Below wj.heap.size wj W) => run_loadAtK Tryz.prog W 28 32 Tryz.isAgg28 Tryz.sizeOf28 n1 3 (encK m1.key) (encK_len _) (fun j v hj => by rw [cell_of_heap (roomN Qn1.out hb)]; exact mapK m1 PA1 pc1 j v hj))
   have NK := Aside0.mk (fun (W : World) (hb : Below wj.heap.size wj W) => run_loadAtK Tryz.prog W 28 32 Tryz.isAgg28 Tryz.sizeOf28 n2 3 (encK m2.key) (encK_len _) (fun j v hj => by rw [cell_of_heap (roomN Qn2.out hb)]; exact mapK m2 PA2 pc2 j v hj))
   have F33 := Aside0.mk (fun (W : World) (hb : Below wj.heap.size wj W) => (show W.cell? ⟨p1, 33, none⟩ = some (.int .i64 m2.exp) by rw [cell_of_heap (roomN Qp1.out hb), ← h5]; exact peer33 p P1 d1 P2 d2))
   have G33 := Aside0.mk (fun (W : World) (hb : Below wj.heap.size wj W) => (show W.cell? ⟨p2, 33, none⟩ = some (.int .i64 m1.exp) by rw [cell_of_heap (roomN Qp2.out hb), ← h6]; exact peer33 q P3 d3 P4 d4))
   have M35 := Aside0.mk (fun (W : World) (hb : Below wj.heap.size wj W) => (show W.cell? ⟨n1, 35, none⟩ = some (.int .i64 m1.exp) by rw [cell_of_heap (roomN Qn1.out hb)]; exact map35 m1 PA1 pc1))
   have N35 := Aside0.mk (fun (W : World) (hb : Below wj.heap.size wj W) => (show W.cell? ⟨n2, 35, none⟩ = some (.int .i64 m2.exp) by rw [cell_of_heap (roomN Qn2.out hb)]; exact map35 m2 PA2 pc2))
   have d1' := Aside0.mk (decide_eq_true h1)
   have d2' := Aside0.mk (decide_eq_true h2)
   rw [d1'.out] at S1
   rw [d2'.out] at S2
   clear h1 h2 h3 h4 h5 h6
   go_wp2_with fail
   refine S1.out.mono ?_
   rintro e wk ⟨rfl, hb⟩
   have HK := Aside0.mk hb
   have g35' := F35.out wk hb
   have g34' := G34.out wk hb
   clear hb f34 g35
   go_wp2_with fail
   refine (S2.out wk HK.out).mono ?_
   rintro e wl ⟨rfl, hb⟩
   have HL := Aside0.mk (below_step HK.out hb)
   have i1 := F33.out wl HL.out
   have i2 := G33.out wl HL.out
   have i3 := M35.out wl HL.out
   have i4 := N35.out wl HL.out
   have he1 := eqlK m1.key m1.key
   have he2 := eqlK m2.key m2.key
   have hg1 := fun op a b w => guardK op a b m1.key m1.key w
   have hg2 := fun op a b w => guardK op a b m2.key m2.key w
   clear hb g35' g34'
   go_wp2_with (first | ((with_reducible refine at_load 28 (.tmp 68) ?_); refine wpList_loadW (by rfl) 28 (.tmp 68) rfl _ rfl _ (FK.out wl HL.out) ?_) | ((with_reducible refine at_load 28 (.tmp 70) ?_); refine wpList_loadW (by rfl) 28 (.tmp 70) rfl _ rfl _ (NK.out wl HL.out) ?_) | ((with_reducible refine at_load 28 (.tmp 75) ?_); refine wpList_loadW (by rfl) 28 (.tmp 75) rfl _ rfl _ (GK.out wl HL.out) ?_) | ((with_reducible refine at_load 28 (.tmp 77) ?_); refine wpList_loadW (by rfl) 28 (.tmp 77) rfl _ rfl _ (MK.out wl HL.out) ?_))
   trace_state
   go_ret
   exact ⟨rfl, below_step BW.out HL.out⟩
end Go.Proofs.YtmgbaefgcdglpaaGreatDoor.Net
end
section
namespace Go.Proofs.YtmgbaefgcdglpaaGreatDoor.PA
open Go.ChangeShapes Go.WideShapes Go.ChangeAt Go.RowKit Go.Deep
open Go.Proofs.YtmgbaefgcdglpaaGreatDoorW.PrintWords Go.Proofs.YtmgbaefgcdglpaaGreatDoorW.PrintLast Go.Proofs.YtmgbaefgcdglpaaGreatDoorW.PrintMore
set_option linter.unusedVariables false
set_option maxRecDepth 100000
instance : Inhabited Dir.AskV := ⟨⟨0, 0, 0, 0⟩⟩
theorem own : ownKnob Tryz.prog.godebug = none := by kernel_rfl
theorem cells3 : Tryz.prog.cellsOf 3 = 1 := by kernel_rfl
theorem cells4 : Tryz.prog.cellsOf 4 = 1 := by kernel_rfl
section
variable {H : Type} {enc : TypeId × Value → H} {W : World} {base : Nat} {sp : Nat → Bool} {held : Bool}
end
theorem iface_of_trod {W : World} {base fuel : Nat} {sp : Nat → Bool} {t : TypeId} {ms : Array (String × TypeId)} {cs : List Value} {nm : String} {d : DataW Unit} {p : List MemPlace} (ht : Tryz.prog.underlying t = some (.interface ms))
  (h : DataW.trod (fun _ => ()) Tryz.prog W base sp false fuel t cs = some (.iface nm d, p)) : ∃ tp v, cs = [.iface tp v] := by
 cases fuel with
 | zero => simp [DataW.trod] at h
 | succ n =>
  unfold DataW.trod at h
  rw [ht] at h
  split at h <;> simp_all
theorem laidW_of {W : World} (hs : W.ShapedOpen Tryz.prog) (h : laidMetH Tryz.prog Rows.netmapOfRow.laid W) : LaidW W := by
 rw [MakeChecks.laidMetH_plain _ _ _ (by kernel_rfl)] at h
 obtain ⟨ps, ⟨_, _, _, _, _, _, _, _, _, _, ⟨_, _, _, _, _, _, _, _, _, _, ⟨g3, t3, cs3, fu3, p3, q3, hg3, ht3, hv3, hd3, ⟨_, _, _, _, _, _, _, _, _, _, ⟨g5, t5, cs5, fu5, p5, q5, hg5, ht5, hv5, hd5, ⟨g6, t6, cs6, fu6, p6, q6, hg6, ht6, hv6, hd6, _⟩, _⟩, _⟩, _⟩, _⟩, _⟩, _, _⟩ := h
 have ty : ∀ (nm : String) (T g t : Nat), ((Tryz.prog.globalNamed nm).bind fun g => (Tryz.prog.globals[g]?).map (·.type)) = some T → Tryz.prog.globalNamed nm = some g → (Tryz.prog.globals[g]?).map (·.type) = some t → t = T := by
  intro nm T g t h1 h2 h3
  rw [h2, Option.bind_some, h3] at h1
  exact Option.some.inj h1
 obtain rfl := ty _ 274 _ _ (by kernel_rfl) hg3 ht3
 obtain rfl := ty _ 228 _ _ (by kernel_rfl) hg5 ht5
 obtain rfl := ty _ 228 _ _ (by kernel_rfl) hg6 ht6
 refine ⟨hs, ?_, ?_, ?_⟩
 ·have e : Rows.laid_internal_strconv_uint64pow10 = Lib.tabData (H := Unit) .u64 Lib.pow10Tab := by kernel_rfl
  rw [e] at hd3
  have := Lib.cells_of_tab Tryz.underlying274 (e := 216) (by kernel_rfl) (by kernel_rfl) (by kernel_rfl) hd3
  rw [hv3, ← this]
 ·obtain ⟨tp, v, e⟩ := iface_of_trod Tryz.underlying228 hd6
  refine ⟨tp, v, ?_⟩
  rw [hv6]
  congr 1
  rw [← e]
 ·obtain ⟨tp, v, e⟩ := iface_of_trod Tryz.underlying228 hd5
  refine ⟨tp, v, ?_⟩
  rw [hv5]
  congr 1
  rw [← e]
theorem returnsInHanded_both {H : Type} {enc : TypeId × Value → H} {a : Assume} {C : Checked} {os : Os} {f : FuncId} {fn : Func} {s : ChangeSpec} {conds : List PathCond} {apart fresh handsOn again : Bool} {X : World → Array Value → Prop}
  (hX : ∀ (w w' : World) (args : Array Value), w.heap = w'.heap → X w args → X w' args)
  (own : ownKnob C.prog.godebug = none) (started : os.Started) (noInit : C.prog.inits.idxOf? f = none) (hfn : C.prog.funcs[f]? = some fn)
  (witness : ∃ (w : World) (tape : Tape) (i : Input), w.os = os ∧ (w.forCall tape i).Shaped C.prog ∧ i.vars = [] ∧ Input.okWide C.prog (w.forCall tape i) .any w.heap.size f i ∧
   ((s.pre enc C.prog fn conds apart (w.forCall tape i).memory i.args ∧ X (w.forCall tape i).memory i.args) ∧ sizedMet enc C.prog fn (OpenSpec.ofChange s) apart (w.forCall tape i).memory i.args) ∧ a.holds C.prog (lone (Frame.enter C.prog f i.args .normal) [] (w.forCall tape i)))
  (contract : ∀ (W : World) (base : Nat) (args : Array Value) (ds gs : List (DataW H)) (before : List MemPlace),
   (∀ (j : Nat) t v, fn.params[j]? = some t → args[j]? = some v → Value.okWide C.prog W .any base t v) →
   DataW.Whole enc C.prog fn.params.toList s.vars apart W args.toList ds gs before →
   (DataW.weightsEach C.prog (fn.params.toList ++ s.plain.varTypes C.prog) (ds ++ gs)).all (· ≤ reachBytes) = true → X W args →
   W.ShapedOpen C.prog →
   Calls C.prog f args W fun e W' => ∃ v, e = .returned v ∧ s.post enc C.prog fn apart fresh handsOn again W args v W') :
  ReturnsInHanded a C os f .any (fun w args => (s.pre enc C.prog fn conds apart w args ∧ X w args) ∧ sizedMet enc C.prog fn (OpenSpec.ofChange s) apart w args) (s.post enc C.prog fn apart fresh handsOn again) := by
 refine returnsInHanded_of_calls own started noInit witness ?_
 intro w tape i _ hsh _ hok hpre hholds
 obtain ⟨_, _, _, fn', hfn', _, _, _, _, hval⟩ := hok
 have e : fn' = fn := Option.some.inj (hfn'.symm.trans hfn)
 subst e
 obtain ⟨⟨⟨ds, gs, before, hw, hc⟩, hx⟩, hz⟩ := hpre
 have hw' := DataW.Whole.of_heap (w' := w.forCall tape i) (by rfl) hw
 refine (contract (w.forCall tape i) w.heap.size i.args ds gs before hval hw' (hz.weights hw) (hX _ _ _ (by rfl) hx) hsh).mono fun e W' ⟨v, he, hp⟩ => ?_
 subst he
 exact ChangeSpec.post_blind hp
end Go.Proofs.YtmgbaefgcdglpaaGreatDoor.PA
end
section
namespace Go.Proofs.YtmgbaefgcdglpaaGreatDoor.PA
open Go.ChangeShapes Go.WideShapes Go.ChangeAt Go.RowKit Go.Deep
open Go.Proofs.YtmgbaefgcdglpaaGreatDoorW.PrintWords Go.Proofs.YtmgbaefgcdglpaaGreatDoorW.PrintLast Go.Proofs.YtmgbaefgcdglpaaGreatDoorW.PrintMore
set_option linter.unusedVariables false
set_option maxRecDepth 100000
theorem cells34 : Tryz.prog.cellsOf 28 = 32 := by kernel_rfl
theorem cells5 : Tryz.prog.cellsOf 5 = 1 := by kernel_rfl
theorem cells46 : Tryz.prog.cellsOf 85 = 35 := by kernel_rfl
theorem cells43 : Tryz.prog.cellsOf 25 = 5 := by kernel_rfl
theorem cells9 : Tryz.prog.cellsOf 9 = 1 := by kernel_rfl
theorem cells40 : Tryz.prog.cellsOf 22 = 1 := by kernel_rfl
theorem cells41 : Tryz.prog.cellsOf 23 = 1 := by kernel_rfl
theorem bytes46 : Tryz.prog.bytesOf 85 = 56 := by kernel_rfl
theorem bytes34 : Tryz.prog.bytesOf 28 = 32 := by kernel_rfl
instance : Inhabited Dir.Key := ⟨Dir.key0⟩
section
variable {H : Type} {enc : TypeId × Value → H} {W : World} {base : Nat} {sp : Nat → Bool} {held : Bool}
theorem list_one (cs : List Value) (i : Nat) {u : Value} (h : (cs.drop i).take 1 = [u]) : cs[i]? = some u := by
 have := congrArg (fun l => l[0]?) h
 simpa using this
theorem key_of_trod {n : Nat} {cs : List Value} {x : DataW H × List MemPlace} (h : DataW.trod enc Tryz.prog W base sp held n 28 cs = some x) : ∃ k : Dir.Key, cs = Dir.encK k := by
 obtain ⟨xs, m, _, _, hl, hxl, hf⟩ := DataW.trod_array Tryz.underlying28 h
 rw [cells34] at hl
 have hb : ∀ i, i < 32 → ∃ b : UInt8, cs[i]? = some (Dir.byteV b) := fun i hi => by
  have g := hf i hi
  rw [cells5, List.getElem?_eq_getElem (by rw [hxl]; exact hi)] at g
  obtain ⟨z, e, _, f⟩ := DataW.trod_int Tryz.underlying5 g
  have hz := bounds_u8 f
  have hu := list_one cs _ e
  rw [Nat.mul_one] at hu
  refine ⟨UInt8.ofNat z.toNat, ?_⟩
  rw [hu]
  unfold Dir.byteV
  rw [UInt8.toNat_ofNat_of_lt' (by show z.toNat < 256; omega), Int.toNat_of_nonneg hz.1]
 obtain ⟨f, hf2⟩ := choose_lt (α := UInt8) (n := 32) hb
 refine ⟨⟨(List.range 32).map f, by simp⟩, ?_⟩
 refine List.ext_getElem? fun i => ?_
 show cs[i]? = (((List.range 32).map f).map Dir.byteV)[i]?
 by_cases hi : i < 32
 ·rw [hf2 i hi]
  simp [hi]
 ·rw [List.getElem?_eq_none (by omega), List.getElem?_eq_none (by simp; omega)]
theorem dev_of_trod {n : Nat} {cs : List Value} {x : DataW H × List MemPlace} (h : DataW.trod enc Tryz.prog W base sp held n 85 cs = some x) : ∃ d : Dir.Dev, cs = Dir.encD d := by
 obtain ⟨xs, m, _, _, hl, hxl, hf⟩ := DataW.trod_struct Tryz.underlying85 h
 rw [cells46] at hl
 have hs : ∀ i, i < 4 → xs[i]? = some (xs.getD i (.nil, [])) := fun i hi => by
  rw [List.getElem?_eq_getElem (by rw [hxl]; exact hi), List.getD_eq_getElem?_getD, List.getElem?_eq_getElem (by rw [hxl]; exact hi)]; rfl
 have g0 : DataW.trod enc Tryz.prog W base sp held m 3 ((cs.drop 0).take (Tryz.prog.cellsOf 3)) = some (xs.getD 0 (.nil, [])) := (hf 0 _ rfl).trans (hs 0 (by omega))
 have g1 : DataW.trod enc Tryz.prog W base sp held m 28 ((cs.drop 1).take (Tryz.prog.cellsOf 28)) = some (xs.getD 1 (.nil, [])) := (hf 1 _ rfl).trans (hs 1 (by omega))
 have g2 : DataW.trod enc Tryz.prog W base sp held m 3 ((cs.drop 33).take (Tryz.prog.cellsOf 3)) = some (xs.getD 2 (.nil, [])) := (hf 2 _ rfl).trans (hs 2 (by omega))
 have g3 : DataW.trod enc Tryz.prog W base sp held m 4 ((cs.drop 34).take (Tryz.prog.cellsOf 4)) = some (xs.getD 3 (.nil, [])) := (hf 3 _ rfl).trans (hs 3 (by omega))
 rw [cells3] at g0 g2
 rw [cells4] at g3
 rw [cells34] at g1
 obtain ⟨z0, e0, _, _⟩ := DataW.trod_int Tryz.underlying3 g0
 obtain ⟨k, e1⟩ := key_of_trod g1
 obtain ⟨z2, e2, _, _⟩ := DataW.trod_int Tryz.underlying3 g2
 obtain ⟨b3, e3, _⟩ := DataW.trod_bool Tryz.underlying4 g3
 refine ⟨⟨z0, k, z2, b3⟩, ?_⟩
 have hc : cs = (cs.drop 0).take 1 ++ (cs.drop 1).take 32 ++ (cs.drop 33).take 1 ++ (cs.drop 34).take 1 := by
  refine List.ext_getElem? fun i => ?_
  simp only [List.drop_zero]
  rw [List.append_assoc, List.append_assoc]
  have hdrop : (cs.drop 34).take 1 = cs.drop 34 := List.take_of_length_le (by rw [List.length_drop]; omega)
  rw [hdrop, ← List.drop_drop (i := 1) (j := 33), List.take_append_drop, ← List.drop_drop (i := 32) (j := 1), List.take_append_drop, List.take_append_drop]
 rw [hc, e0, e1, e2, e3]
 show _ = Value.int .i64 z0 :: (Dir.encK k ++ [Value.int .i64 z2, Value.bool b3])
 simp
def RowOf {α : Type} (f : α → List Value) (Pr : α → Prop) (ts k by_ : Nat) (W : World) (cs : List Value) (x : DataW H × List MemPlace) : Prop :=
 ∃ (a : Option Addr) (len cap : Nat) (l : List α), cs = [.slice a len cap] ∧ l.length = len ∧ Dir.SrcAt W a len k (l.flatMap f) ∧ (∀ d ∈ l, Pr d) ∧ len ≤ maxLen ∧ ((∀ n ∈ x.1.weights Tryz.prog ts, n ≤ reachBytes) → len * by_ ≤ 140737488351232)
theorem rows_of_trod {α : Type} [Inhabited α] (f : α → List Value) (Pr : α → Prop) {ts te k by_ : Nat} (hk : ∀ x, (f x).length = k) (ht : Tryz.prog.underlying ts = some (.slice te)) (hc : Tryz.prog.cellsOf te = k) (hby : Tryz.prog.bytesOf te = by_)
  (hel : ∀ {n : Nat} {cs : List Value} {x : DataW H × List MemPlace}, DataW.trod enc Tryz.prog W base sp held n te cs = some x → ∃ d : α, cs = f d ∧ Pr d)
  {n : Nat} {cs : List Value} {x : DataW H × List MemPlace} (h : DataW.trod enc Tryz.prog W base sp held n ts cs = some x) :
  RowOf f Pr ts k by_ W cs x := by
 rcases DataW.trod_slice ht h with ⟨hcs, _⟩ | ⟨ad, len, cap, elems, rest, m, _, hcs, hxe, _, hlc, hcm, hle, hx, _, _⟩
 ·exact ⟨none, 0, 0, [], hcs, rfl, ⟨by simp, fun _ => rfl, fun a ha => (by cases ha)⟩, by simp, Nat.zero_le _, fun _ => by simp⟩
 ·obtain ⟨S, hS⟩ := choose_lt (α := α) (n := len) (p := fun i d => (∀ j u, (f d)[j]? = some u → W.cell? (ad.add (i * k + j)) = some u) ∧ Pr d) (fun i hi => by
   have hxi := hx i hi
   rw [List.getElem?_eq_getElem (by rw [hle]; exact hi), hc] at hxi
   obtain ⟨cs', h1, h2⟩ := Option.bind_eq_some_iff.1 hxi
   obtain ⟨d, rfl, hp⟩ := hel h2
   obtain ⟨_, _, hcell⟩ := World.cells?_some h1
   refine ⟨d, fun j u hj => ?_, hp⟩
   have hj5 : j < k := by rw [← hk d]; exact (List.getElem?_eq_some_iff.1 hj).1
   have := hcell j hj5
   rw [Deep.add_add] at this
   exact this.trans hj)
  have hlen : ((List.range len).map S).length = len := by simp
  have hflat : ∀ l : List α, (l.flatMap f).length = l.length * k := fun l => by
   induction l with
   | nil => simp
   | cons a l ih => rw [List.flatMap_cons, List.length_append, hk, ih, List.length_cons, Nat.add_mul]; omega
  refine ⟨some ad, len, cap, (List.range len).map S, hcs, hlen, ⟨by rw [hflat, hlen], fun e => (by cases e), fun a ha j u hj => ?_⟩, fun d hd => ?_, by omega, fun hw => ?_⟩
  ·cases ha
   have hjl : j < len * k := by have := (List.getElem?_eq_some_iff.1 hj).1; rwa [hflat, hlen] at this
   have hkp : 0 < k := by rcases Nat.eq_zero_or_pos k with e | e; (subst e; omega); exact e
   have hq : j / k < len := Nat.div_lt_of_lt_mul (by rw [Nat.mul_comm]; exact hjl)
   have hr : j % k < k := Nat.mod_lt _ hkp
   have e1 := (hS (j / k) hq).1 (j % k) ((f (S (j / k)))[j % k]'(by rw [hk]; exact hr)) (List.getElem?_eq_getElem _)
   have e2 : ((List.range len).map S)[j / k]? = some (S (j / k)) := by simp [hq]
   have e3 := Dir.flatMap_at f k hk _ (j / k) (S (j / k)) e2 (j % k) _ (List.getElem?_eq_getElem (by rw [hk]; exact hr))
   rw [Nat.div_add_mod' j k] at e1 e3
   rw [e1]
   rw [e3] at hj
   exact hj
  ·obtain ⟨i, hi, rfl⟩ := List.mem_map.1 hd
   exact (hS i (by simpa using hi)).2
  ·have h1 := hw ((elems.length + rest.length) * by_) (by rw [hxe]; simp [DataW.weights, ht, hby])
   have h2 : len * by_ ≤ (elems.length + rest.length) * by_ := Nat.mul_le_mul_right _ (by omega)
   exact Nat.le_trans h2 h1
theorem devs_of_trod {n : Nat} {cs : List Value} {x : DataW H × List MemPlace} (h : DataW.trod enc Tryz.prog W base sp held n 22 cs = some x) : RowOf Dir.encD (fun _ => True) 22 35 56 W cs x :=
 rows_of_trod (α := Dir.Dev) Dir.encD (fun _ => True) (by_ := 56) Dir.encD_len Tryz.underlying22 cells46 bytes46 (fun h => by obtain ⟨d, hd⟩ := dev_of_trod h; exact ⟨d, hd, trivial⟩) h
theorem keys_of_trod {n : Nat} {cs : List Value} {x : DataW H × List MemPlace} (h : DataW.trod enc Tryz.prog W base sp held n 23 cs = some x) : RowOf Dir.encK (fun _ => True) 23 32 32 W cs x :=
 rows_of_trod (α := Dir.Key) Dir.encK (fun _ => True) (by_ := 32) Dir.encK_len Tryz.underlying23 cells34 bytes34 (fun h => by obtain ⟨d, hd⟩ := key_of_trod h; exact ⟨d, hd, trivial⟩) h
theorem book_of_trod {n : Nat} {cs : List Value} {x : DataW H × List MemPlace} (h : DataW.trod enc Tryz.prog W base sp held n 25 cs = some x) (hw : ∀ n ∈ x.1.weights Tryz.prog 25, n ≤ reachBytes) :
  ∃ (B : Dir.Book) (A1 : Option Addr) (c1 : Nat) (A2 : Option Addr) (c2 : Nat), cs = Dir.bookCells B A1 c1 A2 c2 ∧ Dir.SrcB W B A1 A2 ∧ B.devs.length * 56 ≤ 140737488351232 ∧ B.spent.length * 32 ≤ 140737488351232 := by
 obtain ⟨xs, m, _, hxe, hl, hxl, hf⟩ := DataW.trod_struct Tryz.underlying25 h
 rw [cells43] at hl
 have hs : ∀ i, i < 5 → xs[i]? = some (xs.getD i (.nil, [])) := fun i hi => by
  rw [List.getElem?_eq_getElem (by rw [hxl]; exact hi), List.getD_eq_getElem?_getD, List.getElem?_eq_getElem (by rw [hxl]; exact hi)]; rfl
 have g0 : DataW.trod enc Tryz.prog W base sp held m 3 ((cs.drop 0).take (Tryz.prog.cellsOf 3)) = some (xs.getD 0 (.nil, [])) := (hf 0 _ rfl).trans (hs 0 (by omega))
 have g1 : DataW.trod enc Tryz.prog W base sp held m 3 ((cs.drop 1).take (Tryz.prog.cellsOf 3)) = some (xs.getD 1 (.nil, [])) := (hf 1 _ rfl).trans (hs 1 (by omega))
 have g2 : DataW.trod enc Tryz.prog W base sp held m 22 ((cs.drop 2).take (Tryz.prog.cellsOf 22)) = some (xs.getD 2 (.nil, [])) := (hf 2 _ rfl).trans (hs 2 (by omega))
 have g3 : DataW.trod enc Tryz.prog W base sp held m 23 ((cs.drop 3).take (Tryz.prog.cellsOf 23)) = some (xs.getD 3 (.nil, [])) := (hf 3 _ rfl).trans (hs 3 (by omega))
 have g4 : DataW.trod enc Tryz.prog W base sp held m 9 ((cs.drop 4).take (Tryz.prog.cellsOf 9)) = some (xs.getD 4 (.nil, [])) := (hf 4 _ rfl).trans (hs 4 (by omega))
 rw [cells3] at g0 g1
 rw [cells40] at g2
 rw [cells41] at g3
 rw [cells9] at g4
 obtain ⟨z0, e0, _, _⟩ := DataW.trod_int Tryz.underlying3 g0
 obtain ⟨z1, e1, _, _⟩ := DataW.trod_int Tryz.underlying3 g1
 obtain ⟨A1, n1, c1, l1, e2, hn1, hs1, _, hm1, hz1⟩ := devs_of_trod g2
 obtain ⟨A2, n2, c2, l2, e3, hn2, hs2, _, hm2, hz2⟩ := keys_of_trod g3
 obtain ⟨s4, e4, _, _⟩ := DataW.trod_string Tryz.underlying9 g4
 subst hn1
 subst hn2
 have hwe : ∀ i T, (([3, 3, 22, 23, 9] : List TypeId)[i]? = some T) → i < 5 → ∀ n ∈ (xs.getD i (.nil, [])).1.weights Tryz.prog T, n ≤ reachBytes := fun i T hT hi n hn => by
  refine hw n ?_
  have hmem := DataW.weights_mem_each (P := Tryz.prog) (ts := [3, 3, 22, 23, 9]) (ds := xs.map (·.1)) (j := i) hT (by rw [List.getElem?_map, hs i hi]; rfl) n hn
  rw [hxe]
  simp only [DataW.weights, Tryz.underlying25]
  exact hmem
 have f1 := hz1 (hwe 2 22 rfl (by omega))
 have f2 := hz2 (hwe 3 23 rfl (by omega))
 refine ⟨⟨z0, z1, l1, l2, s4.data.toList⟩, A1, c1, A2, c2, ?_, ⟨hs1, hs2, by show l1.length ≤ _; omega, by show l2.length ≤ _; omega⟩, f1, f2⟩
 match cs, hl with
 | [a, b, c, d, e], _ =>
  simp at e0 e1 e2 e3 e4
  subst e0 e1 e2 e3 e4
  rfl
end
end Go.Proofs.YtmgbaefgcdglpaaGreatDoor.PA
end
section
namespace Go.Proofs.YtmgbaefgcdglpaaGreatDoor.PA
open Go.ChangeShapes Go.WideShapes Go.ChangeAt Go.RowKit Go.Deep
open Go.Proofs.YtmgbaefgcdglpaaGreatDoorW.PrintWords Go.Proofs.YtmgbaefgcdglpaaGreatDoorW.PrintLast Go.Proofs.YtmgbaefgcdglpaaGreatDoorW.PrintMore
set_option linter.unusedVariables false
set_option maxRecDepth 100000
section
variable {H : Type} {enc : TypeId × Value → H} {W : World} {base : Nat} {sp : Nat → Bool} {held : Bool}
end
end Go.Proofs.YtmgbaefgcdglpaaGreatDoor.PA
end
section
namespace Go.Proofs.YtmgbaefgcdglpaaGreatDoor.PA
open Go.ChangeShapes Go.WideShapes Go.ChangeAt Go.RowKit Go.Deep
open Go.Proofs.YtmgbaefgcdglpaaGreatDoorW.PrintWords Go.Proofs.YtmgbaefgcdglpaaGreatDoorW.PrintLast Go.Proofs.YtmgbaefgcdglpaaGreatDoorW.PrintMore
set_option linter.unusedVariables false
set_option maxRecDepth 100000
theorem laidOut : laidOutB Tryz.prog = true := by kernel_rfl
instance : Inhabited Net.Peer := ⟨⟨0, Dir.key0, 0, [], []⟩⟩
instance : Inhabited S80 := ⟨⟨0, 0⟩⟩
section
variable {H : Type} {enc : TypeId × Value → H} {W : World} {base : Nat} {sp : Nat → Bool} {held : Bool}
end
end Go.Proofs.YtmgbaefgcdglpaaGreatDoor.PA
end
