/- Self: from a netmap to itself Diff tells nothing. What the rows' arguments read as: rows of asks; the listed variables; the wrap. What arguments read as: books, and rows of ops. What arguments read as: netmaps and deltas. Arrives: what Diff tells of two, applied to the first one, is the second one. -/
import Derived.Test.YtmgbaefgcdglpaaGreatDoorNc30
import Derived.Test.YtmgbaefgcdglpaaGreatDoorNc29
import Derived.Test.YtmgbaefgcdglpaaGreatDoorTie
import Derived.Test.YtmgbaefgcdglpaaGreatDoorNc13
import Derived.Test.YtmgbaefgcdglpaaGreatDoorNc15
import Derived.ProofKit
import Derived.OpenShut
import Derived.LaidMore
import Derived.Lay
import Derived.SevenTiedAt
import Derived.Stop.Joined
import Derived.WalkKit
import Derived.ChangeOld
import Derived.SizedLaws
import Derived.Deep.SlicePairs
import Derived.WideKeyArr2
import Derived.HandedShaped
import Derived.Test.YtmgbaefgcdglpaaGreatDoorNc26
section
namespace Go.Proofs.YtmgbaefgcdglpaaGreatDoor.Net
open Go Go.RowKit Go.Proofs Go.Proofs.YtmgbaefgcdglpaaGreatDoorW.PrintWords Go.Proofs.YtmgbaefgcdglpaaGreatDoorW.PrintLast Go.Proofs.YtmgbaefgcdglpaaGreatDoorW.PrintMore Go.Proofs.YtmgbaefgcdglpaaGreatDoor.Dir
set_option linter.unusedVariables false
set_option linter.unusedSimpArgs false
set_option maxHeartbeats 4000000 in
set_option maxRecDepth 100000 in
theorem self_law (B : Book) (A1 : Option Addr) (c1 : Nat) (A2 : Option Addr) (c2 : Nat) (x : Int) (w : World) (h : SrcB w B A1 A2) (hx : PA.LaidW w) :
  Calls Tryz.prog 9 #[.agg (bookCells B A1 c1 A2 c2).toArray, .int .i64 x] w fun e w' => e = .returned (.bool true) ∧ Below w.heap.size w w' := by
 obtain ⟨bb, hbb0⟩ : ∃ bb, bb = w.heap.size := ⟨_, rfl⟩
 obtain ⟨wa, hwa⟩ : ∃ wa, wa = w.alloc (.cells (bookCells B A1 c1 A2 c2).toArray 25) := ⟨_, rfl⟩
 have hba : Below w.heap.size w wa := by rw [hwa]; exact (Below.refl _ w).alloc (Nat.le_refl _) _
 have BW := Aside0.mk hba
 have SRC := Aside0.mk (h.later hba)
 have HX := Aside0.mk (hx.below hba)
 have QB := Aside0.mk (show wa.heap[bb]? = some (.cells (bookCells B A1 c1 A2 c2).toArray 25 (0, 0)) by rw [hwa, hbb0]; exact heap_alloc_new w _)
 obtain ⟨X, hX⟩ : ∃ X, X = (bookCells B A1 c1 A2 c2).toArray := ⟨_, rfl⟩
 have HXX := Aside0.mk hX
 rw [← hX] at hwa ⊢
 clear hX hba h hx
 go_enter Tryz.func9, Tryz.ntmps9
 go_upto_region 1 with fail
 change Code.wp _ _ _ _ (w.alloc (.cells X 25))
 rw [← hwa, ← hbb0]
 clear hwa hbb0
 go_wp2_with fail
 refine (works20 wa HX.out).mono ?_
 rintro e wb ⟨rfl, hb⟩
 have BW := Aside0.mk (below_step BW.out hb)
 have SRC := Aside0.mk (SRC.out.later hb)
 have HX := Aside0.mk (HX.out.below hb)
 have QB := Aside0.mk (roomN QB.out hb)
 clear hb
 have lb := Aside0.mk (run_loadAtK Tryz.prog wb 25 5 Tryz.isAgg25 Tryz.sizeOf25 bb 0 (bookCells B A1 c1 A2 c2) rfl (cells_of_heap QB.out))
 have OC := Aside0.mk (of_any B x A1 c1 A2 c2 wb SRC.out HX.out)
 rw [← HXX.out] at lb OC
 go_wp2_with ((with_reducible refine at_load 25 (.tmp 2) ?_); refine wpList_loadK rfl 25 (.tmp 2) rfl _ rfl _ lb.out ?_)
 refine OC.out.mono ?_
 rintro e wc ⟨m1, PA1, pc1, co1, rfl, hps, hb, hres, -⟩
 have PS1 := Aside0.mk hps
 have RS1 := Aside0.mk hres
 clear hps hres lb OC
 have BW := Aside0.mk (below_step BW.out hb)
 have SRC := Aside0.mk (SRC.out.later hb)
 have HX := Aside0.mk (HX.out.below hb)
 have QB := Aside0.mk (roomN QB.out hb)
 clear hb
 obtain ⟨n1, hn1⟩ : ∃ n1, n1 = wc.heap.size := ⟨_, rfl⟩
 obtain ⟨wd, hwd⟩ : ∃ wd, wd = wc.alloc (.cells (mapCells m1 PA1 pc1).toArray 31) := ⟨_, rfl⟩
 have hbb : Below wc.heap.size wc wd := by rw [hwd]; exact (Below.refl _ wc).alloc (Nat.le_refl _) _
 have Qn1 := Aside0.mk (show wd.heap[n1]? = some (.cells (mapCells m1 PA1 pc1).toArray 31 (0, 0)) by rw [hwd, hn1]; exact heap_alloc_new wc _)
 have st := Aside0.mk (fun (C : Array Value) (hc : C.size = 37) => run_storeNew Tryz.prog wc 31 37 (by kernel_rfl) C (mapCells m1 PA1 pc1).toArray hc (by simpa using mapCells_len _ _ _) (map_one _ _ _))
 obtain ⟨Mn1, hMn1⟩ : ∃ Mn1, Mn1 = (mapCells m1 PA1 pc1).toArray := ⟨_, rfl⟩
 have HMn1 := Aside0.mk hMn1
 rw [← hMn1] at hwd st ⊢
 have BW := Aside0.mk (below_step BW.out hbb)
 have SRC := Aside0.mk (SRC.out.later hbb)
 have HX := Aside0.mk (HX.out.below hbb)
 have QB := Aside0.mk (roomN QB.out hbb)
 have PS1 := Aside0.mk (PsAt.below PS1.out hbb)
 clear hMn1 hbb
 go_upto_region 4 with ((with_reducible refine at_store 31 (.tmp 5) (.tmp 17) ?_); refine wpList_storeK rfl 31 (.tmp 5) (.tmp 17) rfl rfl _ _ rfl rfl _ (st.out _ rfl) ?_)
 rw [← hwd, ← hn1]
 clear hwd hn1 st
 by_cases hc1 : co1 = 0
 case neg =>
  have hc1b : (co1 != 0) = true := by simpa using hc1
  rcases RS1.out with ⟨-, -, -, h⟩ | ⟨hno, -, rfl⟩ | ⟨-, hn, -, rfl⟩
  ·exact absurd h hc1
  ·have NO := Aside0.mk hno
   have lb := Aside0.mk (run_loadAtK Tryz.prog wd 25 5 Tryz.isAgg25 Tryz.sizeOf25 bb 0 (bookCells B A1 c1 A2 c2) rfl (cells_of_heap QB.out))
   have CB := Aside0.mk (check_src B A1 c1 A2 c2 wd SRC.out.devs SRC.out.spent SRC.out.few SRC.out.len HX.out)
   rw [← HXX.out] at lb CB
   clear hno hc1
   go_wp2_with ((with_reducible refine at_load 25 (.tmp 2) ?_); refine wpList_loadW (by rfl) 25 (.tmp 2) rfl _ rfl _ lb.out ?_)
   refine CB.out.mono ?_
   rintro e we ⟨he, hb⟩
   rcases he with ⟨-, hok⟩ | ⟨rfl, -⟩
   ·exact absurd hok NO.out
   have BE := Aside0.mk (below_step BW.out hb)
   clear hb
   go_wp2_with fail
   go_ret
   exact ⟨rfl, BE.out⟩
  ·have hn2 : ¬ (1 ≤ x ∧ x ≤ 8) := of_decide_eq_false hn
   by_cases hx1 : x < 1
   ·have hx1d : decide (x < 1) = true := decide_eq_true hx1
    clear hc1 hn hn2
    go_wp2_with fail
    go_ret
    exact ⟨rfl, BW.out⟩
   ·have hx1d : decide (x < 1) = false := decide_eq_false hx1
    have hx8 : 8 < x := by omega
    have hx8d : decide (8 < x) = true := decide_eq_true hx8
    clear hc1 hn hn2
    go_wp2_with fail
    go_ret
    exact ⟨rfl, BW.out⟩
 have hc1b : (co1 != 0) = false := by simpa using hc1
 have OKM := Aside0.mk (show okM m1 = true by rw [(RS1.out.ok hc1).2.2]; exact okM_ofB (RS1.out.ok hc1).1 (RS1.out.ok hc1).2.1)
 clear hc1
 have lx := Aside0.mk (run_loadAtK Tryz.prog wd 31 37 Tryz.isAgg31 Tryz.sizeOf31 n1 0 (mapCells m1 PA1 pc1) (mapCells_len _ _ _) (cells_of_heap Qn1.out))
 have ly := Aside0.mk (run_loadAtK Tryz.prog wd 31 37 Tryz.isAgg31 Tryz.sizeOf31 n1 0 (mapCells m1 PA1 pc1) (mapCells_len _ _ _) (cells_of_heap Qn1.out))
 have DC := Aside0.mk (diff_any m1 m1 PA1 pc1 PA1 pc1 wd PS1.out PS1.out)
 rw [← HMn1.out] at lx DC
 rw [← HMn1.out] at ly
 go_wp2_with ((with_reducible refine at_load 31 (.tmp 5) ?_); refine wpList_loadK rfl 31 (.tmp 5) rfl _ rfl _ lx.out ?_)
 refine DC.out.mono ?_
 rintro e we ⟨D2, G2, g2, S2, s2, co2, rfl, hda, hb, hdf, -, -⟩
 have DA2 := Aside0.mk hda
 have DF2 := Aside0.mk hdf
 clear hda hdf lx ly DC
 have BW := Aside0.mk (below_step BW.out hb)
 have SRC := Aside0.mk (SRC.out.later hb)
 have HX := Aside0.mk (HX.out.below hb)
 have QB := Aside0.mk (roomN QB.out hb)
 have PS1 := Aside0.mk (PsAt.below PS1.out hb)
 have Qn1 := Aside0.mk (roomN Qn1.out hb)
 clear hb
 obtain ⟨dd2, hdd2⟩ : ∃ dd2, dd2 = we.heap.size := ⟨_, rfl⟩
 obtain ⟨wf, hwf⟩ : ∃ wf, wf = we.alloc (.cells (delCells D2 G2 g2 S2 s2).toArray 55) := ⟨_, rfl⟩
 have hbb : Below we.heap.size we wf := by rw [hwf]; exact (Below.refl _ we).alloc (Nat.le_refl _) _
 have Qdd2 := Aside0.mk (show wf.heap[dd2]? = some (.cells (delCells D2 G2 g2 S2 s2).toArray 55 (0, 0)) by rw [hwf, hdd2]; exact heap_alloc_new we _)
 have st := Aside0.mk (fun (C : Array Value) (hc : C.size = 39) => run_storeNew Tryz.prog we 55 39 (by kernel_rfl) C (delCells D2 G2 g2 S2 s2).toArray hc (by simpa using delCells_len _ _ _ _ _) (del_one _ _ _ _ _))
 obtain ⟨Mdd2, hMdd2⟩ : ∃ Mdd2, Mdd2 = (delCells D2 G2 g2 S2 s2).toArray := ⟨_, rfl⟩
 have HMdd2 := Aside0.mk hMdd2
 rw [← hMdd2] at hwf st ⊢
 have BW := Aside0.mk (below_step BW.out hbb)
 have SRC := Aside0.mk (SRC.out.later hbb)
 have HX := Aside0.mk (HX.out.below hbb)
 have QB := Aside0.mk (roomN QB.out hbb)
 have PS1 := Aside0.mk (PsAt.below PS1.out hbb)
 have Qn1 := Aside0.mk (roomN Qn1.out hbb)
 have DA2 := Aside0.mk (DAt.below DA2.out hbb)
 clear hMdd2 hbb
 go_upto_region 7 with ((with_reducible refine at_store 55 (.tmp 7) (.tmp 44) ?_); refine wpList_storeK rfl 55 (.tmp 7) (.tmp 44) rfl rfl _ _ rfl rfl _ (st.out _ rfl) ?_)
 rw [← hwf, ← hdd2]
 clear hwf hdd2 st
 have lx := Aside0.mk (run_loadAtK Tryz.prog wf 31 37 Tryz.isAgg31 Tryz.sizeOf31 n1 0 (mapCells m1 PA1 pc1) (mapCells_len _ _ _) (cells_of_heap Qn1.out))
 have ly := Aside0.mk (run_loadAtK Tryz.prog wf 55 39 Tryz.isAgg55 Tryz.sizeOf55 dd2 0 (delCells D2 G2 g2 S2 s2) (delCells_len _ _ _ _ _) (cells_of_heap Qdd2.out))
 have AC := Aside0.mk (apply_any m1 D2 PA1 pc1 G2 g2 S2 s2 wf PS1.out DA2.out)
 rw [← HMn1.out] at lx AC
 rw [← HMdd2.out] at ly AC
 go_wp2_with (first | ((with_reducible refine at_load 31 (.tmp 5) ?_); refine wpList_loadK rfl 31 (.tmp 5) rfl _ rfl _ lx.out ?_) | ((with_reducible refine at_load 55 (.tmp 7) ?_); refine wpList_loadK rfl 55 (.tmp 7) rfl _ rfl _ ly.out ?_))
 refine AC.out.mono ?_
 rintro e wg ⟨N3, B3, b3, ca3, rfl, hps, hb, hap, -⟩
 have PN3 := Aside0.mk hps
 have AP3 := Aside0.mk hap
 clear hps hap lx ly AC
 have BW := Aside0.mk (below_step BW.out hb)
 have SRC := Aside0.mk (SRC.out.later hb)
 have HX := Aside0.mk (HX.out.below hb)
 have QB := Aside0.mk (roomN QB.out hb)
 have PS1 := Aside0.mk (PsAt.below PS1.out hb)
 have Qn1 := Aside0.mk (roomN Qn1.out hb)
 have DA2 := Aside0.mk (DAt.below DA2.out hb)
 have Qdd2 := Aside0.mk (roomN Qdd2.out hb)
 clear hb
 obtain ⟨nn3, hnn3⟩ : ∃ nn3, nn3 = wg.heap.size := ⟨_, rfl⟩
 obtain ⟨wh, hwh⟩ : ∃ wh, wh = wg.alloc (.cells (mapCells N3 B3 b3).toArray 31) := ⟨_, rfl⟩
 have hbb : Below wg.heap.size wg wh := by rw [hwh]; exact (Below.refl _ wg).alloc (Nat.le_refl _) _
 have Qnn3 := Aside0.mk (show wh.heap[nn3]? = some (.cells (mapCells N3 B3 b3).toArray 31 (0, 0)) by rw [hwh, hnn3]; exact heap_alloc_new wg _)
 have st := Aside0.mk (fun (C : Array Value) (hc : C.size = 37) => run_storeNew Tryz.prog wg 31 37 (by kernel_rfl) C (mapCells N3 B3 b3).toArray hc (by simpa using mapCells_len _ _ _) (map_one _ _ _))
 obtain ⟨Mnn3, hMnn3⟩ : ∃ Mnn3, Mnn3 = (mapCells N3 B3 b3).toArray := ⟨_, rfl⟩
 have HMnn3 := Aside0.mk hMnn3
 rw [← hMnn3] at hwh st ⊢
 have BW := Aside0.mk (below_step BW.out hbb)
 have SRC := Aside0.mk (SRC.out.later hbb)
 have HX := Aside0.mk (HX.out.below hbb)
 have QB := Aside0.mk (roomN QB.out hbb)
 have PS1 := Aside0.mk (PsAt.below PS1.out hbb)
 have Qn1 := Aside0.mk (roomN Qn1.out hbb)
 have DA2 := Aside0.mk (DAt.below DA2.out hbb)
 have Qdd2 := Aside0.mk (roomN Qdd2.out hbb)
 have PN3 := Aside0.mk (PsAt.below PN3.out hbb)
 clear hMnn3 hbb
 go_upto_region 8 with ((with_reducible refine at_store 31 (.tmp 9) (.tmp 50) ?_); refine wpList_storeK rfl 31 (.tmp 9) (.tmp 50) rfl rfl _ _ rfl rfl _ (st.out _ rfl) ?_)
 rw [← hwh, ← hnn3]
 clear hwh hnn3 st
 have DS := Aside0.mk (diff_self OKM.out)
 have FIN := Aside0.mk (show co2 = 0 ∧ D2.gone = [] ∧ D2.set = [] ∧ ca3 = 0 ∧ m1 = N3 by
  have h1 := DF2.out.trans DS.out
  have h2 := arrives m1 m1
  rw [if_pos (by rw [DS.out]), ← DF2.out] at h2
  have h3 := AP3.out.trans h2
  have hd : D2 = _ := congrArg Prod.fst h1
  exact ⟨congrArg Prod.snd h1, by rw [hd], by rw [hd], congrArg Prod.snd h3, (congrArg Prod.fst h3).symm⟩)
 obtain ⟨f1, f2, f3, f4, f5⟩ := FIN.out
 subst f1 f4
 have l37 := Aside0.mk (fun (W : World) (hb : Below wh.heap.size wh W) => run_load1 (P := Tryz.prog) 53 Tryz.isAgg53 (show W.cell? ⟨dd2, 37, none⟩ = some (.slice G2 0 g2) by rw [cell_of_heap (roomN Qdd2.out hb), del37, f2]; rfl))
 have l38 := Aside0.mk (fun (W : World) (hb : Below wh.heap.size wh W) => run_load1 (P := Tryz.prog) 29 Tryz.isAgg29 (show W.cell? ⟨dd2, 38, none⟩ = some (.slice S2 0 s2) by rw [cell_of_heap (roomN Qdd2.out hb), del38, f3]; rfl))
 have lx := Aside0.mk (run_loadAtK Tryz.prog wh 31 37 Tryz.isAgg31 Tryz.sizeOf31 n1 0 (mapCells m1 PA1 pc1) (mapCells_len _ _ _) (cells_of_heap Qn1.out))
 have CK := Aside0.mk (check27 m1 PA1 pc1 wh PS1.out)
 rw [if_pos OKM.out, ← HMn1.out] at CK
 rw [← HMn1.out] at lx
 have HF5 := Aside0.mk f5
 clear f2 f3 f5
 go_wp2_with ((with_reducible refine at_load 31 (.tmp 5) ?_); refine wpList_loadK rfl 31 (.tmp 5) rfl _ rfl _ lx.out ?_)
 refine CK.out.mono ?_
 rintro e wi ⟨rfl, hb⟩
 have L37 := Aside0.mk (l37.out wi hb)
 have L38 := Aside0.mk (l38.out wi hb)
 have lx := Aside0.mk (run_loadAtK Tryz.prog wi 31 37 Tryz.isAgg31 Tryz.sizeOf31 n1 0 (mapCells m1 PA1 pc1) (mapCells_len _ _ _) (cells_of_heap (roomN Qn1.out hb)))
 have ly := Aside0.mk (run_loadAtK Tryz.prog wi 31 37 Tryz.isAgg31 Tryz.sizeOf31 nn3 0 (mapCells N3 B3 b3) (mapCells_len _ _ _) (cells_of_heap (roomN Qnn3.out hb)))
 have SM := Aside0.mk (same18 m1 N3 PA1 B3 pc1 b3 wi (PS1.out.below hb) (PN3.out.below hb))
 rw [decide_eq_true HF5.out, ← HMn1.out, ← HMnn3.out] at SM
 rw [← HMn1.out] at lx
 rw [← HMnn3.out] at ly
 have BI := Aside0.mk (below_step BW.out hb)
 clear hb
 go_wp2_with (first | ((with_reducible refine at_load 53 (.tmp 60) ?_); refine wpList_loadW (by rfl) 53 (.tmp 60) rfl _ rfl _ L37.out ?_) | ((with_reducible refine at_load 29 (.tmp 66) ?_); refine wpList_loadW (by rfl) 29 (.tmp 66) rfl _ rfl _ L38.out ?_) | ((with_reducible refine at_load 31 (.tmp 5) ?_); refine wpList_loadW (by rfl) 31 (.tmp 5) rfl _ rfl _ lx.out ?_) | ((with_reducible refine at_load 31 (.tmp 9) ?_); refine wpList_loadW (by rfl) 31 (.tmp 9) rfl _ rfl _ ly.out ?_))
 refine SM.out.mono ?_
 rintro e wj ⟨rfl, hb⟩
 have HE := Aside0.mk (below_step BI.out hb)
 clear hb
 go_wp2_with fail
 go_ret
 exact ⟨rfl, HE.out⟩
end Go.Proofs.YtmgbaefgcdglpaaGreatDoor.Net
end
section
namespace Go.Proofs.YtmgbaefgcdglpaaGreatDoor.PA
open Go.ChangeShapes Go.WideShapes Go.ChangeAt Go.RowKit Go.Deep
open Go.Proofs.YtmgbaefgcdglpaaGreatDoorW.PrintWords Go.Proofs.YtmgbaefgcdglpaaGreatDoorW.PrintLast Go.Proofs.YtmgbaefgcdglpaaGreatDoorW.PrintMore
set_option linter.unusedVariables false
set_option maxRecDepth 100000
instance : Inhabited Dir.AskV := ⟨⟨0, 0, 0, 0⟩⟩
theorem own : ownKnob Tryz.prog.godebug = none := by kernel_rfl
theorem cells3 : Tryz.prog.cellsOf 3 = 1 := by kernel_rfl
theorem cells4 : Tryz.prog.cellsOf 4 = 1 := by kernel_rfl
section
variable {H : Type} {enc : TypeId × Value → H} {W : World} {base : Nat} {sp : Nat → Bool} {held : Bool}
end
theorem iface_of_trod {W : World} {base fuel : Nat} {sp : Nat → Bool} {t : TypeId} {ms : Array (String × TypeId)} {cs : List Value} {nm : String} {d : DataW Unit} {p : List MemPlace} (ht : Tryz.prog.underlying t = some (.interface ms))
  (h : DataW.trod (fun _ => ()) Tryz.prog W base sp false fuel t cs = some (.iface nm d, p)) : ∃ tp v, cs = [.iface tp v] := by
 cases fuel with
 | zero => simp [DataW.trod] at h
 | succ n =>
  unfold DataW.trod at h
  rw [ht] at h
  split at h <;> simp_all
theorem laidW_of {W : World} (hs : W.ShapedOpen Tryz.prog) (h : laidMetH Tryz.prog Rows.netmapOfRow.laid W) : LaidW W := by
 rw [MakeChecks.laidMetH_plain _ _ _ (by kernel_rfl)] at h
 obtain ⟨ps, ⟨_, _, _, _, _, _, _, _, _, _, ⟨_, _, _, _, _, _, _, _, _, _, ⟨g3, t3, cs3, fu3, p3, q3, hg3, ht3, hv3, hd3, ⟨_, _, _, _, _, _, _, _, _, _, ⟨g5, t5, cs5, fu5, p5, q5, hg5, ht5, hv5, hd5, ⟨g6, t6, cs6, fu6, p6, q6, hg6, ht6, hv6, hd6, _⟩, _⟩, _⟩, _⟩, _⟩, _⟩, _, _⟩ := h
 have ty : ∀ (nm : String) (T g t : Nat), ((Tryz.prog.globalNamed nm).bind fun g => (Tryz.prog.globals[g]?).map (·.type)) = some T → Tryz.prog.globalNamed nm = some g → (Tryz.prog.globals[g]?).map (·.type) = some t → t = T := by
  intro nm T g t h1 h2 h3
  rw [h2, Option.bind_some, h3] at h1
  exact Option.some.inj h1
 obtain rfl := ty _ 274 _ _ (by kernel_rfl) hg3 ht3
 obtain rfl := ty _ 228 _ _ (by kernel_rfl) hg5 ht5
 obtain rfl := ty _ 228 _ _ (by kernel_rfl) hg6 ht6
 refine ⟨hs, ?_, ?_, ?_⟩
 ·have e : Rows.laid_internal_strconv_uint64pow10 = Lib.tabData (H := Unit) .u64 Lib.pow10Tab := by kernel_rfl
  rw [e] at hd3
  have := Lib.cells_of_tab Tryz.underlying274 (e := 216) (by kernel_rfl) (by kernel_rfl) (by kernel_rfl) hd3
  rw [hv3, ← this]
 ·obtain ⟨tp, v, e⟩ := iface_of_trod Tryz.underlying228 hd6
  refine ⟨tp, v, ?_⟩
  rw [hv6]
  congr 1
  rw [← e]
 ·obtain ⟨tp, v, e⟩ := iface_of_trod Tryz.underlying228 hd5
  refine ⟨tp, v, ?_⟩
  rw [hv5]
  congr 1
  rw [← e]
theorem returnsInHanded_both {H : Type} {enc : TypeId × Value → H} {a : Assume} {C : Checked} {os : Os} {f : FuncId} {fn : Func} {s : ChangeSpec} {conds : List PathCond} {apart fresh handsOn again : Bool} {X : World → Array Value → Prop}
  (hX : ∀ (w w' : World) (args : Array Value), w.heap = w'.heap → X w args → X w' args)
  (own : ownKnob C.prog.godebug = none) (started : os.Started) (noInit : C.prog.inits.idxOf? f = none) (hfn : C.prog.funcs[f]? = some fn)
  (witness : ∃ (w : World) (tape : Tape) (i : Input), w.os = os ∧ (w.forCall tape i).Shaped C.prog ∧ i.vars = [] ∧ Input.okWide C.prog (w.forCall tape i) .any w.heap.size f i ∧
   ((s.pre enc C.prog fn conds apart (w.forCall tape i).memory i.args ∧ X (w.forCall tape i).memory i.args) ∧ sizedMet enc C.prog fn (OpenSpec.ofChange s) apart (w.forCall tape i).memory i.args) ∧ a.holds C.prog (lone (Frame.enter C.prog f i.args .normal) [] (w.forCall tape i)))
  (contract : ∀ (W : World) (base : Nat) (args : Array Value) (ds gs : List (DataW H)) (before : List MemPlace),
   (∀ (j : Nat) t v, fn.params[j]? = some t → args[j]? = some v → Value.okWide C.prog W .any base t v) →
   DataW.Whole enc C.prog fn.params.toList s.vars apart W args.toList ds gs before →
   (DataW.weightsEach C.prog (fn.params.toList ++ s.plain.varTypes C.prog) (ds ++ gs)).all (· ≤ reachBytes) = true → X W args →
   W.ShapedOpen C.prog →
   Calls C.prog f args W fun e W' => ∃ v, e = .returned v ∧ s.post enc C.prog fn apart fresh handsOn again W args v W') :
  ReturnsInHanded a C os f .any (fun w args => (s.pre enc C.prog fn conds apart w args ∧ X w args) ∧ sizedMet enc C.prog fn (OpenSpec.ofChange s) apart w args) (s.post enc C.prog fn apart fresh handsOn again) := by
 refine returnsInHanded_of_calls own started noInit witness ?_
 intro w tape i _ hsh _ hok hpre hholds
 obtain ⟨_, _, _, fn', hfn', _, _, _, _, hval⟩ := hok
 have e : fn' = fn := Option.some.inj (hfn'.symm.trans hfn)
 subst e
 obtain ⟨⟨⟨ds, gs, before, hw, hc⟩, hx⟩, hz⟩ := hpre
 have hw' := DataW.Whole.of_heap (w' := w.forCall tape i) (by rfl) hw
 refine (contract (w.forCall tape i) w.heap.size i.args ds gs before hval hw' (hz.weights hw) (hX _ _ _ (by rfl) hx) hsh).mono fun e W' ⟨v, he, hp⟩ => ?_
 subst he
 exact ChangeSpec.post_blind hp
end Go.Proofs.YtmgbaefgcdglpaaGreatDoor.PA
end
section
namespace Go.Proofs.YtmgbaefgcdglpaaGreatDoor.PA
open Go.ChangeShapes Go.WideShapes Go.ChangeAt Go.RowKit Go.Deep
open Go.Proofs.YtmgbaefgcdglpaaGreatDoorW.PrintWords Go.Proofs.YtmgbaefgcdglpaaGreatDoorW.PrintLast Go.Proofs.YtmgbaefgcdglpaaGreatDoorW.PrintMore
set_option linter.unusedVariables false
set_option maxRecDepth 100000
theorem cells34 : Tryz.prog.cellsOf 28 = 32 := by kernel_rfl
theorem cells5 : Tryz.prog.cellsOf 5 = 1 := by kernel_rfl
theorem cells46 : Tryz.prog.cellsOf 85 = 35 := by kernel_rfl
theorem cells43 : Tryz.prog.cellsOf 25 = 5 := by kernel_rfl
theorem cells9 : Tryz.prog.cellsOf 9 = 1 := by kernel_rfl
theorem cells40 : Tryz.prog.cellsOf 22 = 1 := by kernel_rfl
theorem cells41 : Tryz.prog.cellsOf 23 = 1 := by kernel_rfl
theorem bytes46 : Tryz.prog.bytesOf 85 = 56 := by kernel_rfl
theorem bytes34 : Tryz.prog.bytesOf 28 = 32 := by kernel_rfl
instance : Inhabited Dir.Key := ⟨Dir.key0⟩
section
variable {H : Type} {enc : TypeId × Value → H} {W : World} {base : Nat} {sp : Nat → Bool} {held : Bool}
theorem list_one (cs : List Value) (i : Nat) {u : Value} (h : (cs.drop i).take 1 = [u]) : cs[i]? = some u := by
 have := congrArg (fun l => l[0]?) h
 simpa using this
theorem key_of_trod {n : Nat} {cs : List Value} {x : DataW H × List MemPlace} (h : DataW.trod enc Tryz.prog W base sp held n 28 cs = some x) : ∃ k : Dir.Key, cs = Dir.encK k := by
 obtain ⟨xs, m, _, _, hl, hxl, hf⟩ := DataW.trod_array Tryz.underlying28 h
 rw [cells34] at hl
 have hb : ∀ i, i < 32 → ∃ b : UInt8, cs[i]? = some (Dir.byteV b) := fun i hi => by
  have g := hf i hi
  rw [cells5, List.getElem?_eq_getElem (by rw [hxl]; exact hi)] at g
  obtain ⟨z, e, _, f⟩ := DataW.trod_int Tryz.underlying5 g
  have hz := bounds_u8 f
  have hu := list_one cs _ e
  rw [Nat.mul_one] at hu
  refine ⟨UInt8.ofNat z.toNat, ?_⟩
  rw [hu]
  unfold Dir.byteV
  rw [UInt8.toNat_ofNat_of_lt' (by show z.toNat < 256; omega), Int.toNat_of_nonneg hz.1]
 obtain ⟨f, hf2⟩ := choose_lt (α := UInt8) (n := 32) hb
 refine ⟨⟨(List.range 32).map f, by simp⟩, ?_⟩
 refine List.ext_getElem? fun i => ?_
 show cs[i]? = (((List.range 32).map f).map Dir.byteV)[i]?
 by_cases hi : i < 32
 ·rw [hf2 i hi]
  simp [hi]
 ·rw [List.getElem?_eq_none (by omega), List.getElem?_eq_none (by simp; omega)]
theorem dev_of_trod {n : Nat} {cs : List Value} {x : DataW H × List MemPlace} (h : DataW.trod enc Tryz.prog W base sp held n 85 cs = some x) : ∃ d : Dir.Dev, cs = Dir.encD d := by
 obtain ⟨xs, m, _, _, hl, hxl, hf⟩ := DataW.trod_struct Tryz.underlying85 h
 rw [cells46] at hl
 have hs : ∀ i, i < 4 → xs[i]? = some (xs.getD i (.nil, [])) := fun i hi => by
  rw [List.getElem?_eq_getElem (by rw [hxl]; exact hi), List.getD_eq_getElem?_getD, List.getElem?_eq_getElem (by rw [hxl]; exact hi)]; rfl
 have g0 : DataW.trod enc Tryz.prog W base sp held m 3 ((cs.drop 0).take (Tryz.prog.cellsOf 3)) = some (xs.getD 0 (.nil, [])) := (hf 0 _ rfl).trans (hs 0 (by omega))
 have g1 : DataW.trod enc Tryz.prog W base sp held m 28 ((cs.drop 1).take (Tryz.prog.cellsOf 28)) = some (xs.getD 1 (.nil, [])) := (hf 1 _ rfl).trans (hs 1 (by omega))
 have g2 : DataW.trod enc Tryz.prog W base sp held m 3 ((cs.drop 33).take (Tryz.prog.cellsOf 3)) = some (xs.getD 2 (.nil, [])) := (hf 2 _ rfl).trans (hs 2 (by omega))
 have g3 : DataW.trod enc Tryz.prog W base sp held m 4 ((cs.drop 34).take (Tryz.prog.cellsOf 4)) = some (xs.getD 3 (.nil, [])) := (hf 3 _ rfl).trans (hs 3 (by omega))
 rw [cells3] at g0 g2
 rw [cells4] at g3
 rw [cells34] at g1
 obtain ⟨z0, e0, _, _⟩ := DataW.trod_int Tryz.underlying3 g0
 obtain ⟨k, e1⟩ := key_of_trod g1
 obtain ⟨z2, e2, _, _⟩ := DataW.trod_int Tryz.underlying3 g2
 obtain ⟨b3, e3, _⟩ := DataW.trod_bool Tryz.underlying4 g3
 refine ⟨⟨z0, k, z2, b3⟩, ?_⟩
 have hc : cs = (cs.drop 0).take 1 ++ (cs.drop 1).take 32 ++ (cs.drop 33).take 1 ++ (cs.drop 34).take 1 := by
  refine List.ext_getElem? fun i => ?_
  simp only [List.drop_zero]
  rw [List.append_assoc, List.append_assoc]
  have hdrop : (cs.drop 34).take 1 = cs.drop 34 := List.take_of_length_le (by rw [List.length_drop]; omega)
  rw [hdrop, ← List.drop_drop (i := 1) (j := 33), List.take_append_drop, ← List.drop_drop (i := 32) (j := 1), List.take_append_drop, List.take_append_drop]
 rw [hc, e0, e1, e2, e3]
 show _ = Value.int .i64 z0 :: (Dir.encK k ++ [Value.int .i64 z2, Value.bool b3])
 simp
def RowOf {α : Type} (f : α → List Value) (Pr : α → Prop) (ts k by_ : Nat) (W : World) (cs : List Value) (x : DataW H × List MemPlace) : Prop :=
 ∃ (a : Option Addr) (len cap : Nat) (l : List α), cs = [.slice a len cap] ∧ l.length = len ∧ Dir.SrcAt W a len k (l.flatMap f) ∧ (∀ d ∈ l, Pr d) ∧ len ≤ maxLen ∧ ((∀ n ∈ x.1.weights Tryz.prog ts, n ≤ reachBytes) → len * by_ ≤ 140737488351232)
theorem rows_of_trod {α : Type} [Inhabited α] (f : α → List Value) (Pr : α → Prop) {ts te k by_ : Nat} (hk : ∀ x, (f x).length = k) (ht : Tryz.prog.underlying ts = some (.slice te)) (hc : Tryz.prog.cellsOf te = k) (hby : Tryz.prog.bytesOf te = by_)
  (hel : ∀ {n : Nat} {cs : List Value} {x : DataW H × List MemPlace}, DataW.trod enc Tryz.prog W base sp held n te cs = some x → ∃ d : α, cs = f d ∧ Pr d)
  {n : Nat} {cs : List Value} {x : DataW H × List MemPlace} (h : DataW.trod enc Tryz.prog W base sp held n ts cs = some x) :
  RowOf f Pr ts k by_ W cs x := by
 rcases DataW.trod_slice ht h with ⟨hcs, _⟩ | ⟨ad, len, cap, elems, rest, m, _, hcs, hxe, _, hlc, hcm, hle, hx, _, _⟩
 ·exact ⟨none, 0, 0, [], hcs, rfl, ⟨by simp, fun _ => rfl, fun a ha => (by cases ha)⟩, by simp, Nat.zero_le _, fun _ => by simp⟩
 ·obtain ⟨S, hS⟩ := choose_lt (α := α) (n := len) (p := fun i d => (∀ j u, (f d)[j]? = some u → W.cell? (ad.add (i * k + j)) = some u) ∧ Pr d) (fun i hi => by
   have hxi := hx i hi
   rw [List.getElem?_eq_getElem (by rw [hle]; exact hi), hc] at hxi
   obtain ⟨cs', h1, h2⟩ := Option.bind_eq_some_iff.1 hxi
   obtain ⟨d, rfl, hp⟩ := hel h2
   obtain ⟨_, _, hcell⟩ := World.cells?_some h1
   refine ⟨d, fun j u hj => ?_, hp⟩
   have hj5 : j < k := by rw [← hk d]; exact (List.getElem?_eq_some_iff.1 hj).1
   have := hcell j hj5
   rw [Deep.add_add] at this
   exact this.trans hj)
  have hlen : ((List.range len).map S).length = len := by simp
  have hflat : ∀ l : List α, (l.flatMap f).length = l.length * k := fun l => by
   induction l with
   | nil => simp
   | cons a l ih => rw [List.flatMap_cons, List.length_append, hk, ih, List.length_cons, Nat.add_mul]; omega
  refine ⟨some ad, len, cap, (List.range len).map S, hcs, hlen, ⟨by rw [hflat, hlen], fun e => (by cases e), fun a ha j u hj => ?_⟩, fun d hd => ?_, by omega, fun hw => ?_⟩
  ·cases ha
   have hjl : j < len * k := by have := (List.getElem?_eq_some_iff.1 hj).1; rwa [hflat, hlen] at this
   have hkp : 0 < k := by rcases Nat.eq_zero_or_pos k with e | e; (subst e; omega); exact e
   have hq : j / k < len := Nat.div_lt_of_lt_mul (by rw [Nat.mul_comm]; exact hjl)
   have hr : j % k < k := Nat.mod_lt _ hkp
   have e1 := (hS (j / k) hq).1 (j % k) ((f (S (j / k)))[j % k]'(by rw [hk]; exact hr)) (List.getElem?_eq_getElem _)
   have e2 : ((List.range len).map S)[j / k]? = some (S (j / k)) := by simp [hq]
   have e3 := Dir.flatMap_at f k hk _ (j / k) (S (j / k)) e2 (j % k) _ (List.getElem?_eq_getElem (by rw [hk]; exact hr))
   rw [Nat.div_add_mod' j k] at e1 e3
   rw [e1]
   rw [e3] at hj
   exact hj
  ·obtain ⟨i, hi, rfl⟩ := List.mem_map.1 hd
   exact (hS i (by simpa using hi)).2
  ·have h1 := hw ((elems.length + rest.length) * by_) (by rw [hxe]; simp [DataW.weights, ht, hby])
   have h2 : len * by_ ≤ (elems.length + rest.length) * by_ := Nat.mul_le_mul_right _ (by omega)
   exact Nat.le_trans h2 h1
theorem devs_of_trod {n : Nat} {cs : List Value} {x : DataW H × List MemPlace} (h : DataW.trod enc Tryz.prog W base sp held n 22 cs = some x) : RowOf Dir.encD (fun _ => True) 22 35 56 W cs x :=
 rows_of_trod (α := Dir.Dev) Dir.encD (fun _ => True) (by_ := 56) Dir.encD_len Tryz.underlying22 cells46 bytes46 (fun h => by obtain ⟨d, hd⟩ := dev_of_trod h; exact ⟨d, hd, trivial⟩) h
theorem keys_of_trod {n : Nat} {cs : List Value} {x : DataW H × List MemPlace} (h : DataW.trod enc Tryz.prog W base sp held n 23 cs = some x) : RowOf Dir.encK (fun _ => True) 23 32 32 W cs x :=
 rows_of_trod (α := Dir.Key) Dir.encK (fun _ => True) (by_ := 32) Dir.encK_len Tryz.underlying23 cells34 bytes34 (fun h => by obtain ⟨d, hd⟩ := key_of_trod h; exact ⟨d, hd, trivial⟩) h
theorem book_of_trod {n : Nat} {cs : List Value} {x : DataW H × List MemPlace} (h : DataW.trod enc Tryz.prog W base sp held n 25 cs = some x) (hw : ∀ n ∈ x.1.weights Tryz.prog 25, n ≤ reachBytes) :
  ∃ (B : Dir.Book) (A1 : Option Addr) (c1 : Nat) (A2 : Option Addr) (c2 : Nat), cs = Dir.bookCells B A1 c1 A2 c2 ∧ Dir.SrcB W B A1 A2 ∧ B.devs.length * 56 ≤ 140737488351232 ∧ B.spent.length * 32 ≤ 140737488351232 := by
 obtain ⟨xs, m, _, hxe, hl, hxl, hf⟩ := DataW.trod_struct Tryz.underlying25 h
 rw [cells43] at hl
 have hs : ∀ i, i < 5 → xs[i]? = some (xs.getD i (.nil, [])) := fun i hi => by
  rw [List.getElem?_eq_getElem (by rw [hxl]; exact hi), List.getD_eq_getElem?_getD, List.getElem?_eq_getElem (by rw [hxl]; exact hi)]; rfl
 have g0 : DataW.trod enc Tryz.prog W base sp held m 3 ((cs.drop 0).take (Tryz.prog.cellsOf 3)) = some (xs.getD 0 (.nil, [])) := (hf 0 _ rfl).trans (hs 0 (by omega))
 have g1 : DataW.trod enc Tryz.prog W base sp held m 3 ((cs.drop 1).take (Tryz.prog.cellsOf 3)) = some (xs.getD 1 (.nil, [])) := (hf 1 _ rfl).trans (hs 1 (by omega))
 have g2 : DataW.trod enc Tryz.prog W base sp held m 22 ((cs.drop 2).take (Tryz.prog.cellsOf 22)) = some (xs.getD 2 (.nil, [])) := (hf 2 _ rfl).trans (hs 2 (by omega))
 have g3 : DataW.trod enc Tryz.prog W base sp held m 23 ((cs.drop 3).take (Tryz.prog.cellsOf 23)) = some (xs.getD 3 (.nil, [])) := (hf 3 _ rfl).trans (hs 3 (by omega))
 have g4 : DataW.trod enc Tryz.prog W base sp held m 9 ((cs.drop 4).take (Tryz.prog.cellsOf 9)) = some (xs.getD 4 (.nil, [])) := (hf 4 _ rfl).trans (hs 4 (by omega))
 rw [cells3] at g0 g1
 rw [cells40] at g2
 rw [cells41] at g3
 rw [cells9] at g4
 obtain ⟨z0, e0, _, _⟩ := DataW.trod_int Tryz.underlying3 g0
 obtain ⟨z1, e1, _, _⟩ := DataW.trod_int Tryz.underlying3 g1
 obtain ⟨A1, n1, c1, l1, e2, hn1, hs1, _, hm1, hz1⟩ := devs_of_trod g2
 obtain ⟨A2, n2, c2, l2, e3, hn2, hs2, _, hm2, hz2⟩ := keys_of_trod g3
 obtain ⟨s4, e4, _, _⟩ := DataW.trod_string Tryz.underlying9 g4
 subst hn1
 subst hn2
 have hwe : ∀ i T, (([3, 3, 22, 23, 9] : List TypeId)[i]? = some T) → i < 5 → ∀ n ∈ (xs.getD i (.nil, [])).1.weights Tryz.prog T, n ≤ reachBytes := fun i T hT hi n hn => by
  refine hw n ?_
  have hmem := DataW.weights_mem_each (P := Tryz.prog) (ts := [3, 3, 22, 23, 9]) (ds := xs.map (·.1)) (j := i) hT (by rw [List.getElem?_map, hs i hi]; rfl) n hn
  rw [hxe]
  simp only [DataW.weights, Tryz.underlying25]
  exact hmem
 have f1 := hz1 (hwe 2 22 rfl (by omega))
 have f2 := hz2 (hwe 3 23 rfl (by omega))
 refine ⟨⟨z0, z1, l1, l2, s4.data.toList⟩, A1, c1, A2, c2, ?_, ⟨hs1, hs2, by show l1.length ≤ _; omega, by show l2.length ≤ _; omega⟩, f1, f2⟩
 match cs, hl with
 | [a, b, c, d, e], _ =>
  simp at e0 e1 e2 e3 e4
  subst e0 e1 e2 e3 e4
  rfl
end
end Go.Proofs.YtmgbaefgcdglpaaGreatDoor.PA
end
section
namespace Go.Proofs.YtmgbaefgcdglpaaGreatDoor.PA
open Go.ChangeShapes Go.WideShapes Go.ChangeAt Go.RowKit Go.Deep
open Go.Proofs.YtmgbaefgcdglpaaGreatDoorW.PrintWords Go.Proofs.YtmgbaefgcdglpaaGreatDoorW.PrintLast Go.Proofs.YtmgbaefgcdglpaaGreatDoorW.PrintMore
set_option linter.unusedVariables false
set_option maxRecDepth 100000
theorem laidOut : laidOutB Tryz.prog = true := by kernel_rfl
theorem cells80 : Tryz.prog.cellsOf 80 = 2 := by kernel_rfl
theorem cells48 : Tryz.prog.cellsOf 48 = 36 := by kernel_rfl
theorem cells45 : Tryz.prog.cellsOf 45 = 1 := by kernel_rfl
theorem cells29 : Tryz.prog.cellsOf 29 = 1 := by kernel_rfl
theorem cells31 : Tryz.prog.cellsOf 31 = 37 := by kernel_rfl
theorem bytes80 : Tryz.prog.bytesOf 80 = 16 := by kernel_rfl
theorem bytes48 : Tryz.prog.bytesOf 48 = 96 := by kernel_rfl
instance : Inhabited Net.Peer := ⟨⟨0, Dir.key0, 0, [], []⟩⟩
instance : Inhabited S80 := ⟨⟨0, 0⟩⟩
section
variable {H : Type} {enc : TypeId × Value → H} {W : World} {base : Nat} {sp : Nat → Bool} {held : Bool}
theorem krow_of_trod {α : Type} [Inhabited α] (d : Kd α) {ts te by_ : Nat} (ht : Tryz.prog.underlying ts = some (.slice te)) (hc : Tryz.prog.cellsOf te = d.sz) (hby : Tryz.prog.bytesOf te = by_)
  (hel : ∀ {n : Nat} {cs : List Value} {x : DataW H × List MemPlace}, DataW.trod enc Tryz.prog W base sp held n te cs = some x → ∃ a : α, d.K W a cs)
  {n : Nat} {cs : List Value} {x : DataW H × List MemPlace} (h : DataW.trod enc Tryz.prog W base sp held n ts cs = some x) :
  ∃ (A : Option Addr) (len cap : Nat) (l : List α), cs = [.slice A len cap] ∧ l.length = len ∧ len ≤ cap ∧ d.C W A len l ∧ ((∀ n ∈ x.1.weights Tryz.prog ts, n ≤ reachBytes) → len * by_ ≤ 140737488351232) := by
 rcases DataW.trod_slice ht h with ⟨hcs, _⟩ | ⟨ad, len, cap, elems, rest, m, _, hcs, hxe, _, hlc, hcm, hle, hx, _, _⟩
 ·exact ⟨none, 0, 0, [], hcs, rfl, Nat.le_refl _, ⟨rfl, by decide, fun h0 => absurd h0 (by decide)⟩, fun _ => by simp⟩
 ·obtain ⟨S, hS⟩ := choose_lt (α := α) (n := len) (p := fun i a => ∃ cs', cs'.length = d.sz ∧ d.K W a cs' ∧ ∀ j u, cs'[j]? = some u → W.cell? (ad.add (i * d.sz + j)) = some u) (fun i hi => by
   have hxi := hx i hi
   rw [List.getElem?_eq_getElem (by rw [hle]; exact hi), hc] at hxi
   obtain ⟨cs', h1, h2⟩ := Option.bind_eq_some_iff.1 hxi
   obtain ⟨a, hK⟩ := hel h2
   obtain ⟨_, _, hcell⟩ := World.cells?_some h1
   refine ⟨a, cs', d.K_len hK, hK, fun j u hj => ?_⟩
   have hj5 : j < d.sz := by rw [← d.K_len hK]; exact (List.getElem?_eq_some_iff.1 hj).1
   have := hcell j hj5
   rw [Deep.add_add] at this
   exact this.trans hj)
  refine ⟨some ad, len, cap, (List.range len).map S, hcs, by simp, hlc, ⟨by simp, ?_, fun _ => ⟨ad, rfl, fun j a hj => ?_⟩⟩, fun hw => ?_⟩
  ·have : maxLen = 9223372036854775807 := rfl
   omega
  ·have hj2 : j < len := by have := (List.getElem?_eq_some_iff.1 hj).1; simpa using this
   rw [List.getElem?_map, List.getElem?_range hj2] at hj
   cases hj
   exact hS j hj2
  ·have h1 := hw ((elems.length + rest.length) * by_) (by rw [hxe]; simp [DataW.weights, ht, hby])
   have h2 : len * by_ ≤ (elems.length + rest.length) * by_ := Nat.mul_le_mul_right _ (by omega)
   exact Nat.le_trans h2 h1
theorem span_of_trod {n : Nat} {cs : List Value} {x : DataW H × List MemPlace} (h : DataW.trod enc Tryz.prog W base sp held n 80 cs = some x) : ∃ s : S80, k80.K W s cs := by
 obtain ⟨xs, m, _, _, hl, hxl, hf⟩ := DataW.trod_struct Tryz.underlying80 h
 rw [cells80] at hl
 have hs : ∀ i, i < 2 → xs[i]? = some (xs.getD i (.nil, [])) := fun i hi => by
  rw [List.getElem?_eq_getElem (by rw [hxl]; exact hi), List.getD_eq_getElem?_getD, List.getElem?_eq_getElem (by rw [hxl]; exact hi)]; rfl
 have g0 : DataW.trod enc Tryz.prog W base sp held m 3 ((cs.drop 0).take (Tryz.prog.cellsOf 3)) = some (xs.getD 0 (.nil, [])) := (hf 0 _ rfl).trans (hs 0 (by omega))
 have g1 : DataW.trod enc Tryz.prog W base sp held m 3 ((cs.drop 1).take (Tryz.prog.cellsOf 3)) = some (xs.getD 1 (.nil, [])) := (hf 1 _ rfl).trans (hs 1 (by omega))
 rw [cells3] at g0 g1
 obtain ⟨z0, e0, _, _⟩ := DataW.trod_int Tryz.underlying3 g0
 obtain ⟨z1, e1, _, _⟩ := DataW.trod_int Tryz.underlying3 g1
 refine ⟨⟨z0, z1⟩, ?_⟩
 match cs, hl with
 | [a, b], _ =>
  simp at e0 e1
  subst e0 e1
  exact ⟨[.int .i64 z0], [.int .i64 z1], rfl, rfl, rfl⟩
theorem spans_of_trod {n : Nat} {cs : List Value} {x : DataW H × List MemPlace} (h : DataW.trod enc Tryz.prog W base sp held n 45 cs = some x) : ∃ (A : Option Addr) (c : Nat) (l : List Net.Sp), cs = [.slice A l.length c] ∧ Net.SpAt W A c l := by
 obtain ⟨A, len, cap, l, h1, h2, h3, h4, -⟩ := krow_of_trod k80 Tryz.underlying45 cells80 bytes80 span_of_trod h
 subst h2
 exact ⟨A, cap, l, h1, h3, h4⟩
theorem peer_of_trod {n : Nat} {cs : List Value} {x : DataW H × List MemPlace} (h : DataW.trod enc Tryz.prog W base sp held n 48 cs = some x) : ∃ p : Net.Peer, Net.kPeer.K W p cs := by
 obtain ⟨xs, m, _, _, hl, hxl, hf⟩ := DataW.trod_struct Tryz.underlying48 h
 rw [cells48] at hl
 have hs : ∀ i, i < 5 → xs[i]? = some (xs.getD i (.nil, [])) := fun i hi => by
  rw [List.getElem?_eq_getElem (by rw [hxl]; exact hi), List.getD_eq_getElem?_getD, List.getElem?_eq_getElem (by rw [hxl]; exact hi)]; rfl
 have g0 : DataW.trod enc Tryz.prog W base sp held m 3 ((cs.drop 0).take (Tryz.prog.cellsOf 3)) = some (xs.getD 0 (.nil, [])) := (hf 0 _ rfl).trans (hs 0 (by omega))
 have g1 : DataW.trod enc Tryz.prog W base sp held m 28 ((cs.drop 1).take (Tryz.prog.cellsOf 28)) = some (xs.getD 1 (.nil, [])) := (hf 1 _ rfl).trans (hs 1 (by omega))
 have g2 : DataW.trod enc Tryz.prog W base sp held m 3 ((cs.drop 33).take (Tryz.prog.cellsOf 3)) = some (xs.getD 2 (.nil, [])) := (hf 2 _ rfl).trans (hs 2 (by omega))
 have g3 : DataW.trod enc Tryz.prog W base sp held m 45 ((cs.drop 34).take (Tryz.prog.cellsOf 45)) = some (xs.getD 3 (.nil, [])) := (hf 3 _ rfl).trans (hs 3 (by omega))
 have g4 : DataW.trod enc Tryz.prog W base sp held m 45 ((cs.drop 35).take (Tryz.prog.cellsOf 45)) = some (xs.getD 4 (.nil, [])) := (hf 4 _ rfl).trans (hs 4 (by omega))
 rw [cells3] at g0 g2
 rw [cells45] at g3 g4
 rw [cells34] at g1
 obtain ⟨z0, e0, _, _⟩ := DataW.trod_int Tryz.underlying3 g0
 obtain ⟨k, e1⟩ := key_of_trod g1
 obtain ⟨z2, e2, _, _⟩ := DataW.trod_int Tryz.underlying3 g2
 obtain ⟨A3, c3, l3, e3, h3⟩ := spans_of_trod g3
 obtain ⟨A4, c4, l4, e4, h4⟩ := spans_of_trod g4
 refine ⟨⟨z0, k, z2, l3, l4⟩, ?_⟩
 have hc : cs = Net.peerCells ⟨z0, k, z2, l3, l4⟩ A3 c3 A4 c4 := by
  have hc : cs = (cs.drop 0).take 1 ++ ((cs.drop 1).take 32 ++ ((cs.drop 33).take 1 ++ ((cs.drop 34).take 1 ++ (cs.drop 35).take 1))) := by
   have hdrop : (cs.drop 35).take 1 = cs.drop 35 := List.take_of_length_le (by rw [List.length_drop]; omega)
   rw [hdrop, ← List.drop_drop (i := 1) (j := 34), List.take_append_drop, ← List.drop_drop (i := 1) (j := 33), List.take_append_drop, ← List.drop_drop (i := 32) (j := 1), List.take_append_drop, List.drop_zero, List.take_append_drop]
  rw [hc, e0, e1, e2, e3, e4]
  rfl
 rw [hc]
 exact Net.kPeer_mk ⟨h3, h4⟩
theorem peers_of_trod {n : Nat} {cs : List Value} {x : DataW H × List MemPlace} (h : DataW.trod enc Tryz.prog W base sp held n 29 cs = some x) : ∃ (A : Option Addr) (c : Nat) (l : List Net.Peer), cs = [.slice A l.length c] ∧ Net.PsAt W A c l ∧ ((∀ n ∈ x.1.weights Tryz.prog 29, n ≤ reachBytes) → l.length * 96 ≤ 140737488351232) := by
 obtain ⟨A, len, cap, l, h1, h2, h3, h4, h5⟩ := krow_of_trod Net.kPeer Tryz.underlying29 cells48 bytes48 peer_of_trod h
 subst h2
 exact ⟨A, cap, l, h1, ⟨h3, h4⟩, h5⟩
theorem map_of_trod {n : Nat} {cs : List Value} {x : DataW H × List MemPlace} (h : DataW.trod enc Tryz.prog W base sp held n 31 cs = some x) (hw : ∀ n ∈ x.1.weights Tryz.prog 31, n ≤ reachBytes) :
  ∃ (m : Net.NMap) (A : Option Addr) (c : Nat), cs = Net.mapCells m A c ∧ Net.PsAt W A c m.peers ∧ m.peers.length * 96 ≤ 140737488351232 := by
 obtain ⟨xs, m, _, hxe, hl, hxl, hf⟩ := DataW.trod_struct Tryz.underlying31 h
 rw [cells31] at hl
 have hs : ∀ i, i < 6 → xs[i]? = some (xs.getD i (.nil, [])) := fun i hi => by
  rw [List.getElem?_eq_getElem (by rw [hxl]; exact hi), List.getD_eq_getElem?_getD, List.getElem?_eq_getElem (by rw [hxl]; exact hi)]; rfl
 have g0 : DataW.trod enc Tryz.prog W base sp held m 3 ((cs.drop 0).take (Tryz.prog.cellsOf 3)) = some (xs.getD 0 (.nil, [])) := (hf 0 _ rfl).trans (hs 0 (by omega))
 have g1 : DataW.trod enc Tryz.prog W base sp held m 3 ((cs.drop 1).take (Tryz.prog.cellsOf 3)) = some (xs.getD 1 (.nil, [])) := (hf 1 _ rfl).trans (hs 1 (by omega))
 have g2 : DataW.trod enc Tryz.prog W base sp held m 3 ((cs.drop 2).take (Tryz.prog.cellsOf 3)) = some (xs.getD 2 (.nil, [])) := (hf 2 _ rfl).trans (hs 2 (by omega))
 have g3 : DataW.trod enc Tryz.prog W base sp held m 28 ((cs.drop 3).take (Tryz.prog.cellsOf 28)) = some (xs.getD 3 (.nil, [])) := (hf 3 _ rfl).trans (hs 3 (by omega))
 have g4 : DataW.trod enc Tryz.prog W base sp held m 3 ((cs.drop 35).take (Tryz.prog.cellsOf 3)) = some (xs.getD 4 (.nil, [])) := (hf 4 _ rfl).trans (hs 4 (by omega))
 have g5 : DataW.trod enc Tryz.prog W base sp held m 29 ((cs.drop 36).take (Tryz.prog.cellsOf 29)) = some (xs.getD 5 (.nil, [])) := (hf 5 _ rfl).trans (hs 5 (by omega))
 rw [cells3] at g0 g1 g2 g4
 rw [cells34] at g3
 rw [cells29] at g5
 obtain ⟨z0, e0, _, _⟩ := DataW.trod_int Tryz.underlying3 g0
 obtain ⟨z1, e1, _, _⟩ := DataW.trod_int Tryz.underlying3 g1
 obtain ⟨z2, e2, _, _⟩ := DataW.trod_int Tryz.underlying3 g2
 obtain ⟨k, e3⟩ := key_of_trod g3
 obtain ⟨z4, e4, _, _⟩ := DataW.trod_int Tryz.underlying3 g4
 obtain ⟨A, c, l, e5, hps, hz⟩ := peers_of_trod g5
 have hwe : ∀ n ∈ (xs.getD 5 (.nil, [])).1.weights Tryz.prog 29, n ≤ reachBytes := fun n hn => by
  refine hw n ?_
  have hmem := DataW.weights_mem_each (P := Tryz.prog) (ts := [3, 3, 3, 28, 3, 29]) (ds := xs.map (·.1)) (j := 5) rfl (by rw [List.getElem?_map, hs 5 (by omega)]; rfl) n hn
  rw [hxe]
  simp only [DataW.weights, Tryz.underlying31]
  exact hmem
 refine ⟨⟨z0, z1, z2, k, z4, l⟩, A, c, ?_, hps, hz hwe⟩
 have hc : cs = (cs.drop 0).take 1 ++ ((cs.drop 1).take 1 ++ ((cs.drop 2).take 1 ++ ((cs.drop 3).take 32 ++ ((cs.drop 35).take 1 ++ (cs.drop 36).take 1)))) := by
  have hdrop : (cs.drop 36).take 1 = cs.drop 36 := List.take_of_length_le (by rw [List.length_drop]; omega)
  rw [hdrop, ← List.drop_drop (i := 1) (j := 35), List.take_append_drop, ← List.drop_drop (i := 32) (j := 3), List.take_append_drop, ← List.drop_drop (i := 1) (j := 2), List.take_append_drop, ← List.drop_drop (i := 1) (j := 1), List.take_append_drop, List.drop_zero, List.take_append_drop]
 rw [hc, e0, e1, e2, e3, e4, e5]
 rfl
end
end Go.Proofs.YtmgbaefgcdglpaaGreatDoor.PA
end
section
namespace Go.Proofs.YtmgbaefgcdglpaaGreatDoor.Net
open Go Go.RowKit Go.Proofs Go.Proofs.YtmgbaefgcdglpaaGreatDoorW.PrintWords Go.Proofs.YtmgbaefgcdglpaaGreatDoorW.PrintLast Go.Proofs.YtmgbaefgcdglpaaGreatDoorW.PrintMore Go.Proofs.YtmgbaefgcdglpaaGreatDoor.Dir
set_option linter.unusedVariables false
set_option linter.unusedSimpArgs false
set_option maxHeartbeats 4000000 in
set_option maxRecDepth 100000 in
theorem arrives_law (a b : NMap) (A0 : Option Addr) (c0 : Nat) (A1 : Option Addr) (c1 : Nat) (w : World) (h0 : PsAt w A0 c0 a.peers) (h1 : PsAt w A1 c1 b.peers) (hx : PA.LaidW w) :
  Calls Tryz.prog 7 #[.agg (mapCells a A0 c0).toArray, .agg (mapCells b A1 c1).toArray] w fun e w' => e = .returned (.bool true) ∧ Below w.heap.size w w' := by
 obtain ⟨q0, hq0⟩ : ∃ q0, q0 = w.heap.size := ⟨_, rfl⟩
 obtain ⟨wx0, hwx0⟩ : ∃ wx0, wx0 = w.alloc (.cells (mapCells a A0 c0).toArray 31) := ⟨_, rfl⟩
 have hbx : Below w.heap.size w wx0 := by rw [hwx0]; exact (Below.refl _ w).alloc (Nat.le_refl _) _
 have BW := Aside0.mk (hbx)
 have Q0 := Aside0.mk (show wx0.heap[q0]? = some (.cells (mapCells a A0 c0).toArray 31 (0, 0)) by rw [hwx0, hq0]; exact heap_alloc_new w _)
 have PS0 := Aside0.mk (h0.below hbx)
 have PS1 := Aside0.mk (h1.below hbx)
 have HX := Aside0.mk (hx.below hbx)
 clear hbx
 obtain ⟨q1, hq1⟩ : ∃ q1, q1 = wx0.heap.size := ⟨_, rfl⟩
 obtain ⟨wx1, hwx1⟩ : ∃ wx1, wx1 = wx0.alloc (.cells (mapCells b A1 c1).toArray 31) := ⟨_, rfl⟩
 have hbx : Below wx0.heap.size wx0 wx1 := by rw [hwx1]; exact (Below.refl _ wx0).alloc (Nat.le_refl _) _
 have BW := Aside0.mk (below_step BW.out hbx)
 have Q1 := Aside0.mk (show wx1.heap[q1]? = some (.cells (mapCells b A1 c1).toArray 31 (0, 0)) by rw [hwx1, hq1]; exact heap_alloc_new wx0 _)
 have Q0 := Aside0.mk (roomN Q0.out hbx)
 have PS0 := Aside0.mk (PS0.out.below hbx)
 have PS1 := Aside0.mk (PS1.out.below hbx)
 have HX := Aside0.mk (HX.out.below hbx)
 have hq1' : q0 + 1 = q1 := by rw [hq1, hq0, hwx0]; simp
 clear hbx
 obtain ⟨X0, hX0⟩ : ∃ X0, X0 = (mapCells a A0 c0).toArray := ⟨_, rfl⟩
 have HX0 := Aside0.mk hX0
 rw [← hX0] at hwx0 ⊢
 clear hX0
 obtain ⟨X1, hX1⟩ : ∃ X1, X1 = (mapCells b A1 c1).toArray := ⟨_, rfl⟩
 have HX1 := Aside0.mk hX1
 rw [← hX1] at hwx1 ⊢
 clear hX1
 clear hx h0 h1
 go_enter Tryz.func7, Tryz.ntmps7
 go_upto_region 1 with fail
 change Code.wp _ _ _ _ ((w.alloc (.cells X0 31)).alloc (.cells X1 31))
 rw [← hwx0, ← hq0]
 rw [← hwx1, hq1']
 clear hwx0 hq0 hwx1 hq1 hq1'
 go_wp2_with fail
 refine (works20 wx1 HX.out).mono ?_
 rintro e wb ⟨rfl, hb⟩
 have BW := Aside0.mk (below_step BW.out hb)
 have HX := Aside0.mk (HX.out.below hb)
 have Q0 := Aside0.mk (roomN Q0.out hb)
 have Q1 := Aside0.mk (roomN Q1.out hb)
 have PS0 := Aside0.mk (PsAt.below PS0.out hb)
 have PS1 := Aside0.mk (PsAt.below PS1.out hb)
 clear hb
 have lx := Aside0.mk (run_loadAtK Tryz.prog wb 31 37 Tryz.isAgg31 Tryz.sizeOf31 q0 0 (mapCells a A0 c0) (mapCells_len _ _ _) (cells_of_heap Q0.out))
 have ly := Aside0.mk (run_loadAtK Tryz.prog wb 31 37 Tryz.isAgg31 Tryz.sizeOf31 q1 0 (mapCells b A1 c1) (mapCells_len _ _ _) (cells_of_heap Q1.out))
 have DC := Aside0.mk (diff_any a b A0 c0 A1 c1 wb PS0.out PS1.out)
 rw [← HX0.out] at lx DC
 rw [← HX1.out] at ly DC
 go_wp2_with (first | ((with_reducible refine at_load 31 (.tmp 2) ?_); refine wpList_loadK rfl 31 (.tmp 2) rfl _ rfl _ lx.out ?_) | ((with_reducible refine at_load 31 (.tmp 3) ?_); refine wpList_loadK rfl 31 (.tmp 3) rfl _ rfl _ ly.out ?_))
 refine DC.out.mono ?_
 rintro e wc ⟨D1, G1, g1, S1, s1, co1, rfl, hda, hb, hdf, -, -⟩
 have DA1 := Aside0.mk hda
 have DF1 := Aside0.mk hdf
 clear hda hdf lx ly DC
 have BW := Aside0.mk (below_step BW.out hb)
 have HX := Aside0.mk (HX.out.below hb)
 have Q0 := Aside0.mk (roomN Q0.out hb)
 have Q1 := Aside0.mk (roomN Q1.out hb)
 have PS0 := Aside0.mk (PsAt.below PS0.out hb)
 have PS1 := Aside0.mk (PsAt.below PS1.out hb)
 clear hb
 obtain ⟨dd1, hdd1⟩ : ∃ dd1, dd1 = wc.heap.size := ⟨_, rfl⟩
 obtain ⟨wd, hwd⟩ : ∃ wd, wd = wc.alloc (.cells (delCells D1 G1 g1 S1 s1).toArray 55) := ⟨_, rfl⟩
 have hbb : Below wc.heap.size wc wd := by rw [hwd]; exact (Below.refl _ wc).alloc (Nat.le_refl _) _
 have Qdd1 := Aside0.mk (show wd.heap[dd1]? = some (.cells (delCells D1 G1 g1 S1 s1).toArray 55 (0, 0)) by rw [hwd, hdd1]; exact heap_alloc_new wc _)
 have st := Aside0.mk (fun (C : Array Value) (hc : C.size = 39) => run_storeNew Tryz.prog wc 55 39 (by kernel_rfl) C (delCells D1 G1 g1 S1 s1).toArray hc (by simpa using delCells_len _ _ _ _ _) (del_one _ _ _ _ _))
 obtain ⟨Mdd1, hMdd1⟩ : ∃ Mdd1, Mdd1 = (delCells D1 G1 g1 S1 s1).toArray := ⟨_, rfl⟩
 have HMdd1 := Aside0.mk hMdd1
 rw [← hMdd1] at hwd st ⊢
 have BW := Aside0.mk (below_step BW.out hbb)
 have HX := Aside0.mk (HX.out.below hbb)
 have Q0 := Aside0.mk (roomN Q0.out hbb)
 have Q1 := Aside0.mk (roomN Q1.out hbb)
 have PS0 := Aside0.mk (PsAt.below PS0.out hbb)
 have PS1 := Aside0.mk (PsAt.below PS1.out hbb)
 have DA1 := Aside0.mk (DAt.below DA1.out hbb)
 clear hMdd1 hbb
 go_upto_region 4 with ((with_reducible refine at_store 55 (.tmp 5) (.tmp 15) ?_); refine wpList_storeK rfl 55 (.tmp 5) (.tmp 15) rfl rfl _ _ rfl rfl _ (st.out _ rfl) ?_)
 rw [← hwd, ← hdd1]
 clear hwd hdd1 st
 have AR := Aside0.mk (arrives a b)
 rw [← DF1.out] at AR
 by_cases hc : co1 = 0
 case neg =>
  have hcb : (co1 != 0) = true := by simpa using hc
  have WHY := Aside0.mk (show okM a = false ∨ okM b = false ∨ a.node ≠ b.node ∨ b.ver < a.ver by have := AR.out; rw [if_neg hc] at this; exact this)
  clear hc
  have lx := Aside0.mk (run_loadAtK Tryz.prog wd 31 37 Tryz.isAgg31 Tryz.sizeOf31 q0 0 (mapCells a A0 c0) (mapCells_len _ _ _) (cells_of_heap Q0.out))
  have C0 := Aside0.mk (check27 a A0 c0 wd PS0.out)
  rw [← HX0.out] at lx C0
  go_wp2_with ((with_reducible refine at_load 31 (.tmp 2) ?_); refine wpList_loadK rfl 31 (.tmp 2) rfl _ rfl _ lx.out ?_)
  refine C0.out.mono ?_
  rintro e we ⟨rfl, hb⟩
  obtain ⟨o0, ho0⟩ : ∃ o0, o0 = okM a := ⟨_, rfl⟩
  rw [← ho0]
  have O0 := Aside0.mk ho0
  clear ho0 lx C0
  have BW := Aside0.mk (below_step BW.out hb)
  have HX := Aside0.mk (HX.out.below hb)
  have Q0 := Aside0.mk (roomN Q0.out hb)
  have Q1 := Aside0.mk (roomN Q1.out hb)
  have PS0 := Aside0.mk (PsAt.below PS0.out hb)
  have PS1 := Aside0.mk (PsAt.below PS1.out hb)
  clear hb
  cases o0 with
  | false =>
   rw [if_neg (by decide)]
   go_wp2_with fail
   go_ret
   exact ⟨rfl, BW.out⟩
  | true =>
   rw [if_pos rfl]
   have ly := Aside0.mk (run_loadAtK Tryz.prog we 31 37 Tryz.isAgg31 Tryz.sizeOf31 q1 0 (mapCells b A1 c1) (mapCells_len _ _ _) (cells_of_heap Q1.out))
   have C1 := Aside0.mk (check27 b A1 c1 we PS1.out)
   rw [← HX1.out] at ly C1
   go_wp2_with ((with_reducible refine at_load 31 (.tmp 3) ?_); refine wpList_loadW (by rfl) 31 (.tmp 3) rfl _ rfl _ ly.out ?_)
   refine C1.out.mono ?_
   rintro e wf ⟨rfl, hb⟩
   obtain ⟨o1, ho1⟩ : ∃ o1, o1 = okM b := ⟨_, rfl⟩
   rw [← ho1]
   have O1 := Aside0.mk ho1
   clear ho1 ly C1
   have BW := Aside0.mk (below_step BW.out hb)
   have HX := Aside0.mk (HX.out.below hb)
   have Q0 := Aside0.mk (roomN Q0.out hb)
   have Q1 := Aside0.mk (roomN Q1.out hb)
   have PS0 := Aside0.mk (PsAt.below PS0.out hb)
   have PS1 := Aside0.mk (PsAt.below PS1.out hb)
   clear hb
   cases o1 with
   | false =>
    rw [if_neg (by decide)]
    go_wp2_with fail
    go_ret
    exact ⟨rfl, BW.out⟩
   | true =>
    rw [if_pos rfl]
    have x0 : wf.cell? ⟨q0, 0, none⟩ = some (.int .i64 a.ver) := by rw [cell_of_heap Q0.out]; rfl
    have x2 : wf.cell? ⟨q0, 2, none⟩ = some (.int .i64 a.node) := by rw [cell_of_heap Q0.out]; rfl
    have y0 : wf.cell? ⟨q1, 0, none⟩ = some (.int .i64 b.ver) := by rw [cell_of_heap Q1.out]; rfl
    have y2 : wf.cell? ⟨q1, 2, none⟩ = some (.int .i64 b.node) := by rw [cell_of_heap Q1.out]; rfl
    by_cases hn : a.node = b.node
    case neg =>
     have hnb : (a.node != b.node) = true := by simpa using hn
     clear hn
     go_wp2_with fail
     go_ret
     exact ⟨rfl, BW.out⟩
    have hnb : (a.node != b.node) = false := by simpa using hn
    have hv : b.ver < a.ver := by
     rcases WHY.out with h | h | h | h
     ·rw [← O0.out] at h; cases h
     ·rw [← O1.out] at h; cases h
     ·exact absurd hn h
     ·exact h
    have hvd : decide (b.ver < a.ver) = true := decide_eq_true hv
    clear hn
    go_wp2_with fail
    go_ret
    exact ⟨rfl, BW.out⟩
 have hcb : (co1 != 0) = false := by simpa using hc
 have ARR := Aside0.mk (show applyOf a D1 = (b, 0) by have := AR.out; rw [if_pos hc] at this; exact this)
 clear hc
 have lx := Aside0.mk (run_loadAtK Tryz.prog wd 31 37 Tryz.isAgg31 Tryz.sizeOf31 q0 0 (mapCells a A0 c0) (mapCells_len _ _ _) (cells_of_heap Q0.out))
 have ly := Aside0.mk (run_loadAtK Tryz.prog wd 55 39 Tryz.isAgg55 Tryz.sizeOf55 dd1 0 (delCells D1 G1 g1 S1 s1) (delCells_len _ _ _ _ _) (cells_of_heap Qdd1.out))
 have AC := Aside0.mk (apply_any a D1 A0 c0 G1 g1 S1 s1 wd PS0.out DA1.out)
 rw [← HX0.out] at lx AC
 rw [← HMdd1.out] at ly AC
 go_wp2_with (first | ((with_reducible refine at_load 31 (.tmp 2) ?_); refine wpList_loadK rfl 31 (.tmp 2) rfl _ rfl _ lx.out ?_) | ((with_reducible refine at_load 55 (.tmp 5) ?_); refine wpList_loadK rfl 55 (.tmp 5) rfl _ rfl _ ly.out ?_))
 refine AC.out.mono ?_
 rintro e we ⟨N2, B2, b2, ca2, rfl, hps, hb, hap, -⟩
 have PN2 := Aside0.mk hps
 have AP2 := Aside0.mk hap
 clear hps hap lx ly AC
 have BW := Aside0.mk (below_step BW.out hb)
 have HX := Aside0.mk (HX.out.below hb)
 have Q0 := Aside0.mk (roomN Q0.out hb)
 have Q1 := Aside0.mk (roomN Q1.out hb)
 have PS0 := Aside0.mk (PsAt.below PS0.out hb)
 have PS1 := Aside0.mk (PsAt.below PS1.out hb)
 have DA1 := Aside0.mk (DAt.below DA1.out hb)
 have Qdd1 := Aside0.mk (roomN Qdd1.out hb)
 clear hb
 obtain ⟨nn2, hnn2⟩ : ∃ nn2, nn2 = we.heap.size := ⟨_, rfl⟩
 obtain ⟨wf, hwf⟩ : ∃ wf, wf = we.alloc (.cells (mapCells N2 B2 b2).toArray 31) := ⟨_, rfl⟩
 have hbb : Below we.heap.size we wf := by rw [hwf]; exact (Below.refl _ we).alloc (Nat.le_refl _) _
 have Qnn2 := Aside0.mk (show wf.heap[nn2]? = some (.cells (mapCells N2 B2 b2).toArray 31 (0, 0)) by rw [hwf, hnn2]; exact heap_alloc_new we _)
 have st := Aside0.mk (fun (C : Array Value) (hc : C.size = 37) => run_storeNew Tryz.prog we 31 37 (by kernel_rfl) C (mapCells N2 B2 b2).toArray hc (by simpa using mapCells_len _ _ _) (map_one _ _ _))
 obtain ⟨Mnn2, hMnn2⟩ : ∃ Mnn2, Mnn2 = (mapCells N2 B2 b2).toArray := ⟨_, rfl⟩
 have HMnn2 := Aside0.mk hMnn2
 rw [← hMnn2] at hwf st ⊢
 have BW := Aside0.mk (below_step BW.out hbb)
 have HX := Aside0.mk (HX.out.below hbb)
 have Q0 := Aside0.mk (roomN Q0.out hbb)
 have Q1 := Aside0.mk (roomN Q1.out hbb)
 have PS0 := Aside0.mk (PsAt.below PS0.out hbb)
 have PS1 := Aside0.mk (PsAt.below PS1.out hbb)
 have DA1 := Aside0.mk (DAt.below DA1.out hbb)
 have Qdd1 := Aside0.mk (roomN Qdd1.out hbb)
 have PN2 := Aside0.mk (PsAt.below PN2.out hbb)
 clear hMnn2 hbb
 go_upto_region 7 with ((with_reducible refine at_store 31 (.tmp 7) (.tmp 45) ?_); refine wpList_storeK rfl 31 (.tmp 7) (.tmp 45) rfl rfl _ _ rfl rfl _ (st.out _ rfl) ?_)
 rw [← hwf, ← hnn2]
 clear hwf hnn2 st
 have AP := Aside0.mk (AP2.out.trans ARR.out)
 have hca : ca2 = 0 := congrArg Prod.snd AP.out
 have hna : N2 = b := congrArg Prod.fst AP.out
 subst hca
 have lx := Aside0.mk (run_loadAtK Tryz.prog wf 31 37 Tryz.isAgg31 Tryz.sizeOf31 nn2 0 (mapCells N2 B2 b2) (mapCells_len _ _ _) (cells_of_heap Qnn2.out))
 have ly := Aside0.mk (run_loadAtK Tryz.prog wf 31 37 Tryz.isAgg31 Tryz.sizeOf31 q1 0 (mapCells b A1 c1) (mapCells_len _ _ _) (cells_of_heap Q1.out))
 have SM := Aside0.mk (same18 N2 b B2 A1 b2 c1 wf PN2.out PS1.out)
 rw [decide_eq_true hna, ← HMnn2.out, ← HX1.out] at SM
 rw [← HMnn2.out] at lx
 rw [← HX1.out] at ly
 clear hna
 go_wp2_with (first | ((with_reducible refine at_load 31 (.tmp 7) ?_); refine wpList_loadW (by rfl) 31 (.tmp 7) rfl _ rfl _ lx.out ?_) | ((with_reducible refine at_load 31 (.tmp 3) ?_); refine wpList_loadW (by rfl) 31 (.tmp 3) rfl _ rfl _ ly.out ?_))
 refine SM.out.mono ?_
 rintro e wg ⟨rfl, hb⟩
 have HE := Aside0.mk (below_step BW.out hb)
 clear hb
 go_wp2_with fail
 go_ret
 exact ⟨rfl, HE.out⟩
end Go.Proofs.YtmgbaefgcdglpaaGreatDoor.Net
end
