/- Just: just the peers whose keys count, and that some rule lets talk with the node. What the rows' arguments read as: rows of asks; the listed variables; the wrap. What arguments read as: books, and rows of ops. What arguments read as: keys by value, rows of bytes. What arguments read as: netmaps and deltas. -/
import Derived.Test.YtmgbaefgcdglpaaGreatDoorNj44
import Derived.Test.YtmgbaefgcdglpaaGreatDoorNj42
import Derived.Test.YtmgbaefgcdglpaaGreatDoorTie
import Derived.Test.YtmgbaefgcdglpaaGreatDoorNj26
import Derived.Test.YtmgbaefgcdglpaaGreatDoorNj28
import Derived.ProofKit
import Derived.OpenShut
import Derived.LaidMore
import Derived.Lay
import Derived.SevenTiedAt
import Derived.Stop.Joined
import Derived.WalkKit
import Derived.ChangeOld
import Derived.SizedLaws
import Derived.Deep.SlicePairs
import Derived.WideKeyArr2
import Derived.HandedShaped
import Derived.Test.YtmgbaefgcdglpaaGreatDoorNj31
section
namespace Go.Proofs.YtmgbaefgcdglpaaGreatDoor.Net
open Go Go.RowKit Go.Proofs Go.Proofs.YtmgbaefgcdglpaaGreatDoorW.PrintWords Go.Proofs.YtmgbaefgcdglpaaGreatDoorW.PrintLast Go.Proofs.YtmgbaefgcdglpaaGreatDoorW.PrintMore Go.Proofs.YtmgbaefgcdglpaaGreatDoor.Dir
set_option linter.unusedVariables false
set_option linter.unusedSimpArgs false
theorem counts_any (B : Book) (hB : OkB B) (n : Int) (A1 : Option Addr) (c1 : Nat) (A2 : Option Addr) (c2 : Nat) (w : World) (h : SrcB w B A1 A2) :
  Calls Tryz.prog 22 #[.agg (bookCells B A1 c1 A2 c2).toArray, .int .i64 n] w fun e w' => ∃ k is, e = .returned (.tuple #[.agg (encK k).toArray, .bool is]) ∧ Below w.heap.size w w' ∧ (match ownD B n with
   | some d => is = true ∧ k = d.key
   | none => is = false ∧ k = key0) := by
 refine (counts22 B hB n A1 c1 A2 c2 w h).mono ?_
 rintro e w' ⟨he, hb⟩
 unfold CountsEnd at he
 cases hq : ownD B n with
 | some d => rw [hq] at he; exact ⟨d.key, true, he, hb, rfl, rfl⟩
 | none => rw [hq] at he; exact ⟨key0, false, he, hb, rfl, rfl⟩
theorem spans_any (B : Book) (a b : Int) (A : Option Addr) (c : Nat) (w : World) (hc : (rulesB B).length ≤ c) (h : Kd.C PA.k96 w A (rulesB B).length (rulesB B)) :
  Calls Tryz.prog 23 #[.slice A (rulesB B).length c, .int .i64 a, .int .i64 b] w fun e w' => ∃ U u, e = .returned (.slice U (spB B a b).length u) ∧ SpAt w' U u (spB B a b) ∧ Below w.heap.size w w' := by
 refine (spans23 (rulesB B) a b A c w (parse_len _) hc h).mono ?_
 rintro e w' ⟨v, rfl, hr, hb⟩
 obtain ⟨U, u, rfl, h1, h2⟩ := Kd.R_reads hr
 exact ⟨U, u, rfl, ⟨h1, h2⟩, hb⟩
theorem ofV_key {B : Book} (hB : OkB B) (x : Int) : (match ownD B x with
  | some d => (ofV (spB B) B x).key = d.key ∧ d.key ≠ key0
  | none => (ofV (spB B) B x).key = key0) := by
 cases hq : ownD B x with
 | some d => exact ⟨(ofV_own hq).1, dev_key (wf_of_ok hB) (ownD_mem hq).1⟩
 | none => unfold ofV; rw [hq]
theorem key_one (k : Key) : ∀ u ∈ (encK k).toArray.toList, u.oneCell' = true := fun u hu => encK_one k u (by simpa using hu)
set_option maxHeartbeats 4000000 in
set_option maxRecDepth 100000 in
theorem just_law (B : Book) (A1 : Option Addr) (c1 : Nat) (A2 : Option Addr) (c2 : Nat) (x : Int) (w : World) (h : SrcB w B A1 A2) (hx : PA.LaidW w) :
  Calls Tryz.prog 4 #[.agg (bookCells B A1 c1 A2 c2).toArray, .int .i64 x] w fun e w' => e = .returned (.bool true) ∧ Below w.heap.size w w' := by
 obtain ⟨bb, hbb0⟩ : ∃ bb, bb = w.heap.size := ⟨_, rfl⟩
 obtain ⟨wa, hwa⟩ : ∃ wa, wa = w.alloc (.cells (bookCells B A1 c1 A2 c2).toArray 25) := ⟨_, rfl⟩
 have hba : Below w.heap.size w wa := by rw [hwa]; exact (Below.refl _ w).alloc (Nat.le_refl _) _
 have BW := Aside0.mk hba
 have SRC := Aside0.mk (h.later hba)
 have HX := Aside0.mk (hx.below hba)
 have QB := Aside0.mk (show wa.heap[bb]? = some (.cells (bookCells B A1 c1 A2 c2).toArray 25 (0, 0)) by rw [hwa, hbb0]; exact heap_alloc_new w _)
 obtain ⟨X, hX⟩ : ∃ X, X = (bookCells B A1 c1 A2 c2).toArray := ⟨_, rfl⟩
 have HXX := Aside0.mk hX
 rw [← hX] at hwa ⊢
 clear hX hba h hx
 go_enter Tryz.func4, Tryz.ntmps4
 go_upto_region 1 with fail
 change Code.wp _ _ _ _ (w.alloc (.cells X 25))
 rw [← hwa, ← hbb0]
 clear hwa hbb0
 go_wp2_with fail
 refine (works20 wa HX.out).mono ?_
 rintro e wb ⟨rfl, hb⟩
 have BW := Aside0.mk (below_step BW.out hb)
 have SRC := Aside0.mk (SRC.out.later hb)
 have HX := Aside0.mk (HX.out.below hb)
 have QB := Aside0.mk (roomN QB.out hb)
 clear hb
 have lb := Aside0.mk (run_loadAtK Tryz.prog wb 25 5 Tryz.isAgg25 Tryz.sizeOf25 bb 0 (bookCells B A1 c1 A2 c2) rfl (cells_of_heap QB.out))
 have OC := Aside0.mk (of_any B x A1 c1 A2 c2 wb SRC.out HX.out)
 rw [← HXX.out] at lb OC
 go_wp2_with ((with_reducible refine at_load 25 (.tmp 2) ?_); refine wpList_loadK rfl 25 (.tmp 2) rfl _ rfl _ lb.out ?_)
 refine OC.out.mono ?_
 rintro e wc ⟨m1, PA1, pc1, co1, rfl, hps, hb, hres, -⟩
 have PS1 := Aside0.mk hps
 have RS1 := Aside0.mk hres
 clear hps hres lb OC
 have BW := Aside0.mk (below_step BW.out hb)
 have SRC := Aside0.mk (SRC.out.later hb)
 have HX := Aside0.mk (HX.out.below hb)
 have QB := Aside0.mk (roomN QB.out hb)
 clear hb
 obtain ⟨n1, hn1⟩ : ∃ n1, n1 = wc.heap.size := ⟨_, rfl⟩
 obtain ⟨wd, hwd⟩ : ∃ wd, wd = wc.alloc (.cells (mapCells m1 PA1 pc1).toArray 31) := ⟨_, rfl⟩
 have hbb : Below wc.heap.size wc wd := by rw [hwd]; exact (Below.refl _ wc).alloc (Nat.le_refl _) _
 have Qn1 := Aside0.mk (show wd.heap[n1]? = some (.cells (mapCells m1 PA1 pc1).toArray 31 (0, 0)) by rw [hwd, hn1]; exact heap_alloc_new wc _)
 have st := Aside0.mk (fun (C : Array Value) (hc : C.size = 37) => run_storeNew Tryz.prog wc 31 37 (by kernel_rfl) C (mapCells m1 PA1 pc1).toArray hc (by simpa using mapCells_len _ _ _) (map_one _ _ _))
 obtain ⟨Mn1, hMn1⟩ : ∃ Mn1, Mn1 = (mapCells m1 PA1 pc1).toArray := ⟨_, rfl⟩
 have HMn1 := Aside0.mk hMn1
 rw [← hMn1] at hwd st ⊢
 have BW := Aside0.mk (below_step BW.out hbb)
 have SRC := Aside0.mk (SRC.out.later hbb)
 have HX := Aside0.mk (HX.out.below hbb)
 have QB := Aside0.mk (roomN QB.out hbb)
 have PS1 := Aside0.mk (PsAt.below PS1.out hbb)
 clear hMn1 hbb
 go_upto_region 4 with ((with_reducible refine at_store 31 (.tmp 5) (.tmp 24) ?_); refine wpList_storeK rfl 31 (.tmp 5) (.tmp 24) rfl rfl _ _ rfl rfl _ (st.out _ rfl) ?_)
 rw [← hwd, ← hn1]
 clear hwd hn1 st
 by_cases hc1 : co1 = 0
 case neg =>
  have hc1b : (co1 != 0) = true := by simpa using hc1
  have hm : m1 = map0 := by
   rcases RS1.out with ⟨-, -, -, h⟩ | ⟨-, h, -⟩ | ⟨-, -, h, -⟩
   ·exact absurd h hc1
   ·exact h
   ·exact h
  have k36 : wd.cell? ⟨n1, 36, none⟩ = some (.slice PA1 0 pc1) := by rw [cell_of_heap Qn1.out, hm]; exact map36 map0 PA1 pc1
  clear hm hc1
  go_wp2_with fail
  go_ret
  exact ⟨rfl, BW.out⟩
 have hc1b : (co1 != 0) = false := by simpa using hc1
 have OK := Aside0.mk (RS1.out.ok hc1).1
 have NI := Aside0.mk (RS1.out.ok hc1).2.1
 have E1 := Aside0.mk (RS1.out.ok hc1).2.2
 have HC1 := Aside0.mk hc1
 clear hc1
 have f4 : wd.cell? ⟨bb, 4, none⟩ = some (.string ⟨B.acl.toArray⟩) := by rw [cell_of_heap QB.out]; rfl
 go_wp2_with fail
 refine (Acl.parse_any B.acl wd HX.out).mono ?_
 rintro e we ⟨hb, rv, rfl, hrules⟩
 have hz0 : (Acl.parseOf B.acl).2 = 0 := OK.out.acl
 rw [hz0]
 clear hz0 f4
 obtain ⟨RA, rc, rfl, hrc, hC⟩ := Kd.R_reads hrules
 have HRC := Aside0.mk (show (rulesB B).length ≤ rc from hrc)
 have HC := Aside0.mk (show Kd.C PA.k96 we RA (rulesB B).length (rulesB B) from hC)
 have hrl : (Acl.parseOf B.acl).1.length = (rulesB B).length := rfl
 rw [hrl]
 clear hrl hrc hC hrules
 have BW := Aside0.mk (below_step BW.out hb)
 have SRC := Aside0.mk (SRC.out.later hb)
 have HX := Aside0.mk (HX.out.below hb)
 have QB := Aside0.mk (roomN QB.out hb)
 have PS1 := Aside0.mk (PsAt.below PS1.out hb)
 have Qn1 := Aside0.mk (roomN Qn1.out hb)
 clear hb
 have lb := Aside0.mk (run_loadAtK Tryz.prog we 25 5 Tryz.isAgg25 Tryz.sizeOf25 bb 0 (bookCells B A1 c1 A2 c2) rfl (cells_of_heap QB.out))
 have CO := Aside0.mk (counts_any B OK.out x A1 c1 A2 c2 we SRC.out)
 rw [← HXX.out] at lb CO
 go_wp2_with ((with_reducible refine at_load 25 (.tmp 2) ?_); refine wpList_loadK rfl 25 (.tmp 2) rfl _ rfl _ lb.out ?_)
 refine CO.out.mono ?_
 rintro e wf ⟨kO, is1, rfl, hb, hown⟩
 have OWN := Aside0.mk hown
 have KO := Aside0.mk (show kO = m1.key ∧ decide (m1.key = key0) = !is1 by
  have h1 := ofV_key OK.out x
  rw [← E1.out] at h1
  cases hq : ownD B x with
  | some d =>
   rw [hq] at h1 hown
   exact ⟨hown.2.trans h1.1.symm, by rw [hown.1, h1.1, decide_eq_false h1.2]; rfl⟩
  | none =>
   rw [hq] at h1 hown
   exact ⟨hown.2.trans h1.symm, by rw [hown.1, h1]; rfl⟩)
 have HC := Aside0.mk (Kd.C_below HC.out hb)
 clear lb CO hown
 have BW := Aside0.mk (below_step BW.out hb)
 have SRC := Aside0.mk (SRC.out.later hb)
 have HX := Aside0.mk (HX.out.below hb)
 have QB := Aside0.mk (roomN QB.out hb)
 have PS1 := Aside0.mk (PsAt.below PS1.out hb)
 have Qn1 := Aside0.mk (roomN Qn1.out hb)
 clear hb
 obtain ⟨ko, hko⟩ : ∃ ko, ko = wf.heap.size := ⟨_, rfl⟩
 obtain ⟨wg, hwg⟩ : ∃ wg, wg = wf.alloc (.cells (encK kO).toArray 28) := ⟨_, rfl⟩
 have hbb : Below wf.heap.size wf wg := by rw [hwg]; exact (Below.refl _ wf).alloc (Nat.le_refl _) _
 have Qko := Aside0.mk (show wg.heap[ko]? = some (.cells (encK kO).toArray 28 (0, 0)) by rw [hwg, hko]; exact heap_alloc_new wf _)
 have st := Aside0.mk (fun (C : Array Value) (hc : C.size = 32) => run_storeNew Tryz.prog wf 28 32 (by kernel_rfl) C (encK kO).toArray hc (by simpa using encK_len _) (key_one _))
 obtain ⟨Mko, hMko⟩ : ∃ Mko, Mko = (encK kO).toArray := ⟨_, rfl⟩
 have HMko := Aside0.mk hMko
 rw [← hMko] at hwg st ⊢
 have BW := Aside0.mk (below_step BW.out hbb)
 have SRC := Aside0.mk (SRC.out.later hbb)
 have HX := Aside0.mk (HX.out.below hbb)
 have QB := Aside0.mk (roomN QB.out hbb)
 have PS1 := Aside0.mk (PsAt.below PS1.out hbb)
 have Qn1 := Aside0.mk (roomN Qn1.out hbb)
 have HC := Aside0.mk (Kd.C_below HC.out hbb)
 clear hMko hbb
 go_upto_region 8 with ((with_reducible refine at_store 28 (.tmp 9) (.tmp 42) ?_); refine wpList_storeK rfl 28 (.tmp 9) (.tmp 42) rfl rfl _ _ rfl rfl _ (st.out _ rfl) ?_)
 rw [← hwg, ← hko]
 clear hwg hko st
 have LK1 := Aside0.mk (run_loadAtK Tryz.prog wg 28 32 Tryz.isAgg28 Tryz.sizeOf28 n1 3 (encK m1.key) (encK_len _) (fun j v hj => by rw [cell_of_heap Qn1.out]; exact mapK m1 PA1 pc1 j v hj))
 have LK2 := Aside0.mk (run_loadAtK Tryz.prog wg 28 32 Tryz.isAgg28 Tryz.sizeOf28 ko 0 (encK m1.key) (encK_len _) (fun j v hj => by rw [Nat.zero_add, cell_of_heap Qko.out, KO.out.1]; exact hj))
 have BZ := Aside0.mk (build28z wg)
 have hne1 := neqK m1.key key0
 have hne2 := neqK m1.key m1.key
 have hgd1 := fun op a b w => guardK op a b m1.key key0 w
 have hgd2 := fun op a b w => guardK op a b m1.key m1.key w
 have hkz := KO.out.2
 go_upto_region 10 with (first | ((with_reducible refine at_load 28 (.tmp 48) ?_); refine wpList_loadW (by rfl) 28 (.tmp 48) rfl _ rfl _ LK1.out ?_) | ((with_reducible refine at_load 28 (.tmp 55) ?_); refine wpList_loadW (by rfl) 28 (.tmp 55) rfl _ rfl _ LK1.out ?_) | ((with_reducible refine at_load 28 (.tmp 9) ?_); refine wpList_loadW (by rfl) 28 (.tmp 9) rfl _ rfl _ LK2.out ?_) | ((with_reducible refine at_build 28 #[] ?_); refine wpList_valueW (by rfl) (.agg (encK key0).toArray) wg (exec_build 28 _ _ rfl _ #[] (by simp) _ BZ.out) ?_))
 clear hne1 hne2 hgd1 hgd2 hkz LK1 LK2 BZ
 go_upto_region 12 with fail
 go_loopg [11, 12] 8 (fun kx s11 s12 wr => ∃ (kk at_ : Nat), s12 = .int .i64 ((kk : Int) + 1) ∧ s11 = .int .i64 at_ ∧ kk + kx = 8 ∧ Aside0 (at_ = ((nodesTo kk).filterMap (atP m1.peers)).length) ∧ Aside0 (Below wg.heap.size wg wr))
 case atStart => exact ⟨0, 0, rfl, rfl, rfl, ⟨rfl⟩, ⟨Below.refl _ _⟩⟩
 case round =>
  obtain ⟨kk, at_, rfl, rfl, hkk, HAT, HW⟩ := hrel
  by_cases hlt : kk < 8
  case neg =>
   have hltz : ¬ ((kk : Int) + 1 ≤ 8) := by omega
   have hltd : decide ((kk : Int) + 1 ≤ 8) = false := decide_eq_false hltz
   have hk8 : kk = 8 := by omega
   have HEND := Aside0.mk (show at_ = m1.peers.length by
    rw [HAT.out, hk8, read_all (by rw [E1.out]; exact okM_ofB OK.out NI.out)])
   have k36 : wr.cell? ⟨n1, 36, none⟩ = some (.slice PA1 m1.peers.length pc1) := by rw [cell_of_heap (roomN Qn1.out HW.out)]; exact map36 m1 PA1 pc1
   have hend := HEND.out
   clear hkk hlt hk8
   go_wp2_with fail
   go_ret
   exact ⟨by simp, below_step BW.out HW.out⟩
  have hltz : (kk : Int) + 1 ≤ 8 := by omega
  have hltd : decide ((kk : Int) + 1 ≤ 8) = true := decide_eq_true hltz
  have HKK := Aside0.mk (And.intro hkk hlt)
  obtain ⟨n', hn'⟩ : ∃ n' : Int, n' = (kk : Int) + 1 := ⟨_, rfl⟩
  have HN' := Aside0.mk hn'
  have lb := Aside0.mk (run_loadAtK Tryz.prog wr 25 5 Tryz.isAgg25 Tryz.sizeOf25 bb 0 (bookCells B A1 c1 A2 c2) rfl (cells_of_heap (roomN QB.out HW.out)))
  have CO := Aside0.mk (counts_any B OK.out ((kk : Int) + 1) A1 c1 A2 c2 wr (SRC.out.later HW.out))
  rw [← HXX.out] at lb CO
  clear hkk hlt hn'
  go_wp2_with ((with_reducible refine at_load 25 (.tmp 2) ?_); refine wpList_loadK rfl 25 (.tmp 2) rfl _ rfl _ lb.out ?_)
  refine CO.out.mono ?_
  rintro e w3 ⟨k2, is2, rfl, hb, hown⟩
  have OWN2 := Aside0.mk hown
  have HW3 := Aside0.mk (below_step HW.out hb)
  clear lb CO hown hb hltz hltd
  obtain ⟨kb, hkb⟩ : ∃ kb, kb = w3.heap.size := ⟨_, rfl⟩
  obtain ⟨w4, hw4⟩ : ∃ w4, w4 = w3.alloc (.cells (encK k2).toArray 28) := ⟨_, rfl⟩
  have hbb : Below w3.heap.size w3 w4 := by rw [hw4]; exact (Below.refl _ w3).alloc (Nat.le_refl _) _
  have Qkb := Aside0.mk (show w4.heap[kb]? = some (.cells (encK k2).toArray 28 (0, 0)) by rw [hw4, hkb]; exact heap_alloc_new w3 _)
  have st := Aside0.mk (fun (C : Array Value) (hc : C.size = 32) => run_storeNew Tryz.prog w3 28 32 (by kernel_rfl) C (encK k2).toArray hc (by simpa using encK_len _) (key_one _))
  obtain ⟨Mkb, hMkb⟩ : ∃ Mkb, Mkb = (encK k2).toArray := ⟨_, rfl⟩
  have HMkb := Aside0.mk hMkb
  rw [← hMkb] at hw4 st ⊢
  have HW3 := Aside0.mk (below_step HW3.out hbb)
  clear hMkb hbb
  go_upto_region 15 with ((with_reducible refine at_store 28 (.tmp 13) (.tmp 68) ?_); refine wpList_storeK rfl 28 (.tmp 13) (.tmp 68) rfl rfl _ _ rfl rfl _ (st.out _ rfl) ?_)
  rw [← hw4, ← hkb]
  clear hw4 hkb st
  have HCr := Aside0.mk (Kd.C_below HC.out HW3.out)
  go_wp2_with fail
  refine (spans_any B ((kk : Int) + 1) x RA rc w4 HRC.out HCr.out).mono ?_
  rintro e w5 ⟨U1, u1, rfl, hsp1, hb⟩
  have HW5 := Aside0.mk (below_step HW3.out hb)
  have QK := Aside0.mk (roomN Qkb.out hb)
  have SP1 := Aside0.mk hsp1
  clear hb hsp1
  go_wp2_with fail
  refine (spans_any B x ((kk : Int) + 1) RA rc w5 HRC.out (Kd.C_below HC.out HW5.out)).mono ?_
  rintro e w6 ⟨U2, u2, rfl, hsp2, hb⟩
  have HWR := Aside0.mk (below_step HW5.out hb)
  have QK := Aside0.mk (roomN QK.out hb)
  have SP1 := Aside0.mk (SpAt.below SP1.out hb)
  have SP2 := Aside0.mk hsp2
  clear hb hsp2 HCr
  have n1' : (spB B ((kk : Int) + 1) x).length ≤ 66 := spB_len ..
  have n2' : (spB B x ((kk : Int) + 1)).length ≤ 66 := spB_len ..
  obtain ⟨L1, hL1⟩ : ∃ L1, L1 = (spB B ((kk : Int) + 1) x).length := ⟨_, rfl⟩
  obtain ⟨L2, hL2⟩ : ∃ L2, L2 = (spB B x ((kk : Int) + 1)).length := ⟨_, rfl⟩
  rw [← hL1] at n1' ⊢
  rw [← hL2] at n2' ⊢
  have HL := Aside0.mk (And.intro hL1 hL2)
  have hw64 : wrap64 ((L1 : Int) + (L2 : Int)) = (L1 : Int) + (L2 : Int) := by unfold wrap64; omega
  have HLL := Aside0.mk (And.intro n1' n2')
  clear hL1 hL2 n1' n2'
  cases is1 with
  | false =>
   go_wp2_with fail
   go_roundg (8 - (kk + 1))
   case measure => have := HKK.out; omega
   case rel => exact ⟨kk + 1, at_, by have h1 := HKK.out; have h3 : wrap64 ((kk : Int) + 1 + 1) = ((kk + 1 : Nat) : Int) + 1 := (by unfold wrap64; omega); rw [h3], rfl, by have := HKK.out; omega, ⟨by rw [HAT.out, read_step_none (by rw [E1.out]; exact just_skip (.inl (by have := OWN.out; cases hq : ownD B x with | none => rfl | some d => rw [hq] at this; cases this.1)))]⟩, HWR⟩
  | true =>
   cases is2 with
   | false =>
    go_wp2_with fail
    go_roundg (8 - (kk + 1))
    case measure => have := HKK.out; omega
    case rel => exact ⟨kk + 1, at_, by have h1 := HKK.out; have h3 : wrap64 ((kk : Int) + 1 + 1) = ((kk + 1 : Nat) : Int) + 1 := (by unfold wrap64; omega); rw [h3], rfl, by have := HKK.out; omega, ⟨by rw [HAT.out, read_step_none (by rw [E1.out]; exact just_skip (.inr (.inl (by have := OWN2.out; cases hq : ownD B ((kk : Int) + 1) with | none => rfl | some d => rw [hq] at this; cases this.1))))]⟩, HWR⟩
   | true =>
    by_cases hnx : (kk : Int) + 1 = x
    case pos =>
     have hnb : ((kk : Int) + 1 == x) = true := by simpa using hnx
     have HNX := Aside0.mk hnx
     clear hnx
     go_wp2_with fail
     go_roundg (8 - (kk + 1))
     case measure => have := HKK.out; omega
     case rel => exact ⟨kk + 1, at_, by have h1 := HKK.out; have h3 : wrap64 ((kk : Int) + 1 + 1) = ((kk + 1 : Nat) : Int) + 1 := (by unfold wrap64; omega); rw [h3], rfl, by have := HKK.out; omega, ⟨by rw [HAT.out, read_step_none (by rw [E1.out]; exact just_skip (.inr (.inr (.inl HNX.out))))]⟩, HWR⟩
    have hnb : ((kk : Int) + 1 == x) = false := by simpa using hnx
    have HNX := Aside0.mk hnx
    clear hnx
    by_cases h0 : (L1 : Int) + (L2 : Int) = 0
    case pos =>
     have h0b : ((L1 : Int) + (L2 : Int) == 0) = true := by simpa using h0
     have H0 := Aside0.mk (show (spB B ((kk : Int) + 1) x).length + (spB B x ((kk : Int) + 1)).length = 0 by rw [← HL.out.1, ← HL.out.2]; omega)
     clear h0
     go_wp2_with fail
     go_roundg (8 - (kk + 1))
     case measure => have := HKK.out; omega
     case rel => exact ⟨kk + 1, at_, by have h1 := HKK.out; have h3 : wrap64 ((kk : Int) + 1 + 1) = ((kk + 1 : Nat) : Int) + 1 := (by unfold wrap64; omega); rw [h3], rfl, by have := HKK.out; omega, ⟨by rw [HAT.out, read_step_none (by rw [E1.out]; exact just_skip (.inr (.inr (.inr H0.out))))]⟩, HWR⟩
    have h0b : ((L1 : Int) + (L2 : Int) == 0) = false := by simpa using h0
    obtain ⟨d, hd⟩ : ∃ d, ownD B x = some d := by
     cases hq : ownD B x with
     | some d => exact ⟨d, rfl⟩
     | none => have := OWN.out; rw [hq] at this; cases this.1
    obtain ⟨d2, hd2⟩ : ∃ d2, ownD B ((kk : Int) + 1) = some d2 := by
     cases hq : ownD B ((kk : Int) + 1) with
     | some d => exact ⟨d, rfl⟩
     | none => have := OWN2.out; rw [hq] at this; cases this.1
    have hk2 : k2 = d2.key := by have := OWN2.out; rw [hd2] at this; exact this.2
    have TK := Aside0.mk (show atP m1.peers ((kk : Int) + 1) = some ⟨(kk : Int) + 1, d2.key, d2.exp, spB B ((kk : Int) + 1) x, spB B x ((kk : Int) + 1)⟩ by
     rw [E1.out]
     exact just_take hd hd2 HNX.out (by rw [← HL.out.1, ← HL.out.2]; omega))
    have hat : m1.peers[at_]? = some ⟨(kk : Int) + 1, d2.key, d2.exp, spB B ((kk : Int) + 1) x, spB B x ((kk : Int) + 1)⟩ := by
     have h := read_at HKK.out.2 TK.out
     rw [read_all (by rw [E1.out]; exact okM_ofB OK.out NI.out), ← HAT.out] at h
     exact h
    have hatl : (at_ : Int) < (m1.peers.length : Int) := by have := (List.getElem?_eq_some_iff.1 hat).1; omega
    have hatd : decide ((m1.peers.length : Int) ≤ (at_ : Int)) = false := decide_eq_false (by omega)
    have hatn : ¬ (m1.peers.length : Int) ≤ (at_ : Int) := by omega
    obtain ⟨ga, oa, P1, e1, P2, e2, hA, hin, hld⟩ := PS1.out.load hat
    have L0 := Aside0.mk (hld w6 HWR.out)
    have k36 : w6.cell? ⟨n1, 36, none⟩ = some (.slice PA1 m1.peers.length pc1) := by rw [cell_of_heap (roomN Qn1.out HWR.out)]; exact map36 m1 PA1 pc1
    subst hA
    have HINP := Aside0.mk hin
    have st := Aside0.mk (fun (C : Array Value) (hc : C.size = 36) => run_storeNew Tryz.prog w6 48 36 (by kernel_rfl) C (peerCells ⟨(kk : Int) + 1, d2.key, d2.exp, spB B ((kk : Int) + 1) x, spB B x ((kk : Int) + 1)⟩ P1 e1 P2 e2).toArray hc (by simpa using peerCells_len _ P1 e1 P2 e2) (peer_one _ _ _ _ _))
    obtain ⟨pb, hpb⟩ : ∃ pb, pb = w6.heap.size := ⟨_, rfl⟩
    obtain ⟨w7, hw7⟩ : ∃ w7, w7 = w6.alloc (.cells (peerCells ⟨(kk : Int) + 1, d2.key, d2.exp, spB B ((kk : Int) + 1) x, spB B x ((kk : Int) + 1)⟩ P1 e1 P2 e2).toArray 48) := ⟨_, rfl⟩
    have b7 : Below w6.heap.size w6 w7 := by rw [hw7]; exact (Below.refl _ w6).alloc (Nat.le_refl _) _
    have QP := Aside0.mk (show w7.heap[pb]? = some (.cells (peerCells ⟨(kk : Int) + 1, d2.key, d2.exp, spB B ((kk : Int) + 1) x, spB B x ((kk : Int) + 1)⟩ P1 e1 P2 e2).toArray 48 (0, 0)) by rw [hw7, hpb]; exact heap_alloc_new w6 _)
    have HW7 := Aside0.mk (below_step HWR.out b7)
    have p34 := Aside0.mk (fun (W : World) (hb : Below w7.heap.size w7 W) => run_load1 (P := Tryz.prog) 45 Tryz.isAgg45 (show W.cell? ⟨pb, 34, none⟩ = some (.slice P1 L1 e1) by rw [cell_of_heap (roomN QP.out hb), HL.out.1]; exact peer34 _ P1 e1 P2 e2))
    have p35 := Aside0.mk (fun (W : World) (hb : Below w7.heap.size w7 W) => run_load1 (P := Tryz.prog) 45 Tryz.isAgg45 (show W.cell? ⟨pb, 35, none⟩ = some (.slice P2 L2 e2) by rw [cell_of_heap (roomN QP.out hb), HL.out.2]; exact peer35 _ P1 e1 P2 e2))
    have p0 : w7.cell? ⟨pb, 0, none⟩ = some (.int .i64 ((kk : Int) + 1)) := by rw [cell_of_heap QP.out]; rfl
    have LK1 := Aside0.mk (run_loadAtK Tryz.prog w7 28 32 Tryz.isAgg28 Tryz.sizeOf28 pb 1 (encK d2.key) (encK_len _) (fun j v hj => by rw [cell_of_heap QP.out]; exact peerK _ P1 e1 P2 e2 j v hj))
    have LK2 := Aside0.mk (run_loadAtK Tryz.prog w7 28 32 Tryz.isAgg28 Tryz.sizeOf28 kb 0 (encK d2.key) (encK_len _) (fun j v hj => by rw [Nat.zero_add, cell_of_heap (roomN QK.out b7), hk2]; exact hj))
    have S1 := Aside0.mk (sameSpans24 (spB B ((kk : Int) + 1) x) (spB B ((kk : Int) + 1) x) P1 U1 e1 u1 w7 (hin.inn.below (below_step HWR.out b7)) (SP1.out.below b7))
    have S2 := Aside0.mk (fun (W : World) (hb : Below w7.heap.size w7 W) => sameSpans24 (spB B x ((kk : Int) + 1)) (spB B x ((kk : Int) + 1)) P2 U2 e2 u2 W ((hin.out.below (below_step HWR.out b7)).below hb) ((SP2.out.below b7).below hb))
    rw [decide_eq_true rfl, ← HL.out.1] at S1
    rw [decide_eq_true rfl, ← HL.out.2] at S2
    obtain ⟨PX, hPX⟩ : ∃ PX, PX = (peerCells ⟨(kk : Int) + 1, d2.key, d2.exp, spB B ((kk : Int) + 1) x, spB B x ((kk : Int) + 1)⟩ P1 e1 P2 e2).toArray := ⟨_, rfl⟩
    rw [← hPX] at L0 st hw7
    have HD2 := Aside0.mk hk2
    clear hPX b7 hin hld hat hd hd2 hk2 h0
    go_upto_region 20 with (first | ((with_reducible refine at_load 48 (.tmp 105) ?_); refine wpList_loadK rfl 48 (.tmp 105) rfl _ rfl _ L0.out ?_) | ((with_reducible refine at_store 48 (.tmp 17) (.tmp 106) ?_); refine wpList_storeK rfl 48 (.tmp 17) (.tmp 106) rfl rfl _ _ rfl rfl _ (st.out _ rfl) ?_))
    rw [← hw7, ← hpb]
    clear hw7 hpb L0 st hatl hatd hatn k36 hw64 h0b hnb
    have hne2 := neqK d2.key d2.key
    have hgd2 := fun op a b w => guardK op a b d2.key d2.key w
    go_wp2_with (first | ((with_reducible refine at_load 28 (.tmp 112) ?_); refine wpList_loadW (by rfl) 28 (.tmp 112) rfl _ rfl _ LK1.out ?_) | ((with_reducible refine at_load 28 (.tmp 13) ?_); refine wpList_loadW (by rfl) 28 (.tmp 13) rfl _ rfl _ LK2.out ?_) | ((with_reducible refine at_load 45 (.tmp 118) ?_); refine wpList_loadW (by rfl) 45 (.tmp 118) rfl _ rfl _ (p34.out w7 (Below.refl _ _)) ?_))
    refine S1.out.mono ?_
    rintro e w8 ⟨rfl, hb⟩
    have HB8 := Aside0.mk hb
    have p35' := Aside0.mk (p35.out w8 hb)
    clear hb hne2 hgd2 p0
    go_wp2_with ((with_reducible refine at_load 45 (.tmp 125) ?_); refine wpList_loadW (by rfl) 45 (.tmp 125) rfl _ rfl _ p35'.out ?_)
    refine (S2.out w8 HB8.out).mono ?_
    rintro e w9 ⟨rfl, hb⟩
    have HW9 := Aside0.mk (below_step HW7.out (below_step HB8.out hb))
    clear hb
    go_wp2_with fail
    go_roundg (8 - (kk + 1))
    case measure => have := HKK.out; omega
    case rel => exact ⟨kk + 1, at_ + 1, by have h1 := HKK.out; have h3 : wrap64 ((kk : Int) + 1 + 1) = ((kk + 1 : Nat) : Int) + 1 := (by unfold wrap64; omega); rw [h3], by have h1 := HKK.out; have h2 := HAT.out; have h4 : at_ ≤ kk := (by rw [h2]; exact read_len kk); have h3 : wrap64 ((at_ : Int) + 1) = ((at_ + 1 : Nat) : Int) := (by unfold wrap64; omega); rw [h3], by have := HKK.out; omega, ⟨by rw [read_step_some TK.out, List.length_append, ← HAT.out]; rfl⟩, HW9⟩
end Go.Proofs.YtmgbaefgcdglpaaGreatDoor.Net
end
section
namespace Go.Proofs.YtmgbaefgcdglpaaGreatDoor.PA
open Go.ChangeShapes Go.WideShapes Go.ChangeAt Go.RowKit Go.Deep
open Go.Proofs.YtmgbaefgcdglpaaGreatDoorW.PrintWords Go.Proofs.YtmgbaefgcdglpaaGreatDoorW.PrintLast Go.Proofs.YtmgbaefgcdglpaaGreatDoorW.PrintMore
set_option linter.unusedVariables false
set_option maxRecDepth 100000
instance : Inhabited Dir.AskV := ⟨⟨0, 0, 0, 0⟩⟩
theorem own : ownKnob Tryz.prog.godebug = none := by kernel_rfl
theorem cells3 : Tryz.prog.cellsOf 3 = 1 := by kernel_rfl
theorem cells4 : Tryz.prog.cellsOf 4 = 1 := by kernel_rfl
section
variable {H : Type} {enc : TypeId × Value → H} {W : World} {base : Nat} {sp : Nat → Bool} {held : Bool}
end
theorem iface_of_trod {W : World} {base fuel : Nat} {sp : Nat → Bool} {t : TypeId} {ms : Array (String × TypeId)} {cs : List Value} {nm : String} {d : DataW Unit} {p : List MemPlace} (ht : Tryz.prog.underlying t = some (.interface ms))
  (h : DataW.trod (fun _ => ()) Tryz.prog W base sp false fuel t cs = some (.iface nm d, p)) : ∃ tp v, cs = [.iface tp v] := by
 cases fuel with
 | zero => simp [DataW.trod] at h
 | succ n =>
  unfold DataW.trod at h
  rw [ht] at h
  split at h <;> simp_all
theorem laidW_of {W : World} (hs : W.ShapedOpen Tryz.prog) (h : laidMetH Tryz.prog Rows.netmapOfRow.laid W) : LaidW W := by
 rw [MakeChecks.laidMetH_plain _ _ _ (by kernel_rfl)] at h
 obtain ⟨ps, ⟨_, _, _, _, _, _, _, _, _, _, ⟨_, _, _, _, _, _, _, _, _, _, ⟨g3, t3, cs3, fu3, p3, q3, hg3, ht3, hv3, hd3, ⟨_, _, _, _, _, _, _, _, _, _, ⟨g5, t5, cs5, fu5, p5, q5, hg5, ht5, hv5, hd5, ⟨g6, t6, cs6, fu6, p6, q6, hg6, ht6, hv6, hd6, _⟩, _⟩, _⟩, _⟩, _⟩, _⟩, _, _⟩ := h
 have ty : ∀ (nm : String) (T g t : Nat), ((Tryz.prog.globalNamed nm).bind fun g => (Tryz.prog.globals[g]?).map (·.type)) = some T → Tryz.prog.globalNamed nm = some g → (Tryz.prog.globals[g]?).map (·.type) = some t → t = T := by
  intro nm T g t h1 h2 h3
  rw [h2, Option.bind_some, h3] at h1
  exact Option.some.inj h1
 obtain rfl := ty _ 274 _ _ (by kernel_rfl) hg3 ht3
 obtain rfl := ty _ 228 _ _ (by kernel_rfl) hg5 ht5
 obtain rfl := ty _ 228 _ _ (by kernel_rfl) hg6 ht6
 refine ⟨hs, ?_, ?_, ?_⟩
 ·have e : Rows.laid_internal_strconv_uint64pow10 = Lib.tabData (H := Unit) .u64 Lib.pow10Tab := by kernel_rfl
  rw [e] at hd3
  have := Lib.cells_of_tab Tryz.underlying274 (e := 216) (by kernel_rfl) (by kernel_rfl) (by kernel_rfl) hd3
  rw [hv3, ← this]
 ·obtain ⟨tp, v, e⟩ := iface_of_trod Tryz.underlying228 hd6
  refine ⟨tp, v, ?_⟩
  rw [hv6]
  congr 1
  rw [← e]
 ·obtain ⟨tp, v, e⟩ := iface_of_trod Tryz.underlying228 hd5
  refine ⟨tp, v, ?_⟩
  rw [hv5]
  congr 1
  rw [← e]
theorem returnsInHanded_both {H : Type} {enc : TypeId × Value → H} {a : Assume} {C : Checked} {os : Os} {f : FuncId} {fn : Func} {s : ChangeSpec} {conds : List PathCond} {apart fresh handsOn again : Bool} {X : World → Array Value → Prop}
  (hX : ∀ (w w' : World) (args : Array Value), w.heap = w'.heap → X w args → X w' args)
  (own : ownKnob C.prog.godebug = none) (started : os.Started) (noInit : C.prog.inits.idxOf? f = none) (hfn : C.prog.funcs[f]? = some fn)
  (witness : ∃ (w : World) (tape : Tape) (i : Input), w.os = os ∧ (w.forCall tape i).Shaped C.prog ∧ i.vars = [] ∧ Input.okWide C.prog (w.forCall tape i) .any w.heap.size f i ∧
   ((s.pre enc C.prog fn conds apart (w.forCall tape i).memory i.args ∧ X (w.forCall tape i).memory i.args) ∧ sizedMet enc C.prog fn (OpenSpec.ofChange s) apart (w.forCall tape i).memory i.args) ∧ a.holds C.prog (lone (Frame.enter C.prog f i.args .normal) [] (w.forCall tape i)))
  (contract : ∀ (W : World) (base : Nat) (args : Array Value) (ds gs : List (DataW H)) (before : List MemPlace),
   (∀ (j : Nat) t v, fn.params[j]? = some t → args[j]? = some v → Value.okWide C.prog W .any base t v) →
   DataW.Whole enc C.prog fn.params.toList s.vars apart W args.toList ds gs before →
   (DataW.weightsEach C.prog (fn.params.toList ++ s.plain.varTypes C.prog) (ds ++ gs)).all (· ≤ reachBytes) = true → X W args →
   W.ShapedOpen C.prog →
   Calls C.prog f args W fun e W' => ∃ v, e = .returned v ∧ s.post enc C.prog fn apart fresh handsOn again W args v W') :
  ReturnsInHanded a C os f .any (fun w args => (s.pre enc C.prog fn conds apart w args ∧ X w args) ∧ sizedMet enc C.prog fn (OpenSpec.ofChange s) apart w args) (s.post enc C.prog fn apart fresh handsOn again) := by
 refine returnsInHanded_of_calls own started noInit witness ?_
 intro w tape i _ hsh _ hok hpre hholds
 obtain ⟨_, _, _, fn', hfn', _, _, _, _, hval⟩ := hok
 have e : fn' = fn := Option.some.inj (hfn'.symm.trans hfn)
 subst e
 obtain ⟨⟨⟨ds, gs, before, hw, hc⟩, hx⟩, hz⟩ := hpre
 have hw' := DataW.Whole.of_heap (w' := w.forCall tape i) (by rfl) hw
 refine (contract (w.forCall tape i) w.heap.size i.args ds gs before hval hw' (hz.weights hw) (hX _ _ _ (by rfl) hx) hsh).mono fun e W' ⟨v, he, hp⟩ => ?_
 subst he
 exact ChangeSpec.post_blind hp
end Go.Proofs.YtmgbaefgcdglpaaGreatDoor.PA
end
section
namespace Go.Proofs.YtmgbaefgcdglpaaGreatDoor.PA
open Go.ChangeShapes Go.WideShapes Go.ChangeAt Go.RowKit Go.Deep
open Go.Proofs.YtmgbaefgcdglpaaGreatDoorW.PrintWords Go.Proofs.YtmgbaefgcdglpaaGreatDoorW.PrintLast Go.Proofs.YtmgbaefgcdglpaaGreatDoorW.PrintMore
set_option linter.unusedVariables false
set_option maxRecDepth 100000
theorem cells34 : Tryz.prog.cellsOf 28 = 32 := by kernel_rfl
theorem cells5 : Tryz.prog.cellsOf 5 = 1 := by kernel_rfl
theorem cells46 : Tryz.prog.cellsOf 85 = 35 := by kernel_rfl
theorem cells43 : Tryz.prog.cellsOf 25 = 5 := by kernel_rfl
theorem cells9 : Tryz.prog.cellsOf 9 = 1 := by kernel_rfl
theorem cells40 : Tryz.prog.cellsOf 22 = 1 := by kernel_rfl
theorem cells41 : Tryz.prog.cellsOf 23 = 1 := by kernel_rfl
theorem bytes46 : Tryz.prog.bytesOf 85 = 56 := by kernel_rfl
theorem bytes34 : Tryz.prog.bytesOf 28 = 32 := by kernel_rfl
instance : Inhabited Dir.Key := ⟨Dir.key0⟩
section
variable {H : Type} {enc : TypeId × Value → H} {W : World} {base : Nat} {sp : Nat → Bool} {held : Bool}
theorem list_one (cs : List Value) (i : Nat) {u : Value} (h : (cs.drop i).take 1 = [u]) : cs[i]? = some u := by
 have := congrArg (fun l => l[0]?) h
 simpa using this
theorem key_of_trod {n : Nat} {cs : List Value} {x : DataW H × List MemPlace} (h : DataW.trod enc Tryz.prog W base sp held n 28 cs = some x) : ∃ k : Dir.Key, cs = Dir.encK k := by
 obtain ⟨xs, m, _, _, hl, hxl, hf⟩ := DataW.trod_array Tryz.underlying28 h
 rw [cells34] at hl
 have hb : ∀ i, i < 32 → ∃ b : UInt8, cs[i]? = some (Dir.byteV b) := fun i hi => by
  have g := hf i hi
  rw [cells5, List.getElem?_eq_getElem (by rw [hxl]; exact hi)] at g
  obtain ⟨z, e, _, f⟩ := DataW.trod_int Tryz.underlying5 g
  have hz := bounds_u8 f
  have hu := list_one cs _ e
  rw [Nat.mul_one] at hu
  refine ⟨UInt8.ofNat z.toNat, ?_⟩
  rw [hu]
  unfold Dir.byteV
  rw [UInt8.toNat_ofNat_of_lt' (by show z.toNat < 256; omega), Int.toNat_of_nonneg hz.1]
 obtain ⟨f, hf2⟩ := choose_lt (α := UInt8) (n := 32) hb
 refine ⟨⟨(List.range 32).map f, by simp⟩, ?_⟩
 refine List.ext_getElem? fun i => ?_
 show cs[i]? = (((List.range 32).map f).map Dir.byteV)[i]?
 by_cases hi : i < 32
 ·rw [hf2 i hi]
  simp [hi]
 ·rw [List.getElem?_eq_none (by omega), List.getElem?_eq_none (by simp; omega)]
theorem dev_of_trod {n : Nat} {cs : List Value} {x : DataW H × List MemPlace} (h : DataW.trod enc Tryz.prog W base sp held n 85 cs = some x) : ∃ d : Dir.Dev, cs = Dir.encD d := by
 obtain ⟨xs, m, _, _, hl, hxl, hf⟩ := DataW.trod_struct Tryz.underlying85 h
 rw [cells46] at hl
 have hs : ∀ i, i < 4 → xs[i]? = some (xs.getD i (.nil, [])) := fun i hi => by
  rw [List.getElem?_eq_getElem (by rw [hxl]; exact hi), List.getD_eq_getElem?_getD, List.getElem?_eq_getElem (by rw [hxl]; exact hi)]; rfl
 have g0 : DataW.trod enc Tryz.prog W base sp held m 3 ((cs.drop 0).take (Tryz.prog.cellsOf 3)) = some (xs.getD 0 (.nil, [])) := (hf 0 _ rfl).trans (hs 0 (by omega))
 have g1 : DataW.trod enc Tryz.prog W base sp held m 28 ((cs.drop 1).take (Tryz.prog.cellsOf 28)) = some (xs.getD 1 (.nil, [])) := (hf 1 _ rfl).trans (hs 1 (by omega))
 have g2 : DataW.trod enc Tryz.prog W base sp held m 3 ((cs.drop 33).take (Tryz.prog.cellsOf 3)) = some (xs.getD 2 (.nil, [])) := (hf 2 _ rfl).trans (hs 2 (by omega))
 have g3 : DataW.trod enc Tryz.prog W base sp held m 4 ((cs.drop 34).take (Tryz.prog.cellsOf 4)) = some (xs.getD 3 (.nil, [])) := (hf 3 _ rfl).trans (hs 3 (by omega))
 rw [cells3] at g0 g2
 rw [cells4] at g3
 rw [cells34] at g1
 obtain ⟨z0, e0, _, _⟩ := DataW.trod_int Tryz.underlying3 g0
 obtain ⟨k, e1⟩ := key_of_trod g1
 obtain ⟨z2, e2, _, _⟩ := DataW.trod_int Tryz.underlying3 g2
 obtain ⟨b3, e3, _⟩ := DataW.trod_bool Tryz.underlying4 g3
 refine ⟨⟨z0, k, z2, b3⟩, ?_⟩
 have hc : cs = (cs.drop 0).take 1 ++ (cs.drop 1).take 32 ++ (cs.drop 33).take 1 ++ (cs.drop 34).take 1 := by
  refine List.ext_getElem? fun i => ?_
  simp only [List.drop_zero]
  rw [List.append_assoc, List.append_assoc]
  have hdrop : (cs.drop 34).take 1 = cs.drop 34 := List.take_of_length_le (by rw [List.length_drop]; omega)
  rw [hdrop, ← List.drop_drop (i := 1) (j := 33), List.take_append_drop, ← List.drop_drop (i := 32) (j := 1), List.take_append_drop, List.take_append_drop]
 rw [hc, e0, e1, e2, e3]
 show _ = Value.int .i64 z0 :: (Dir.encK k ++ [Value.int .i64 z2, Value.bool b3])
 simp
def RowOf {α : Type} (f : α → List Value) (Pr : α → Prop) (ts k by_ : Nat) (W : World) (cs : List Value) (x : DataW H × List MemPlace) : Prop :=
 ∃ (a : Option Addr) (len cap : Nat) (l : List α), cs = [.slice a len cap] ∧ l.length = len ∧ Dir.SrcAt W a len k (l.flatMap f) ∧ (∀ d ∈ l, Pr d) ∧ len ≤ maxLen ∧ ((∀ n ∈ x.1.weights Tryz.prog ts, n ≤ reachBytes) → len * by_ ≤ 140737488351232)
theorem rows_of_trod {α : Type} [Inhabited α] (f : α → List Value) (Pr : α → Prop) {ts te k by_ : Nat} (hk : ∀ x, (f x).length = k) (ht : Tryz.prog.underlying ts = some (.slice te)) (hc : Tryz.prog.cellsOf te = k) (hby : Tryz.prog.bytesOf te = by_)
  (hel : ∀ {n : Nat} {cs : List Value} {x : DataW H × List MemPlace}, DataW.trod enc Tryz.prog W base sp held n te cs = some x → ∃ d : α, cs = f d ∧ Pr d)
  {n : Nat} {cs : List Value} {x : DataW H × List MemPlace} (h : DataW.trod enc Tryz.prog W base sp held n ts cs = some x) :
  RowOf f Pr ts k by_ W cs x := by
 rcases DataW.trod_slice ht h with ⟨hcs, _⟩ | ⟨ad, len, cap, elems, rest, m, _, hcs, hxe, _, hlc, hcm, hle, hx, _, _⟩
 ·exact ⟨none, 0, 0, [], hcs, rfl, ⟨by simp, fun _ => rfl, fun a ha => (by cases ha)⟩, by simp, Nat.zero_le _, fun _ => by simp⟩
 ·obtain ⟨S, hS⟩ := choose_lt (α := α) (n := len) (p := fun i d => (∀ j u, (f d)[j]? = some u → W.cell? (ad.add (i * k + j)) = some u) ∧ Pr d) (fun i hi => by
   have hxi := hx i hi
   rw [List.getElem?_eq_getElem (by rw [hle]; exact hi), hc] at hxi
   obtain ⟨cs', h1, h2⟩ := Option.bind_eq_some_iff.1 hxi
   obtain ⟨d, rfl, hp⟩ := hel h2
   obtain ⟨_, _, hcell⟩ := World.cells?_some h1
   refine ⟨d, fun j u hj => ?_, hp⟩
   have hj5 : j < k := by rw [← hk d]; exact (List.getElem?_eq_some_iff.1 hj).1
   have := hcell j hj5
   rw [Deep.add_add] at this
   exact this.trans hj)
  have hlen : ((List.range len).map S).length = len := by simp
  have hflat : ∀ l : List α, (l.flatMap f).length = l.length * k := fun l => by
   induction l with
   | nil => simp
   | cons a l ih => rw [List.flatMap_cons, List.length_append, hk, ih, List.length_cons, Nat.add_mul]; omega
  refine ⟨some ad, len, cap, (List.range len).map S, hcs, hlen, ⟨by rw [hflat, hlen], fun e => (by cases e), fun a ha j u hj => ?_⟩, fun d hd => ?_, by omega, fun hw => ?_⟩
  ·cases ha
   have hjl : j < len * k := by have := (List.getElem?_eq_some_iff.1 hj).1; rwa [hflat, hlen] at this
   have hkp : 0 < k := by rcases Nat.eq_zero_or_pos k with e | e; (subst e; omega); exact e
   have hq : j / k < len := Nat.div_lt_of_lt_mul (by rw [Nat.mul_comm]; exact hjl)
   have hr : j % k < k := Nat.mod_lt _ hkp
   have e1 := (hS (j / k) hq).1 (j % k) ((f (S (j / k)))[j % k]'(by rw [hk]; exact hr)) (List.getElem?_eq_getElem _)
   have e2 : ((List.range len).map S)[j / k]? = some (S (j / k)) := by simp [hq]
   have e3 := Dir.flatMap_at f k hk _ (j / k) (S (j / k)) e2 (j % k) _ (List.getElem?_eq_getElem (by rw [hk]; exact hr))
   rw [Nat.div_add_mod' j k] at e1 e3
   rw [e1]
   rw [e3] at hj
   exact hj
  ·obtain ⟨i, hi, rfl⟩ := List.mem_map.1 hd
   exact (hS i (by simpa using hi)).2
  ·have h1 := hw ((elems.length + rest.length) * by_) (by rw [hxe]; simp [DataW.weights, ht, hby])
   have h2 : len * by_ ≤ (elems.length + rest.length) * by_ := Nat.mul_le_mul_right _ (by omega)
   exact Nat.le_trans h2 h1
theorem devs_of_trod {n : Nat} {cs : List Value} {x : DataW H × List MemPlace} (h : DataW.trod enc Tryz.prog W base sp held n 22 cs = some x) : RowOf Dir.encD (fun _ => True) 22 35 56 W cs x :=
 rows_of_trod (α := Dir.Dev) Dir.encD (fun _ => True) (by_ := 56) Dir.encD_len Tryz.underlying22 cells46 bytes46 (fun h => by obtain ⟨d, hd⟩ := dev_of_trod h; exact ⟨d, hd, trivial⟩) h
theorem keys_of_trod {n : Nat} {cs : List Value} {x : DataW H × List MemPlace} (h : DataW.trod enc Tryz.prog W base sp held n 23 cs = some x) : RowOf Dir.encK (fun _ => True) 23 32 32 W cs x :=
 rows_of_trod (α := Dir.Key) Dir.encK (fun _ => True) (by_ := 32) Dir.encK_len Tryz.underlying23 cells34 bytes34 (fun h => by obtain ⟨d, hd⟩ := key_of_trod h; exact ⟨d, hd, trivial⟩) h
theorem book_of_trod {n : Nat} {cs : List Value} {x : DataW H × List MemPlace} (h : DataW.trod enc Tryz.prog W base sp held n 25 cs = some x) (hw : ∀ n ∈ x.1.weights Tryz.prog 25, n ≤ reachBytes) :
  ∃ (B : Dir.Book) (A1 : Option Addr) (c1 : Nat) (A2 : Option Addr) (c2 : Nat), cs = Dir.bookCells B A1 c1 A2 c2 ∧ Dir.SrcB W B A1 A2 ∧ B.devs.length * 56 ≤ 140737488351232 ∧ B.spent.length * 32 ≤ 140737488351232 := by
 obtain ⟨xs, m, _, hxe, hl, hxl, hf⟩ := DataW.trod_struct Tryz.underlying25 h
 rw [cells43] at hl
 have hs : ∀ i, i < 5 → xs[i]? = some (xs.getD i (.nil, [])) := fun i hi => by
  rw [List.getElem?_eq_getElem (by rw [hxl]; exact hi), List.getD_eq_getElem?_getD, List.getElem?_eq_getElem (by rw [hxl]; exact hi)]; rfl
 have g0 : DataW.trod enc Tryz.prog W base sp held m 3 ((cs.drop 0).take (Tryz.prog.cellsOf 3)) = some (xs.getD 0 (.nil, [])) := (hf 0 _ rfl).trans (hs 0 (by omega))
 have g1 : DataW.trod enc Tryz.prog W base sp held m 3 ((cs.drop 1).take (Tryz.prog.cellsOf 3)) = some (xs.getD 1 (.nil, [])) := (hf 1 _ rfl).trans (hs 1 (by omega))
 have g2 : DataW.trod enc Tryz.prog W base sp held m 22 ((cs.drop 2).take (Tryz.prog.cellsOf 22)) = some (xs.getD 2 (.nil, [])) := (hf 2 _ rfl).trans (hs 2 (by omega))
 have g3 : DataW.trod enc Tryz.prog W base sp held m 23 ((cs.drop 3).take (Tryz.prog.cellsOf 23)) = some (xs.getD 3 (.nil, [])) := (hf 3 _ rfl).trans (hs 3 (by omega))
 have g4 : DataW.trod enc Tryz.prog W base sp held m 9 ((cs.drop 4).take (Tryz.prog.cellsOf 9)) = some (xs.getD 4 (.nil, [])) := (hf 4 _ rfl).trans (hs 4 (by omega))
 rw [cells3] at g0 g1
 rw [cells40] at g2
 rw [cells41] at g3
 rw [cells9] at g4
 obtain ⟨z0, e0, _, _⟩ := DataW.trod_int Tryz.underlying3 g0
 obtain ⟨z1, e1, _, _⟩ := DataW.trod_int Tryz.underlying3 g1
 obtain ⟨A1, n1, c1, l1, e2, hn1, hs1, _, hm1, hz1⟩ := devs_of_trod g2
 obtain ⟨A2, n2, c2, l2, e3, hn2, hs2, _, hm2, hz2⟩ := keys_of_trod g3
 obtain ⟨s4, e4, _, _⟩ := DataW.trod_string Tryz.underlying9 g4
 subst hn1
 subst hn2
 have hwe : ∀ i T, (([3, 3, 22, 23, 9] : List TypeId)[i]? = some T) → i < 5 → ∀ n ∈ (xs.getD i (.nil, [])).1.weights Tryz.prog T, n ≤ reachBytes := fun i T hT hi n hn => by
  refine hw n ?_
  have hmem := DataW.weights_mem_each (P := Tryz.prog) (ts := [3, 3, 22, 23, 9]) (ds := xs.map (·.1)) (j := i) hT (by rw [List.getElem?_map, hs i hi]; rfl) n hn
  rw [hxe]
  simp only [DataW.weights, Tryz.underlying25]
  exact hmem
 have f1 := hz1 (hwe 2 22 rfl (by omega))
 have f2 := hz2 (hwe 3 23 rfl (by omega))
 refine ⟨⟨z0, z1, l1, l2, s4.data.toList⟩, A1, c1, A2, c2, ?_, ⟨hs1, hs2, by show l1.length ≤ _; omega, by show l2.length ≤ _; omega⟩, f1, f2⟩
 match cs, hl with
 | [a, b, c, d, e], _ =>
  simp at e0 e1 e2 e3 e4
  subst e0 e1 e2 e3 e4
  rfl
end
end Go.Proofs.YtmgbaefgcdglpaaGreatDoor.PA
end
section
namespace Go.Proofs.YtmgbaefgcdglpaaGreatDoor.PA
open Go.ChangeShapes Go.WideShapes Go.ChangeAt Go.RowKit Go.Deep
open Go.Proofs.YtmgbaefgcdglpaaGreatDoorW.PrintWords Go.Proofs.YtmgbaefgcdglpaaGreatDoorW.PrintLast Go.Proofs.YtmgbaefgcdglpaaGreatDoorW.PrintMore
set_option linter.unusedVariables false
set_option maxRecDepth 100000
section
variable {H : Type} {enc : TypeId × Value → H} {W : World} {base : Nat} {sp : Nat → Bool} {held : Bool}
end
end Go.Proofs.YtmgbaefgcdglpaaGreatDoor.PA
end
section
namespace Go.Proofs.YtmgbaefgcdglpaaGreatDoor.PA
open Go.ChangeShapes Go.WideShapes Go.ChangeAt Go.RowKit Go.Deep
open Go.Proofs.YtmgbaefgcdglpaaGreatDoorW.PrintWords Go.Proofs.YtmgbaefgcdglpaaGreatDoorW.PrintLast Go.Proofs.YtmgbaefgcdglpaaGreatDoorW.PrintMore
set_option linter.unusedVariables false
set_option maxRecDepth 100000
theorem laidOut : laidOutB Tryz.prog = true := by kernel_rfl
instance : Inhabited Net.Peer := ⟨⟨0, Dir.key0, 0, [], []⟩⟩
instance : Inhabited S80 := ⟨⟨0, 0⟩⟩
section
variable {H : Type} {enc : TypeId × Value → H} {W : World} {base : Nat} {sp : Nat → Bool} {held : Bool}
end
end Go.Proofs.YtmgbaefgcdglpaaGreatDoor.PA
end
