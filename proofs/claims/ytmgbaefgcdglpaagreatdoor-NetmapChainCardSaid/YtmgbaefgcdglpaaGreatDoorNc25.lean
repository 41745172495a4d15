/- Of: what a node knows. What acl.Spans' spans are: rising, apart, within the ports; few; a port lies in one just if it is allowed. Spans of a book may be. Known: rows, books and devices built from parts; the sixteen books. -/
import Derived.Test.YtmgbaefgcdglpaaGreatDoorNc24
import Derived.Test.YtmgbaefgcdglpaaGreatDoorNc16
import Derived.Great.BuildSlice
section
namespace Go.Proofs.YtmgbaefgcdglpaaGreatDoor.Net
open Go Go.RowKit Go.Proofs Go.Proofs.YtmgbaefgcdglpaaGreatDoorW.PrintWords Go.Proofs.YtmgbaefgcdglpaaGreatDoorW.PrintLast Go.Proofs.YtmgbaefgcdglpaaGreatDoorW.PrintMore Go.Proofs.YtmgbaefgcdglpaaGreatDoor.Dir
set_option linter.unusedVariables false
set_option linter.unusedSimpArgs false
set_option maxHeartbeats 4000000 in
set_option maxRecDepth 100000 in
theorem of15 (B : Book) (n : Int) (A1 : Option Addr) (c1 : Nat) (A2 : Option Addr) (c2 : Nat) (w : World) (h : SrcB w B A1 A2) (hx : PA.LaidW w) :
  Calls Tryz.prog 15 #[.agg (bookCells B A1 c1 A2 c2).toArray, .int .i64 n] w fun e w' => OfEnd B n w.heap.size e w' ∧ Below w.heap.size w w' := by
 obtain ⟨b0, hb0⟩ : ∃ b0, b0 = w.heap.size := ⟨_, rfl⟩
 obtain ⟨W0, hW0⟩ : ∃ W0, W0 = (w.alloc (.cells (bookCells B A1 c1 A2 c2).toArray 25)).alloc (.cells zeroMap 31) := ⟨_, rfl⟩
 have hbw : Below w.heap.size w W0 := by rw [hW0]; exact ((Below.refl _ w).alloc (Nat.le_refl _) _).alloc (by simp) _
 have q1 : W0.heap[b0]? = some (.cells (bookCells B A1 c1 A2 c2).toArray 25 (0, 0)) := by rw [hW0, hb0, Below.heap_alloc _ _ _ (by simp)]; exact heap_alloc_new w _
 have q2 : W0.heap[b0 + 1]? = some (.cells (mapV 0 0 0 key0 0 (.slice none 0 0)).toArray 31 (0, 0)) := by rw [hW0, hb0, ← zeroMap_eq]; have := heap_alloc_new (w.alloc (.cells (bookCells B A1 c1 A2 c2).toArray 25)) (.cells zeroMap 31); rw [World.size_alloc] at this; exact this
 have hsz : W0.heap.size = b0 + 2 := by rw [hW0, hb0]; simp
 have HS := Aside0.mk h
 have HX := Aside0.mk hx
 have HQ := Aside0.mk (And.intro q1 q2)
 have HB0 := Aside0.mk hbw
 have HSZ := Aside0.mk (And.intro hsz hb0)
 have LB := Aside0.mk (run_loadAtK Tryz.prog W0 25 5 Tryz.isAgg25 Tryz.sizeOf25 b0 0 (bookCells B A1 c1 A2 c2) rfl (cells_of_heap q1))
 have HC := Aside0.mk (check_src B A1 c1 A2 c2 W0 (h.later hbw).devs (h.later hbw).spent h.few h.len (hx.below hbw))
 obtain ⟨X, hX⟩ : ∃ X, X = (bookCells B A1 c1 A2 c2).toArray := ⟨_, rfl⟩
 have HXX := Aside0.mk hX
 rw [← hX] at hW0 LB HC ⊢
 clear q1 q2 hbw h hx hX hsz
 go_enter Tryz.func15, Tryz.ntmps15
 go_upto_region 1 with fail
 change Code.wp _ _ _ _ ((w.alloc (.cells X 25)).alloc (.cells zeroMap 31))
 rw [← hW0, ← hb0]
 clear hW0 hb0
 go_wp2_with ((with_reducible refine at_load 25 (.tmp 2) ?_); refine wpList_loadK rfl 25 (.tmp 2) rfl _ rfl _ LB.out ?_)
 refine HC.out.mono ?_
 rintro r w1 ⟨he, hb1⟩
 have B1 := Aside0.mk hb1
 have R1 := Aside0.mk (roomN HQ.out.2 hb1)
 have BZ1 := Aside0.mk (build31z w1)
 have ST1 := Aside0.mk (store_full w1 31 37 (b0 + 1) Tryz.sizeOf31 _ (mapV 0 0 0 key0 0 (.slice none 0 0)) R1.out (mapV_len _ _ _ _ _ _) (mapV_len _ _ _ _ _ _) (mapV_one _ _ _ _ _ _ rfl))
 have HF1 := Aside0.mk (setRow_heap w1 (b0 + 1) _ (mapV 0 0 0 key0 0 (.slice none 0 0)).toArray 31 (0, 0) R1.out)
 have EX1 := Aside0.mk (show Below w.heap.size w (w1.setRow (b0 + 1) (mapV 0 0 0 key0 0 (.slice none 0 0)).toArray) from below_setRow (below_step HB0.out hb1) (by have := HSZ.out; omega) _)
 obtain ⟨Z, hZ⟩ : ∃ Z, Z = (mapV 0 0 0 key0 0 (.slice none 0 0)).toArray := ⟨_, rfl⟩
 have HZ := Aside0.mk (And.intro (show Z.size = 37 by rw [hZ]; simp [mapV_len]) hZ)
 rw [← hZ] at BZ1 ST1 HF1 EX1
 clear hb1 hZ
 rcases he with ⟨rfl, hok⟩ | ⟨rfl, hno⟩
 case inr =>
  have NO := Aside0.mk hno
  clear hno
  go_wp2_with (first | ((with_reducible refine at_build 31 #[] ?_); refine wpList_valueW (by rfl) (.agg Z) w1 (exec_build 31 _ _ rfl _ #[] (by simp) _ BZ1.out) ?_) | ((with_reducible refine at_store 31 (.tmp 4) (.tmp 18) ?_); refine wpList_storeK rfl 31 (.tmp 4) (.tmp 18) rfl rfl _ _ rfl rfl _ ST1.out ?_))
  try simp only [Exit.inBlock, Exit.then]
  refine bodyPost_ret (results_ct rfl _ _ (b0 + 1) 31 _ (0, 0) _ rfl HF1.out Tryz.underlying31 rfl (by rw [HZ.out.1]; kernel_rfl)) rfl ?_
  exact ⟨.inl ⟨NO.out, by rw [HZ.out.2]; rfl⟩, EX1.out⟩
 have OK := Aside0.mk hok
 clear hok BZ1 ST1 HF1 EX1 LB HC
 go_wp2_with fail
 refine (node49 n w1).mono ?_
 rintro r w2 ⟨rfl, hb2⟩
 obtain ⟨n2, hn2⟩ : ∃ n2, n2 = nodeIn n := ⟨_, rfl⟩
 rw [← hn2]
 have N2 := Aside0.mk hn2
 have B2 := Aside0.mk (below_step B1.out hb2)
 have R2 := Aside0.mk (roomN R1.out hb2)
 clear hb2 hn2 R1
 cases n2
 case false =>
  have BZ1 := Aside0.mk (build31z w2)
  have ST1 := Aside0.mk (store_full w2 31 37 (b0 + 1) Tryz.sizeOf31 _ (mapV 0 0 0 key0 0 (.slice none 0 0)) R2.out (mapV_len _ _ _ _ _ _) (mapV_len _ _ _ _ _ _) (mapV_one _ _ _ _ _ _ rfl))
  have HF1 := Aside0.mk (setRow_heap w2 (b0 + 1) _ (mapV 0 0 0 key0 0 (.slice none 0 0)).toArray 31 (0, 0) R2.out)
  have EX1 := Aside0.mk (show Below w.heap.size w (w2.setRow (b0 + 1) (mapV 0 0 0 key0 0 (.slice none 0 0)).toArray) from below_setRow (below_step HB0.out B2.out) (by have := HSZ.out; omega) _)
  rw [← HZ.out.2] at BZ1 ST1 HF1 EX1
  go_wp2_with (first | ((with_reducible refine at_build 31 #[] ?_); refine wpList_valueW (by rfl) (.agg Z) w2 (exec_build 31 _ _ rfl _ #[] (by simp) _ BZ1.out) ?_) | ((with_reducible refine at_store 31 (.tmp 4) (.tmp 23) ?_); refine wpList_storeK rfl 31 (.tmp 4) (.tmp 23) rfl rfl _ _ rfl rfl _ ST1.out ?_))
  try simp only [Exit.inBlock, Exit.then]
  refine bodyPost_ret (results_ct rfl _ _ (b0 + 1) 31 _ (0, 0) _ rfl HF1.out Tryz.underlying31 rfl (by rw [HZ.out.1]; kernel_rfl)) rfl ?_
  exact ⟨.inr (.inl ⟨OK.out, N2.out.symm, by rw [HZ.out.2]; rfl⟩), EX1.out⟩
 have FC := Aside0.mk (fun (W : World) (hb : W.heap[b0]? = some (.cells (bookCells B A1 c1 A2 c2).toArray 25 (0, 0))) => And.intro (show W.cell? ⟨b0, 0, none⟩ = some (.int .i64 B.ver) by rw [cell_of_heap hb]; rfl) (And.intro (show W.cell? ⟨b0, 1, none⟩ = some (.int .i64 B.clock) by rw [cell_of_heap hb]; rfl) (And.intro (show W.cell? ⟨b0, 2, none⟩ = some (.slice A1 B.devs.length c1) by rw [cell_of_heap hb]; rfl) (show W.cell? ⟨b0, 4, none⟩ = some (.string ⟨B.acl.toArray⟩) by rw [cell_of_heap hb]; rfl))))
 have QB2 := Aside0.mk (roomN HQ.out.1 B2.out)
 obtain ⟨k0, k1, -, -⟩ := FC.out w2 QB2.out
 have BM := Aside0.mk (build31 w2 B.ver B.clock n)
 obtain ⟨Y, hY⟩ : ∃ Y, Y = (mapV B.ver B.clock n key0 0 (.slice none 0 0)).toArray := ⟨_, rfl⟩
 have SN := Aside0.mk (fun (C : Array Value) (hc : C.size = 37) => run_storeNew Tryz.prog w2 31 37 (by kernel_rfl) C (mapV B.ver B.clock n key0 0 (.slice none 0 0)).toArray hc (by simpa using mapV_len _ _ _ _ _ _) (fun u hu => mapV_one _ _ _ _ _ _ rfl u (by simpa using hu)))
 obtain ⟨b6, hb6⟩ : ∃ b6, b6 = w2.heap.size := ⟨_, rfl⟩
 obtain ⟨w5, hw5⟩ : ∃ w5, w5 = w2.alloc (.cells Y 31) := ⟨_, rfl⟩
 have hb5 : Below w2.heap.size w2 w5 := by rw [hw5]; exact (Below.refl _ w2).alloc (Nat.le_refl _) _
 have B5 := Aside0.mk (below_step B2.out hb5)
 have QB5 := Aside0.mk (roomN QB2.out hb5)
 have R5 := Aside0.mk (roomN R2.out hb5)
 have QM5 := Aside0.mk (show w5.heap[b6]? = some (.cells (mapV B.ver B.clock n key0 0 (.slice none 0 0)).toArray 31 (0, 0)) by rw [hw5, hb6, hY]; exact heap_alloc_new w2 _)
 have S5 := Aside0.mk (show w5.heap.size = b6 + 1 ∧ b0 + 2 ≤ b6 by rw [hw5, hb6]; have := HSZ.out; have := B2.out.size; simp; omega)
 rw [← hY] at BM SN
 clear hb5 R2 hY
 go_upto_region 6 with (first | ((with_reducible refine at_build 31 #[(0, .tmp 25), (1, .tmp 27), (2, .tmp 28)] ?_); refine wpList_valueW (by rfl) (.agg Y) w2 (exec_build 31 _ _ rfl _ #[(0, .int .i64 B.ver), (1, .int .i64 B.clock), (2, .int .i64 n)] (by simp only [List.map_toArray, List.map_cons, List.map_nil]; rfl) _ BM.out) ?_) | ((with_reducible refine at_store 31 (.tmp 6) (.tmp 29) ?_); refine wpList_storeK rfl 31 (.tmp 6) (.tmp 29) rfl rfl _ _ rfl rfl _ (SN.out _ rfl) ?_))
 rw [← hw5, ← hb6]
 clear hw5 hb6 BM SN k0 k1
 obtain ⟨-, -, -, k4⟩ := FC.out w5 QB5.out
 go_wp2_with fail
 refine (Acl.parse_any B.acl w5 (HX.out.below (below_step HB0.out B5.out))).mono ?_
 rintro r w7 ⟨hb7, rv, rfl, hrules⟩
 have B7 := Aside0.mk (below_step B5.out hb7)
 have QB7 := Aside0.mk (roomN QB5.out hb7)
 have R7 := Aside0.mk (roomN R5.out hb7)
 have QM7 := Aside0.mk (roomN QM5.out hb7)
 obtain ⟨RA, rc, hrv, hrc⟩ : ∃ RA rc, rv = .slice RA (rulesB B).length rc ∧ (rulesB B).length ≤ rc := by
  obtain ⟨RA, rc, h1, h2, -⟩ := Kd.R_reads hrules
  exact ⟨RA, rc, h1, h2⟩
 have RU7 := Aside0.mk (show Kd.R PA.k96 96 w7 w5.heap.size (fun k => b6 < k ∧ k < w7.heap.size) rv (rulesB B) from Kd.R_mono (Kd.R_bound hrules) (fun k hk => ⟨by have := S5.out; omega, hk.2.2.1⟩))
 have HRC := Aside0.mk hrc
 have HRV := Aside0.mk hrv
 have S7 := Aside0.mk (show b6 + 1 ≤ w7.heap.size by have := S5.out; have := hb7.size; omega)
 clear hb7 hrules hrc hrv k4 QB5 R5 QM5
 obtain ⟨k0, k1, k2, -⟩ := FC.out w7 QB7.out
 go_upto_region 8 with fail
 clear k0 k1 k2
 go_loopg [39] B.devs.length (fun kx s39 wr => ∃ kk : Nat, s39 = .int .i64 kk ∧ kk + kx = B.devs.length ∧ Aside0 (OnOf B n w w7 b6 kk wr))
 case atStart => exact ⟨0, rfl, by omega, ⟨⟨below_step HB0.out B7.out, KeepBut.refl _ _ _, .slice none 0 0, QM7.out, Kd.R_nil _ _ _ _ _⟩⟩⟩
 case round =>
  obtain ⟨kk, rfl, hkk, ON⟩ := hrel
  have HLB := Aside0.mk (show wr.heap[b0]? = some (.cells (bookCells B A1 c1 A2 c2).toArray 25 (0, 0)) from (ON.out.kp.2 b0 (by have := S5.out; have := S7.out; omega) (by have := S5.out; omega) (by simp)).trans QB7.out)
  have HLR := Aside0.mk (show wr.heap[b0 + 1]? = some (.cells (mapV 0 0 0 key0 0 (.slice none 0 0)).toArray 31 (0, 0)) from (ON.out.kp.2 (b0 + 1) (by have := S5.out; have := S7.out; omega) (by have := S5.out; omega) (by simp)).trans R7.out)
  by_cases hlt : kk < B.devs.length
  case neg =>
   have hltz : ¬ (kk : Int) < (B.devs.length : Int) := by omega
   have HL := Aside0.mk (show B.devs.length ≤ kk by omega)
   have hall : B.devs.take kk = B.devs := List.take_of_length_le HL.out
   have hlo := ON.out.lo
   obtain ⟨v, hrow, hR⟩ := ON.out.row
   rw [hall] at hrow hR
   obtain ⟨K, hK⟩ : ∃ K, K = (kxOf B n B.devs).1 := ⟨_, rfl⟩
   obtain ⟨E, hE⟩ : ∃ E, E = (kxOf B n B.devs).2 := ⟨_, rfl⟩
   have he := of_end (wf_of_ok OK.out) (spB B) n
   rw [← hK, ← hE] at hrow he
   have c35 : wr.cell? ⟨b6, 35, none⟩ = some (.int .i64 E) := by rw [cell_of_heap hrow]; exact mapV35 _ _ _ _ _ _
   have hvone := (peerR_one hR).2
   have HB67 := Aside0.mk (show b6 < w7.heap.size by have := S7.out; omega)
   by_cases h0 : E = 0
   ·subst h0
    rw [if_pos rfl] at he
    have HEND := Aside0.mk he
    have hsw : (wr.setCell ⟨b6, 36, none⟩ (.slice none 0 0)).heap[b6]? = some (.cells (mapV B.ver B.clock n K 0 (.slice none 0 0)).toArray 31 (0, 0)) := by
     have := Go.heap_setCell_same wr b6 36 _ _ (.slice none 0 0) hrow
     rw [this]
     simp only [List.setIfInBounds_toArray, mapV_set36]
    have hres : (wr.setCell ⟨b6, 36, none⟩ (.slice none 0 0)).heap[b0 + 1]? = some (.cells (mapV 0 0 0 key0 0 (.slice none 0 0)).toArray 31 (0, 0)) := by rw [Below.heap_setCell _ _ _ _ (by have := S5.out; show b0 + 1 ≠ b6; omega)]; exact HLR.out
    have hloz : Below w.heap.size w (wr.setCell ⟨b6, 36, none⟩ (.slice none 0 0)) := hlo.setCell (by have := S5.out; have := HSZ.out; show w.heap.size ≤ b6; omega) _
    have ST0 := Aside0.mk (run_storeAt1 Tryz.prog wr 29 Tryz.sizeOf29 b6 36 (.slice none 0 0) rfl rfl _ (by rw [cell_of_heap hrow]; exact mapV36 _ _ _ _ _ _) (frozen_of_heap hrow))
    obtain ⟨wz, hwz⟩ : ∃ wz, wz = wr.setCell ⟨b6, 36, none⟩ (.slice none 0 0) := ⟨_, rfl⟩
    rw [← hwz] at hsw hres hloz ST0
    have LM := Aside0.mk (run_loadAtK Tryz.prog (wz) 31 37 Tryz.isAgg31 Tryz.sizeOf31 b6 0 (mapV B.ver B.clock n K 0 (.slice none 0 0)) (mapV_len _ _ _ _ _ _) (cells_of_heap hsw))
    have ST4 := Aside0.mk (store_full (wz) 31 37 (b0 + 1) Tryz.sizeOf31 _ (mapV B.ver B.clock n K 0 (.slice none 0 0)) hres (mapV_len _ _ _ _ _ _) (mapV_len _ _ _ _ _ _) (mapV_one _ _ _ _ _ _ rfl))
    have HF4 := Aside0.mk (setRow_heap (wz) (b0 + 1) _ (mapV B.ver B.clock n K 0 (.slice none 0 0)).toArray 31 (0, 0) hres)
    have HE4 := Aside0.mk (show Below w.heap.size w ((wz).setRow (b0 + 1) (mapV B.ver B.clock n K 0 (.slice none 0 0)).toArray) ∧ kPeer.R 48 ((wz).setRow (b0 + 1) (mapV B.ver B.clock n K 0 (.slice none 0 0)).toArray) w.heap.size (fun _ => True) (.slice none 0 0) [] from ⟨below_setRow hloz (by have := HSZ.out; omega) _, Kd.R_mono (Kd.R_lower (Kd.R_step (Kd.R_nil kPeer 48 wz w7.heap.size (fun k => w7.heap.size ≤ k)) (fun k hk _ => setRow_other (wz) (b0 + 1) k _ (by have : w7.heap.size ≤ k := hk; have := S5.out; have := S7.out; omega))) (by have := S7.out; have := S5.out; have := HSZ.out; omega)) (fun _ _ => trivial)⟩)
    obtain ⟨YY, hYY⟩ : ∃ YY, YY = (mapV B.ver B.clock n K 0 (.slice none 0 0)).toArray := ⟨_, rfl⟩
    have HYY := Aside0.mk (And.intro (show YY.size = 37 by rw [hYY]; simp [mapV_len]) hYY)
    rw [← hYY] at LM ST4 HF4 HE4
    clear hYY hwz hsw hres hloz hK hE he hrow hR hvone hlo hlt hkk hall
    go_wp2_with (first | ((with_reducible refine at_store 29 (.tmp 99) (.const (.slice none 0 0)) ?_); refine wpList_storeK rfl 29 (.tmp 99) (.const (.slice none 0 0)) rfl rfl _ _ rfl rfl _ ST0.out ?_) | ((with_reducible refine at_load 31 (.tmp 6) ?_); refine wpList_loadK rfl 31 (.tmp 6) rfl _ rfl _ LM.out ?_) | ((with_reducible refine at_store 31 (.tmp 4) (.tmp 100) ?_); refine wpList_storeK rfl 31 (.tmp 4) (.tmp 100) rfl rfl _ _ rfl rfl _ ST4.out ?_))
    try simp only [Exit.inBlock, Exit.then]
    refine bodyPost_ret (results_ct rfl _ _ (b0 + 1) 31 _ (0, 0) _ rfl HF4.out Tryz.underlying31 rfl (by rw [HYY.out.1]; kernel_rfl)) rfl ?_
    exact ⟨.inr (.inr ⟨OK.out, N2.out.symm, (.slice none 0 0), by rw [HEND.out, HYY.out.2]; rfl, by rw [HEND.out]; exact HE4.out.2⟩), HE4.out.1⟩
   ·rw [if_neg h0] at he
    have HEND := Aside0.mk he
    have h0b : (E == 0) = false := by simpa using h0
    have hres := HLR.out
    have LM := Aside0.mk (run_loadAtK Tryz.prog (wr) 31 37 Tryz.isAgg31 Tryz.sizeOf31 b6 0 (mapV B.ver B.clock n K E v) (mapV_len _ _ _ _ _ _) (cells_of_heap hrow))
    have ST4 := Aside0.mk (store_full (wr) 31 37 (b0 + 1) Tryz.sizeOf31 _ (mapV B.ver B.clock n K E v) hres (mapV_len _ _ _ _ _ _) (mapV_len _ _ _ _ _ _) (mapV_one _ _ _ _ _ _ hvone))
    have HF4 := Aside0.mk (setRow_heap (wr) (b0 + 1) _ (mapV B.ver B.clock n K E v).toArray 31 (0, 0) hres)
    have HE4 := Aside0.mk (show Below w.heap.size w ((wr).setRow (b0 + 1) (mapV B.ver B.clock n K E v).toArray) ∧ kPeer.R 48 ((wr).setRow (b0 + 1) (mapV B.ver B.clock n K E v).toArray) w.heap.size (fun _ => True) v (ppOf (spB B) B n B.devs) from ⟨below_setRow hlo (by have := HSZ.out; omega) _, Kd.R_mono (Kd.R_lower (Kd.R_step hR (fun k hk _ => setRow_other (wr) (b0 + 1) k _ (by have : w7.heap.size ≤ k := hk; have := S5.out; have := S7.out; omega))) (by have := S7.out; have := S5.out; have := HSZ.out; omega)) (fun _ _ => trivial)⟩)
    obtain ⟨YY, hYY⟩ : ∃ YY, YY = (mapV B.ver B.clock n K E v).toArray := ⟨_, rfl⟩
    have HYY := Aside0.mk (And.intro (show YY.size = 37 by rw [hYY]; simp [mapV_len]) hYY)
    rw [← hYY] at LM ST4 HF4 HE4
    clear hYY hres hK hE he hrow hR hvone hlo hlt hkk hall
    go_wp2_with (first | ((with_reducible refine at_load 31 (.tmp 6) ?_); refine wpList_loadK rfl 31 (.tmp 6) rfl _ rfl _ LM.out ?_) | ((with_reducible refine at_store 31 (.tmp 4) (.tmp 100) ?_); refine wpList_storeK rfl 31 (.tmp 4) (.tmp 100) rfl rfl _ _ rfl rfl _ ST4.out ?_))
    try simp only [Exit.inBlock, Exit.then]
    refine bodyPost_ret (results_ct rfl _ _ (b0 + 1) 31 _ (0, 0) _ rfl HF4.out Tryz.underlying31 rfl (by rw [HYY.out.1]; kernel_rfl)) rfl ?_
    exact ⟨.inr (.inr ⟨OK.out, N2.out.symm, v, by rw [HEND.out, HYY.out.2]; rfl, by rw [HEND.out]; exact HE4.out.2⟩), HE4.out.1⟩
  have hltz : (kk : Int) < (B.devs.length : Int) := by omega
  obtain ⟨d, hd⟩ : ∃ d, B.devs[kk]? = some d := ⟨_, List.getElem?_eq_getElem hlt⟩
  obtain ⟨g, o, hA, hld⟩ := HS.out.dev hd
  have L0 := Aside0.mk (hld wr ON.out.lo)
  subst hA
  have HD := Aside0.mk hd
  have st := Aside0.mk (fun (C : Array Value) (hc : C.size = 35) => run_storeNew Tryz.prog wr 85 35 sizeD C (encD d).toArray hc (by simpa using encD_len d) (by simpa using encD_one d))
  obtain ⟨nb, hnb⟩ : ∃ nb, nb = wr.heap.size := ⟨_, rfl⟩
  obtain ⟨w8, hw8⟩ : ∃ w8, w8 = wr.alloc (.cells (encD d).toArray 85) := ⟨_, rfl⟩
  have b8 : Below wr.heap.size wr w8 := by rw [hw8]; exact (Below.refl _ wr).alloc (Nat.le_refl _) _
  have Q8 := Aside0.mk (show w8.heap[nb]? = some (.cells (encD d).toArray 85 (0, 0)) by rw [hw8, hnb]; exact heap_alloc_new wr _)
  have ON8 := Aside0.mk (ON.out.grow ON.out.lo.size b8)
  have LB8 := Aside0.mk (roomN HLB.out b8)
  have S8 := Aside0.mk (show nb < w8.heap.size ∧ w7.heap.size ≤ nb by rw [hw8, hnb]; have := ON.out.kp.1; simp; exact this)
  have HKK := Aside0.mk (And.intro hkk hlt)
  obtain ⟨DA, hDA⟩ : ∃ DA, DA = (encD d).toArray := ⟨_, rfl⟩
  rw [← hDA] at L0 st hw8
  clear hDA b8 hd hld hkk hlt
  go_upto_region 10 with (first | ((with_reducible refine at_load 85 (.tmp 41) ?_); refine wpList_loadK rfl 85 (.tmp 41) rfl _ rfl _ L0.out ?_) | ((with_reducible refine at_store 85 (.tmp 10) (.tmp 42) ?_); refine wpList_storeK rfl 85 (.tmp 10) (.tmp 42) rfl rfl _ _ rfl rfl _ (st.out _ rfl) ?_))
  rw [← hw8, ← hnb]
  clear hw8 hnb L0 st
  obtain ⟨k0, k1, -, -⟩ := FC.out w8 LB8.out
  have lb := Aside0.mk (run_loadAtK Tryz.prog w8 25 5 Tryz.isAgg25 Tryz.sizeOf25 b0 0 (bookCells B (some ⟨g, o, none⟩) c1 A2 c2) rfl (cells_of_heap LB8.out))
  have lk := Aside0.mk (run_loadAtK Tryz.prog w8 28 32 Tryz.isAgg28 Tryz.sizeOf28 nb 1 (encK d.key) (encK_len _) (fun j v hj => by rw [cell_of_heap Q8.out]; exact keyOfD d j v hj))
  have HV := Aside0.mk (valid_src B d.key B.clock (some ⟨g, o, none⟩) c1 A2 c2 w8 (HS.out.later ON8.out.lo))
  rw [← HXX.out] at lb HV
  rw [valid_dev (wf_of_ok OK.out) (List.mem_of_getElem? HD.out)] at HV
  go_wp2_with (first | ((with_reducible refine at_load 25 (.tmp 2) ?_); refine wpList_loadK rfl 25 (.tmp 2) rfl _ rfl _ lb.out ?_) | ((with_reducible refine at_load 28 (.tmp 45) ?_); refine wpList_loadK rfl 28 (.tmp 45) rfl _ rfl _ lk.out ?_))
  refine HV.out.mono ?_
  rintro r w9 ⟨rfl, hb9⟩
  have ON9 := Aside0.mk (ON8.out.grow ON8.out.lo.size hb9)
  have Q9 := Aside0.mk (roomN Q8.out hb9)
  have S9 := Aside0.mk (show nb < w9.heap.size by have := S8.out; have := hb9.size; omega)
  clear hb9 HV lb lk k0 k1 ON8 LB8 Q8
  cases hlv : live B d with
  | false =>
   have HLV := Aside0.mk hlv
   clear hlv
   rw [if_neg (by decide)]
   have hvr : validRes none = .tuple #[.int .i64 0, .bool false] := rfl
   rw [hvr]
   clear hvr
   go_wp2_with fail
   go_roundg (B.devs.length - (kk + 1))
   case measure => have := HKK.out; omega
   case rel => exact ⟨kk + 1, by have h1 := HKK.out; have h2 := HS.out.few; have h3 : wrap64 ((kk : Int) + 1) = ((kk + 1 : Nat) : Int) := (by unfold wrap64; omega); rw [h3], by have := HKK.out; omega, ⟨ON9.out.skip HD.out HLV.out⟩⟩
  | true =>
   have HLV := Aside0.mk hlv
   clear hlv
   rw [if_pos rfl]
   have hvr : validRes (some d.node) = .tuple #[.int .i64 d.node, .bool true] := rfl
   rw [hvr]
   clear hvr
   have j0 : w9.cell? ⟨nb, 0, none⟩ = some (.int .i64 d.node) := by rw [cell_of_heap Q9.out]; rfl
   by_cases hn : d.node = n
   ·have hnb' : (d.node == n) = true := by simpa using hn
    have HN := Aside0.mk hn
    clear hn
    go_upto_region 13 with fail
    obtain ⟨v, hrow, hR⟩ := ON9.out.row
    have HRR := Aside0.mk hR
    have HM := Aside0.mk (show M13 B n nb b6 d w w9 (kxOf B n (B.devs.take kk)).1 (kxOf B n (B.devs.take kk)).2 v (Array.replicate 8 false) w9 from ⟨ON9.out.lo, KeepBut.refl _ _ _, Q9.out, hrow⟩)
    clear hrow hR j0 hnb'
    refine region_use (G13 nb b6 d) (M13 B n nb b6 d w w9 (kxOf B n (B.devs.take kk)).1 (kxOf B n (B.devs.take kk)).2 v) [58, 59, 60, 61, 62, 63] (by kernel_rfl) rfl (by kernel_rfl) (HM.out.drew) ?_ ?_
    ·intro i o l a W hi hs hnd hd hC hI hM K hK
     have hs : l.size = 8 := hs
     have hlt : i < 8 := (Array.getElem?_eq_some_iff.1 hi).1
     have hne : nb ≠ b6 := by have := S8.out; have := S7.out; omega
     have hb : w.heap.size ≤ b6 := by have := S5.out; have := HSZ.out; omega
     have hcase : i = 0 ∨ i = 1 ∨ i = 2 ∨ i = 3 ∨ i = 4 ∨ i = 5 ∨ i = 6 ∨ i = 7 := by omega
     rcases hcase with rfl | rfl | rfl | rfl | rfl | rfl | rfl | rfl
     ·exact wp_value (exec_fieldAddr 85 1 (.tmp 10) o (opIs hi rfl) a _ _ (hI.slot 10 (by rfl) rfl) (field85_1 W nb)) (hK _ _ (fun _ _ h => h) (fun _ _ => rfl) (hM.step (by decide) (by decide)))
     ·exact wp_value (yields_load 28 (.tmp 58) o (opIs hi rfl) a _ (hI.got hi hd (j := 0) (by kernel_rfl) rfl) _ (run_loadAtK Tryz.prog W 28 32 Tryz.isAgg28 Tryz.sizeOf28 nb 1 (encK d.key) (encK_len _) (fun j v hj => by rw [cell_of_heap hM.dev]; exact keyOfD d j v hj))) (hK _ _ (fun _ _ h => h) (fun _ _ => rfl) (hM.step (by decide) (by decide)))
     ·exact wp_value (exec_fieldAddr 85 2 (.tmp 10) o (opIs hi rfl) a _ _ (hI.slot 10 (by rfl) rfl) (field85_2 W nb)) (hK _ _ (fun _ _ h => h) (fun _ _ => rfl) (hM.step (by decide) (by decide)))
     ·exact wp_value (yields_load 3 (.tmp 60) o (opIs hi rfl) a _ (hI.got hi hd (j := 2) (by kernel_rfl) rfl) _ (run_load1 3 Tryz.isAgg3 (by rw [cell_of_heap hM.dev]; simp [encD, encK_len]))) (hK _ _ (fun _ _ h => h) (fun _ _ => rfl) (hM.step (by decide) (by decide)))
     ·exact wp_value (exec_fieldAddr 31 3 (.tmp 6) o (opIs hi rfl) a _ _ (hI.slot 6 (by rfl) rfl) (field31_3 W b6)) (hK _ _ (fun _ _ h => h) (fun _ _ => rfl) (hM.step (by decide) (by decide)))
     ·have e1 : a.eval (.tmp 62) = .pointer (some ⟨b6, 3, none⟩) := hI.got hi hd (j := 4) (by kernel_rfl) rfl
      have e2 : a.eval (.tmp 59) = .agg (encK d.key).toArray := hI.got hi hd (j := 1) (by kernel_rfl) rfl
      obtain ⟨W', hr, hM'⟩ := hM.key (by omega) hb hne
      exact wp_skip (runs_store 28 (.tmp 62) (.tmp 59) o (opIs hi rfl) a _ _ e1 e2 _ hr) (hK _ _ (fun _ _ h => h) (fun N hN => by rw [dstIs hi rfl] at hN; cases hN) hM')
     ·exact wp_value (exec_fieldAddr 31 4 (.tmp 6) o (opIs hi rfl) a _ _ (hI.slot 6 (by rfl) rfl) (field31_4 W b6)) (hK _ _ (fun _ _ h => h) (fun _ _ => rfl) (hM.step (by decide) (by decide)))
     ·have e1 : a.eval (.tmp 63) = .pointer (some ⟨b6, 35, none⟩) := hI.got hi hd (j := 6) (by kernel_rfl) rfl
      have e2 : a.eval (.tmp 61) = .int .i64 d.exp := hI.got hi hd (j := 3) (by kernel_rfl) rfl
      obtain ⟨W', hr, hM'⟩ := hM.exp (by omega) hb hne
      exact wp_skip (runs_store 3 (.tmp 63) (.tmp 61) o (opIs hi rfl) a _ _ e1 e2 _ hr) (hK _ _ (fun _ _ h => h) (fun N hN => by rw [dstIs hi rfl] at hN; cases hN) hM')
    ·intro v' W hv hM
     have ONW := Aside0.mk (OnOf.own (wf_of_ok OK.out) HD.out HN.out HLV.out ON9.out.kp (by have := S7.out; omega) HRR.out hM.lo hM.kp hM.row)
     clear hv hM
     simp only [List.map_cons, List.map_nil, putAll]
     simp only [Act.put, List.setIfInBounds_toArray, List.set_cons_zero, List.set_cons_succ]
     go_wp2_with fail
     go_roundg (B.devs.length - (kk + 1))
     case measure => have := HKK.out; omega
     case rel => exact ⟨kk + 1, by have h1 := HKK.out; have h2 := HS.out.few; have h3 : wrap64 ((kk : Int) + 1) = ((kk + 1 : Nat) : Int) := (by unfold wrap64; omega); rw [h3], by have := HKK.out; omega, ONW⟩
   ·have hnb' : (d.node == n) = false := by simpa using hn
    have HN := Aside0.mk hn
    clear hn
    go_upto_region 14 with fail
    obtain ⟨N, hN⟩ : ∃ N, N = w9.heap.size := ⟨_, rfl⟩
    have HNE := Aside0.mk hN
    have RU9 := Aside0.mk (Kd.R_step RU7.out (fun k hk _ => ON9.out.kp.2 k hk.2 (by have := hk.1; omega) (by simp)))
    clear hN j0 hnb'
    refine region_useA (G14 B n d nb N rv) (M14 B n d N w9) [64, 65, 66, 67, 68, 69, 70, 71, 72, 73, 74, 75, 76, 77, 78, 79, 80, 13] (by kernel_rfl) rfl (by kernel_rfl) ⟨by rw [HNE.out]; exact (Below.refl _ _).drew, fun e => by simp [Array.getD] at e⟩ ?_ ?_
    ·intro i o l a W hi hs hnd hd hC hI hM K hK
     have hs : l.size = 19 := hs
     have hlt : i < 19 := (Array.getElem?_eq_some_iff.1 hi).1
     have hNN : N ≤ w9.heap.size := Nat.le_of_eq HNE.out
     have hN9 : w9.heap.size ≤ N := Nat.le_of_eq HNE.out.symm
     have hle : N ≤ W.heap.size := Nat.le_trans hNN hM.lo.size
     have hdev : W.heap[nb]? = some (.cells (encD d).toArray 85 (0, 0)) := (hM.lo.block nb (by have := S9.out; omega)).trans Q9.out
     have hcase : i = 0 ∨ i = 1 ∨ i = 2 ∨ i = 3 ∨ i = 4 ∨ i = 5 ∨ i = 6 ∨ i = 7 ∨ i = 8 ∨ i = 9 ∨ i = 10 ∨ i = 11 ∨ i = 12 ∨ i = 13 ∨ i = 14 ∨ i = 15 ∨ i = 16 ∨ i = 17 ∨ i = 18 := by omega
     rcases hcase with rfl | rfl | rfl | rfl | rfl | rfl | rfl | rfl | rfl | rfl | rfl | rfl | rfl | rfl | rfl | rfl | rfl | rfl | rfl
     ·-- 0
      exact wp_value (exec_fieldAddr 85 0 (.tmp 10) o (opIs hi rfl) a _ _ (hI.slot 10 (by rfl) rfl) (field85_0 W nb)) (hK _ _ (fun _ _ h => h) (fun _ _ => rfl) (hM.step B n d N hNN (Below.refl _ _) (by decide) (by decide) (by rw [dstIs hi rfl]; exact put_at (by decide))))
     ·-- 1
      exact wp_value (yields_load 3 (.tmp 64) o (opIs hi rfl) a _ (hI.got hi hd (j := 0) (by kernel_rfl) rfl) _ (run_load1 3 Tryz.isAgg3 (by rw [cell_of_heap hdev]; rfl))) (hK _ _ (fun _ _ h => h) (fun _ _ => rfl) (hM.step B n d N hNN (Below.refl _ _) (by decide) (by decide) (by rw [dstIs hi rfl]; exact put_at (by decide))))
     ·-- 2
      exact wp_value (exec_fieldAddr 85 1 (.tmp 10) o (opIs hi rfl) a _ _ (hI.slot 10 (by rfl) rfl) (field85_1 W nb)) (hK _ _ (fun _ _ h => h) (fun _ _ => rfl) (hM.step B n d N hNN (Below.refl _ _) (by decide) (by decide) (by rw [dstIs hi rfl]; exact put_at (by decide))))
     ·-- 3
      exact wp_value (yields_load 28 (.tmp 66) o (opIs hi rfl) a _ (hI.got hi hd (j := 2) (by kernel_rfl) rfl) _ (run_loadAtK Tryz.prog W 28 32 Tryz.isAgg28 Tryz.sizeOf28 nb 1 (encK d.key) (encK_len _) (fun j v hj => by rw [cell_of_heap hdev]; exact keyOfD d j v hj))) (hK _ _ (fun _ _ h => h) (fun _ _ => rfl) (hM.step B n d N hNN (Below.refl _ _) (by decide) (by decide) (by rw [dstIs hi rfl]; exact put_at (by decide))))
     ·-- 4
      exact wp_value (exec_fieldAddr 85 2 (.tmp 10) o (opIs hi rfl) a _ _ (hI.slot 10 (by rfl) rfl) (field85_2 W nb)) (hK _ _ (fun _ _ h => h) (fun _ _ => rfl) (hM.step B n d N hNN (Below.refl _ _) (by decide) (by decide) (by rw [dstIs hi rfl]; exact put_at (by decide))))
     ·-- 5
      exact wp_value (yields_load 3 (.tmp 68) o (opIs hi rfl) a _ (hI.got hi hd (j := 4) (by kernel_rfl) rfl) _ (run_load1 3 Tryz.isAgg3 (by rw [cell_of_heap hdev]; simp [encD, encK_len]))) (hK _ _ (fun _ _ h => h) (fun _ _ => rfl) (hM.step B n d N hNN (Below.refl _ _) (by decide) (by decide) (by rw [dstIs hi rfl]; exact put_at (by decide))))
     ·-- 6
      exact wp_value (exec_move (.tmp 7) o (opIs hi rfl) a _ (hI.slot 7 (by rfl) rfl)) (hK _ _ (fun _ _ h => h) (fun _ _ => rfl) (hM.step B n d N hNN (Below.refl _ _) (by decide) (by decide) (by rw [dstIs hi rfl]; exact put_at (by decide))))
     ·-- 7
      exact wp_value (exec_fieldAddr 85 0 (.tmp 10) o (opIs hi rfl) a _ _ (hI.slot 10 (by rfl) rfl) (field85_0 W nb)) (hK _ _ (fun _ _ h => h) (fun _ _ => rfl) (hM.step B n d N hNN (Below.refl _ _) (by decide) (by decide) (by rw [dstIs hi rfl]; exact put_at (by decide))))
     ·-- 8
      exact wp_value (yields_load 3 (.tmp 71) o (opIs hi rfl) a _ (hI.got hi hd (j := 7) (by kernel_rfl) rfl) _ (run_load1 3 Tryz.isAgg3 (by rw [cell_of_heap hdev]; rfl))) (hK _ _ (fun _ _ h => h) (fun _ _ => rfl) (hM.step B n d N hNN (Below.refl _ _) (by decide) (by decide) (by rw [dstIs hi rfl]; exact put_at (by decide))))
     ·-- 9
      exact wp_value (exec_move (.tmp 1) o (opIs hi rfl) a _ (hI.slot 1 (by rfl) rfl)) (hK _ _ (fun _ _ h => h) (fun _ _ => rfl) (hM.step B n d N hNN (Below.refl _ _) (by decide) (by decide) (by rw [dstIs hi rfl]; exact put_at (by decide))))
     ·-- 10
      have e1 : a.eval (.tmp 70) = rv := hI.got hi hd (j := 6) (by kernel_rfl) rfl
      have e2 : a.eval (.tmp 72) = .int .i64 d.node := hI.got hi hd (j := 8) (by kernel_rfl) rfl
      have e3 : a.eval (.tmp 73) = .int .i64 n := hI.got hi hd (j := 9) (by kernel_rfl) rfl
      have hg : o.guard = none := (okOps_at (n := 101) (by kernel_rfl) hi).1
      obtain ⟨RA', rc', hrv', hrc', hC'⟩ := Kd.R_reads (Kd.R_below RU9.out (hM.lo.mono hN9))
      refine wp_goes Tryz.func23 (by kernel_rfl) rfl #[.slice RA' (rulesB B).length rc', .int .i64 d.node, .int .i64 n] hg (opIs hi rfl) (by simp only [List.map_toArray, List.map_cons, List.map_nil, e1, e2, e3, ← hrv']) ?_
      refine (spans23 (rulesB B) d.node n RA' rc' W (parse_len _) hrc' hC').mono ?_
      rintro e' W' ⟨v', rfl, hr, hb'⟩
      exact ⟨v', rfl, hK v' W' (G14.below B n d nb N rv hb') (fun _ _ => Kd.R_mono (Kd.R_lower (Kd.R_bound hr) hle) (fun k hk => Nat.le_trans hle hk.2.1)) (hM.step B n d N hNN hb' (by decide) (by decide) (by rw [dstIs hi rfl]; exact put_at (by decide)))⟩
     ·-- 11
      exact wp_value (exec_move (.tmp 7) o (opIs hi rfl) a _ (hI.slot 7 (by rfl) rfl)) (hK _ _ (fun _ _ h => h) (fun _ _ => rfl) (hM.step B n d N hNN (Below.refl _ _) (by decide) (by decide) (by rw [dstIs hi rfl]; exact put_at (by decide))))
     ·-- 12
      exact wp_value (exec_move (.tmp 1) o (opIs hi rfl) a _ (hI.slot 1 (by rfl) rfl)) (hK _ _ (fun _ _ h => h) (fun _ _ => rfl) (hM.step B n d N hNN (Below.refl _ _) (by decide) (by decide) (by rw [dstIs hi rfl]; exact put_at (by decide))))
     ·-- 13
      exact wp_value (exec_fieldAddr 85 0 (.tmp 10) o (opIs hi rfl) a _ _ (hI.slot 10 (by rfl) rfl) (field85_0 W nb)) (hK _ _ (fun _ _ h => h) (fun _ _ => rfl) (hM.step B n d N hNN (Below.refl _ _) (by decide) (by decide) (by rw [dstIs hi rfl]; exact put_at (by decide))))
     ·-- 14
      exact wp_value (yields_load 3 (.tmp 77) o (opIs hi rfl) a _ (hI.got hi hd (j := 13) (by kernel_rfl) rfl) _ (run_load1 3 Tryz.isAgg3 (by rw [cell_of_heap hdev]; rfl))) (hK _ _ (fun _ _ h => h) (fun _ _ => rfl) (hM.step B n d N hNN (Below.refl _ _) (by decide) (by decide) (by rw [dstIs hi rfl]; exact put_at (by decide))))
     ·-- 15
      have e1 : a.eval (.tmp 75) = rv := hI.got hi hd (j := 11) (by kernel_rfl) rfl
      have e2 : a.eval (.tmp 76) = .int .i64 n := hI.got hi hd (j := 12) (by kernel_rfl) rfl
      have e3 : a.eval (.tmp 78) = .int .i64 d.node := hI.got hi hd (j := 14) (by kernel_rfl) rfl
      have hg : o.guard = none := (okOps_at (n := 101) (by kernel_rfl) hi).1
      obtain ⟨RA', rc', hrv', hrc', hC'⟩ := Kd.R_reads (Kd.R_below RU9.out (hM.lo.mono hN9))
      refine wp_goes Tryz.func23 (by kernel_rfl) rfl #[.slice RA' (rulesB B).length rc', .int .i64 n, .int .i64 d.node] hg (opIs hi rfl) (by simp only [List.map_toArray, List.map_cons, List.map_nil, e1, e2, e3, ← hrv']) ?_
      refine (spans23 (rulesB B) n d.node RA' rc' W (parse_len _) hrc' hC').mono ?_
      rintro e' W' ⟨v', rfl, hr, hb'⟩
      exact ⟨v', rfl, hK v' W' (G14.below B n d nb N rv hb') (fun _ _ => Kd.R_mono (Kd.R_lower (Kd.R_bound hr) hle) (fun k hk => Nat.le_trans hle hk.2.1)) (hM.step B n d N hNN hb' (by decide) (by decide) (by rw [dstIs hi rfl]; exact put_at (by decide)))⟩
     ·-- 16
      have e1 : a.eval (.tmp 65) = .int .i64 d.node := hI.got hi hd (j := 1) (by kernel_rfl) rfl
      have e2 : a.eval (.tmp 67) = .agg (encK d.key).toArray := hI.got hi hd (j := 3) (by kernel_rfl) rfl
      have e3 : a.eval (.tmp 69) = .int .i64 d.exp := hI.got hi hd (j := 5) (by kernel_rfl) rfl
      have r1 : kSp.R 80 W N (fun k => N ≤ k) (a.eval (.tmp 74)) (spB B d.node n) := hI.got hi hd (j := 10) (by kernel_rfl) rfl
      have r2 : kSp.R 80 W N (fun k => N ≤ k) (a.eval (.tmp 79)) (spB B n d.node) := hI.got hi hd (j := 15) (by kernel_rfl) rfl
      obtain ⟨x1, hx1⟩ : ∃ x1, x1 = a.eval (.tmp 74) := ⟨_, rfl⟩
      obtain ⟨x2, hx2⟩ : ∃ x2, x2 = a.eval (.tmp 79) := ⟨_, rfl⟩
      rw [← hx1] at r1
      rw [← hx2] at r2
      obtain ⟨o1, p1⟩ := R_one r1
      obtain ⟨o2, p2⟩ := R_one r2
      exact wp_value (exec_build 48 _ o (opIs hi rfl) a #[(0, .int .i64 d.node), (1, .agg (encK d.key).toArray), (2, .int .i64 d.exp), (3, x1), (4, x2)] (by simp only [List.map_toArray, List.map_cons, List.map_nil, e1, e2, e3, ← hx1, ← hx2]) _ (build48 W (peerOf (spB B) n d) x1 x2 p1 p2 o1 o2)) (hK _ _ (fun _ _ h => h) (fun _ _ => ⟨x1, x2, rfl, r1, r2⟩) (hM.step B n d N hNN (Below.refl _ _) (by decide) (by decide) (by rw [dstIs hi rfl]; exact put_at (by decide))))
     ·-- 17
      have hal := (Below.refl W.heap.size W).alloc (Nat.le_refl _) (.cells (peerCells peerZ none 0 none 0).toArray 48)
      refine wp_value (exec_alloc48 o (opIs hi rfl) a) (hK _ _ (G14.below B n d nb N rv hal) (fun _ _ => trivial) ⟨hM.lo.trans (hal.mono hle), fun _ => ⟨W.heap.size, _, by rw [dstIs hi rfl]; exact put_same (by rw [hI.size]; show 13 < 101; decide), hle, peerCells_len _ _ _ _ _, heap_alloc_new W _, fun e => ?_⟩⟩)
      rw [setB (by decide)] at e
      exact absurd (hC.dep 18 17 (by kernel_rfl) e) (notDone hs (by decide) hnd)
     ·-- 18
      obtain ⟨pb, cs, h1, h2, h3, h4, -⟩ := hM.at_ (depB hi (by kernel_rfl) hd)
      obtain ⟨x1, x2, e2, r1, r2⟩ := hI.got hi hd (j := 16) (N := 80) (by kernel_rfl) rfl
      have e2 : a.eval (.tmp 80) = .agg (peerV (peerOf (spB B) n d) x1 x2).toArray := e2
      obtain ⟨o1, p1⟩ := R_one r1
      obtain ⟨o2, p2⟩ := R_one r2
      have hstore := store_full W 48 36 pb Tryz.sizeOf48 cs (peerV (peerOf (spB B) n d) x1 x2) h4 h3 (peerV_len _ _ _) (peerV_one _ _ _ p1 p2)
      refine wp_skip (runs_store 48 (.tmp 13) (.tmp 80) o (opIs hi rfl) a _ _ h1 e2 _ hstore) (hK _ _ (G14.row B n d nb N rv h4 _) (fun N' hN => by rw [dstIs hi rfl] at hN; cases hN) ⟨below_setRow hM.lo h2 _, fun _ => ⟨pb, _, by rw [dstIs hi rfl]; exact h1, h2, peerV_len _ _ _, setRow_heap W pb _ _ 48 (0, 0) h4, fun _ => ⟨x1, x2, rfl, ?_, ?_⟩⟩⟩)
      ·exact Kd.R_step (Kd.R_types r1 h4 (by decide)) (fun k hk _ => setRow_other W pb k _ hk.2)
      ·exact Kd.R_step (Kd.R_types r2 h4 (by decide)) (fun k hk _ => setRow_other W pb k _ hk.2)
    ·intro v' W hv a hns hM
     obtain ⟨pb, cs, h13, hpb, hcl, hcs, hx⟩ := hM.at_ (by rfl)
     obtain ⟨x1, x2, rfl, r1, r2⟩ := hx (by rfl)
     have hv13 : v' 13 = .pointer (some ⟨pb, 0, none⟩) := by rw [← hns 13 (by simp)]; exact h13
     obtain ⟨v, hrow, hR⟩ := ON9.out.row
     have hbW : Below w9.heap.size w9 W := hM.lo.mono (Nat.le_of_eq HNE.out.symm)
     have ONW := Aside0.mk (ON9.out.grow ON9.out.lo.size hbW)
     have HROW := Aside0.mk (roomN hrow hbW)
     have HRW := Aside0.mk (Kd.R_below hR hbW)
     have HOB := Aside0.mk (fun k0 (hk : v.ownBlock = some k0) => (show w7.heap.size ≤ k0 ∧ k0 < N by have := (Kd.R_bound hR).1 k0 hk; exact ⟨this.2.1, by rw [HNE.out]; exact this.2.2.1⟩))
     have HRR := Aside0.mk (And.intro r1 r2)
     have HCS := Aside0.mk hcs
     have HPB := Aside0.mk (show N ≤ pb ∧ w7.heap.size ≤ N by rw [HNE.out]; exact ⟨by rw [← HNE.out]; exact hpb, ON9.out.kp.1⟩)
     obtain ⟨Y1, d1, hy1⟩ := Kd.R_slice r1
     obtain ⟨Y2, d2, hy2⟩ := Kd.R_slice r2
     obtain ⟨VA, vc, hva⟩ := Kd.R_slice hR
     have g34 : W.cell? ⟨pb, 34, none⟩ = some (.slice Y1 (spB B d.node n).length d1) := by rw [cell_of_heap hcs, peerV34, hy1]
     have g35 : W.cell? ⟨pb, 35, none⟩ = some (.slice Y2 (spB B n d.node).length d2) := by rw [cell_of_heap hcs, peerV35, hy2]
     have k36 : W.cell? ⟨b6, 36, none⟩ = some (.slice VA (ppOf (spB B) B n (B.devs.take kk)).length vc) := by rw [cell_of_heap HROW.out, mapV36, hva]
     have HY := Aside0.mk (And.intro hy1 (And.intro hy2 hva))
     have n1 : (spB B d.node n).length ≤ 66 := spB_len ..
     have n2 : (spB B n d.node).length ≤ 66 := spB_len ..
     obtain ⟨L1, hL1⟩ : ∃ L1, L1 = (spB B d.node n).length := ⟨_, rfl⟩
     obtain ⟨L2, hL2⟩ : ∃ L2, L2 = (spB B n d.node).length := ⟨_, rfl⟩
     rw [← hL1] at g34 n1
     rw [← hL2] at g35 n2
     have HL := Aside0.mk (And.intro hL1 hL2)
     have hw64 : wrap64 ((L1 : Int) + (L2 : Int)) = (L1 : Int) + (L2 : Int) := by unfold wrap64; omega
     clear hL1 hL2 hv hM hns h13 hpb hcl hcs hx r1 r2 hrow hR hbW hy1 hy2 hva
     simp only [List.map_cons, List.map_nil, putAll]
     simp only [Act.put, List.setIfInBounds_toArray, List.set_cons_zero, List.set_cons_succ]
     rw [hv13]
     clear hv13
     by_cases h0 : (0 : Int) < (L1 : Int) + (L2 : Int)
     case neg =>
      have h0d : decide ((0 : Int) < (L1 : Int) + (L2 : Int)) = false := decide_eq_false h0
      have H0 := Aside0.mk (show L1 + L2 = 0 by omega)
      go_wp2_with fail
      go_roundg (B.devs.length - (kk + 1))
      case measure => have := HKK.out; omega
      case rel => exact ⟨kk + 1, by have h1 := HKK.out; have h2 := HS.out.few; have h3 : wrap64 ((kk : Int) + 1) = ((kk + 1 : Nat) : Int) := (by unfold wrap64; omega); rw [h3], by have := HKK.out; omega, ⟨ONW.out.mute HD.out HN.out (by rw [← HL.out.1, ← HL.out.2]; exact H0.out)⟩⟩
     have h0d : decide ((0 : Int) < (L1 : Int) + (L2 : Int)) = true := decide_eq_true h0
     have H0 := Aside0.mk (show ¬ L1 + L2 = 0 by omega)
     have LP := Aside0.mk (run_loadAtK Tryz.prog W 48 36 Tryz.isAgg48 Tryz.sizeOf48 pb 0 (peerV (peerOf (spB B) n d) x1 x2) (peerV_len _ _ _) (cells_of_heap HCS.out))
     have b29 := Aside0.mk (buildP W (peerOf (spB B) n d) x1 x2)
     have HPM := Aside0.mk (show kPeer.M W w7.heap.size (fun k => N ≤ k) (peerOf (spB B) n d) (peerV (peerOf (spB B) n d) x1 x2) from kPeer_mkM (Kd.R_mono (Kd.R_lower HRR.out.1 HPB.out.2) (fun _ hk => hk.1)) (Kd.R_mono (Kd.R_lower HRR.out.2 HPB.out.2) (fun _ hk => hk.1)))
     have HFEW := Aside0.mk (show ((ppOf (spB B) B n (B.devs.take kk)).length + 1) * 96 ≤ 140737488355328 by have h1 := @pp_len (spB B) B n kk; have h2 := HKK.out; have h3 := OK.out.few; omega)
     have HWS := Aside0.mk (show w7.heap.size ≤ W.heap.size from ONW.out.kp.1)
     go_upto_region 16 with fail
     clear h0 h0d n1 n2 hw64 g34 g35
     go_wp2_with (first | ((with_reducible refine at_load 48 (.tmp 13) ?_); refine wpList_loadK rfl 48 (.tmp 13) rfl _ rfl _ LP.out ?_) | ((with_reducible refine at_bslice 29 (.tmp 91) ?_); refine wpList_buildSlice1 rfl 29 (.tmp 91) rfl _ rfl _ _ b29.out ?_) | (at_builtin; refine Kd.R_append kPeer (w0 := W) w7.heap.size rfl (.tmp 90) (.tmp 92) 29 48 (.agg zeroPeer) 96 rfl Tryz.underlying29 (by kernel_rfl) (by kernel_rfl) (by decide) (by decide) v (ppOf (spB B) B n (B.devs.take kk)) (peerOf (spB B) n d) (peerV (peerOf (spB B) n d) x1 x2) (fun k => w7.heap.size ≤ k) (fun k => N ≤ k) HY.out.2.2.symm rfl HPM.out (fun k hk => ⟨Nat.le_trans HPB.out.2 hk, fun e => by have := HOB.out k e.symm; omega⟩) (fun k hk => Nat.le_trans HWS.out hk) HRW.out (Below.refl _ _) HWS.out HFEW.out ?_; intro v1 w11 hr1 hbel hgrow hat; have HRN := Aside0.mk hr1; have HBN := Aside0.mk hbel; have hrow1 : w11.heap[b6]? = some (.cells (mapV B.ver B.clock n (kxOf B n (B.devs.take kk)).1 (kxOf B n (B.devs.take kk)).2 v).toArray 31 (0, 0)) := (hbel.block b6 (by have := S7.out; omega)).trans HROW.out; have ONN := Aside0.mk (ONW.out.push HD.out HN.out HLV.out (by rw [← HL.out.1, ← HL.out.2]; exact H0.out) (by have := S5.out; have := HSZ.out; omega) (by have := S7.out; omega) HROW.out hr1 hbel); obtain ⟨q1, q2⟩ := peerR_one hr1; have ST := Aside0.mk (run_storeAt1 Tryz.prog w11 29 Tryz.sizeOf29 b6 36 v1 q1 q2 _ (by rw [cell_of_heap hrow1]; exact mapV36 _ _ _ _ _ _) (frozen_of_heap hrow1)); clear hr1 hbel hgrow hat hrow1 q1 q2 k36) | ((with_reducible refine at_store 29 (.tmp 94) (.tmp 93) ?_); refine wpList_storeK rfl 29 (.tmp 94) (.tmp 93) rfl rfl _ _ rfl rfl _ ST.out ?_))
     go_roundg (B.devs.length - (kk + 1))
     case measure => have := HKK.out; omega
     case rel => exact ⟨kk + 1, by have h1 := HKK.out; have h2 := HS.out.few; have h3 : wrap64 ((kk : Int) + 1) = ((kk + 1 : Nat) : Int) := (by unfold wrap64; omega); rw [h3], by have := HKK.out; omega, ONN⟩
end Go.Proofs.YtmgbaefgcdglpaaGreatDoor.Net
end
section
namespace Go.Proofs.YtmgbaefgcdglpaaGreatDoor.PA
open Go.RowKit Go.Proofs.YtmgbaefgcdglpaaGreatDoorW.PrintWords Go.Proofs.YtmgbaefgcdglpaaGreatDoorW.PrintLast Go.Proofs.YtmgbaefgcdglpaaGreatDoorW.PrintMore
def gS (out : List S80) (i : Nat) : S80 := out.getD i ⟨0, 0⟩
structure Ok (out : List S80) (m : Int) : Prop where
 each : ∀ i, i < out.length → 0 ≤ (gS out i).f0 ∧ (gS out i).f0 ≤ (gS out i).f1 ∧ (gS out i).f1 < m
 gap : ∀ i, i + 1 < out.length → (gS out i).f1 + 1 < (gS out (i + 1)).f0
theorem Ok.nil (m : Int) : Ok [] m := ⟨by simp, by simp⟩
theorem Ok.mono {out : List S80} {m m' : Int} (h : Ok out m) (hm : m ≤ m') : Ok out m' := ⟨fun i hi => by have := h.each i hi; omega, h.gap⟩
theorem gS_set {out : List S80} {k : Nat} (hk : k < out.length) (v : S80) (i : Nat) : gS (out.set k v) i = if i = k then v else gS out i := by
 unfold gS
 rw [List.getD_eq_getElem?_getD, List.getElem?_set]
 by_cases h : k = i
 ·subst h; simp [hk]
 ·rw [if_neg h, if_neg (fun e => h e.symm), List.getD_eq_getElem?_getD]
theorem gS_app (out : List S80) (v : S80) (i : Nat) (hi : i ≤ out.length) : gS (out ++ [v]) i = if i = out.length then v else gS out i := by
 unfold gS
 by_cases h : i = out.length
 ·subst h; simp
 ·rw [if_neg h, List.getD_eq_getElem?_getD, List.getElem?_append_left (by omega), List.getD_eq_getElem?_getD]
theorem addSpan_ok {out : List S80} {x y : Int} (h : Ok out x) (h0 : 0 ≤ x) (hxy : x < y) : Ok (addSpan out x (y - 1)) y := by
 unfold addSpan
 by_cases hc : 0 < out.length ∧ (out.getD (out.length - 1) ⟨0, 0⟩).f1 = x - 1
 ·rw [if_pos hc]
  have hk : out.length - 1 < out.length := by omega
  have hl := h.each (out.length - 1) hk
  have hl2 : (gS out (out.length - 1)).f1 = x - 1 := hc.2
  refine ⟨fun i hi => ?_, fun i hi => ?_⟩
  ·rw [gS_set hk]
   rw [List.length_set] at hi
   split
   ·exact ⟨hl.1, by show (gS out (out.length - 1)).f0 ≤ y - 1; omega, by show y - 1 < y; omega⟩
   ·have := h.each i hi; omega
  ·rw [List.length_set] at hi
   rw [gS_set hk, gS_set hk, if_neg (by omega)]
   have := h.gap i hi
   split
   ·rename_i e; rw [e] at this; exact this
   ·exact this
 ·rw [if_neg hc]
  refine ⟨fun i hi => ?_, fun i hi => ?_⟩
  ·simp at hi
   rw [gS_app _ _ _ (by omega)]
   split
   ·exact ⟨h0, by show x ≤ y - 1; omega, by show y - 1 < y; omega⟩
   ·have := h.each i (by omega); omega
  ·simp at hi
   rw [gS_app _ _ _ (by omega), gS_app _ _ _ (by omega), if_neg (by omega)]
   split
   ·rename_i e
    have hl := h.each i (by omega)
    have hne : (gS out i).f1 ≠ x - 1 := fun e2 => hc ⟨by omega, by rw [show out.length - 1 = i by omega]; exact e2⟩
    show (gS out i).f1 + 1 < x
    omega
   ·exact h.gap i (by omega)
theorem go_ok (ok : Int → Bool) : ∀ (P : List Int) (x : Int) (out : List S80), (x :: P).Pairwise (· < ·) → 0 ≤ x → Ok out x → ∀ m, (∀ z ∈ x :: P, z ≤ m) → Ok (spansGo ok (x :: P) out) m
 | [], x, out, _, _, h, m, hm => h.mono (hm x (by simp))
 | y :: P, x, out, hp, h0, h, m, hm => by
  have hxy : x < y := (List.pairwise_cons.1 hp).1 y (by simp)
  unfold spansGo
  refine go_ok ok P y _ (List.pairwise_cons.1 hp).2 (by omega) ?_ m (fun z hz => hm z (by simp at hz ⊢; exact .inr hz))
  split
  ·exact addSpan_ok h h0 hxy
  ·exact h.mono (by omega)
theorem go_few (ok : Int → Bool) : ∀ (P : List Int) (x : Int) (out : List S80), (x :: P).Pairwise (· < ·) → 0 ≤ x → Ok out x → ∀ b : Nat, (b = 0 → 0 < out.length ∧ (gS out (out.length - 1)).f1 = x - 1) → b ≤ 1 →
  2 * (spansGo ok (x :: P) out).length ≤ 2 * out.length + P.length + b
 | [], x, out, _, _, _, b, _, _ => by unfold spansGo; simp
 | y :: P, x, out, hp, h0, h, b, hb, hb1 => by
  have hxy : x < y := (List.pairwise_cons.1 hp).1 y (by simp)
  have hp' := (List.pairwise_cons.1 hp).2
  unfold spansGo
  by_cases hx : ok x = true
  ·rw [if_pos hx]
   have ho := addSpan_ok h h0 hxy
   by_cases hc : 0 < out.length ∧ (out.getD (out.length - 1) ⟨0, 0⟩).f1 = x - 1
   ·have e : addSpan out x (y - 1) = out.set (out.length - 1) ⟨(out.getD (out.length - 1) ⟨0, 0⟩).f0, y - 1⟩ := by unfold addSpan; rw [if_pos hc]
    have := go_few ok P y _ hp' (by omega) ho 0 (fun _ => by rw [e]; refine ⟨by simp; omega, ?_⟩; rw [List.length_set, gS_set (by omega), if_pos rfl]) (by omega)
    rw [e] at this ⊢
    simp only [List.length_set, List.length_cons] at this ⊢; omega
   ·have e : addSpan out x (y - 1) = out ++ [⟨x, y - 1⟩] := by unfold addSpan; rw [if_neg hc]
    have hb2 : b = 1 := by
     rcases Nat.lt_or_ge b 1 with h1 | h1
     ·exact absurd (hb (by omega)) hc
     ·omega
    have := go_few ok P y _ hp' (by omega) ho 0 (fun _ => by rw [e]; refine ⟨by simp, ?_⟩; rw [gS_app _ _ _ (by simp), if_pos (by simp)]) (by omega)
    rw [e] at this ⊢
    simp only [List.length_append, List.length_cons, List.length_nil] at this ⊢; omega
  ·rw [if_neg hx]
   have := go_few ok P y out hp' (by omega) (h.mono (by omega)) 1 (by omega) (by omega)
   simp only [List.length_cons]; omega
theorem points_head (l : List S96) : ∃ P, pointsOf l = 0 :: P := by
 obtain ⟨h1, h2, _⟩ := points_spec l
 have h0 : (0 : Int) ∈ pointsOf l := (h2 0).2 (.inl rfl)
 cases hp : pointsOf l with
 | nil => rw [hp] at h0; cases h0
 | cons x P =>
  refine ⟨P, ?_⟩
  rw [hp] at h0 h1
  have hx : 0 ≤ x := (points_range l x (by rw [hp]; simp)).1
  rcases List.mem_cons.1 h0 with e | e
  ·rw [← e]
  ·have := (List.pairwise_cons.1 h1).1 0 e; omega
theorem all_rising (l : List S96) : (pointsOf l ++ [65536]).Pairwise (· < ·) := by
 rw [List.pairwise_append]
 refine ⟨(points_spec l).1, by simp, fun a ha b hb => ?_⟩
 have := points_range l a ha
 simp at hb; omega
theorem spans_ok (l : List S96) (a b : Int) : Ok (spansV l a b) 65536 := by
 obtain ⟨P, hP⟩ := points_head l
 have hr := all_rising l
 have hm : ∀ z ∈ pointsOf l ++ [65536], z ≤ 65536 := by
  intro z hz
  rcases List.mem_append.1 hz with h | h
  ·have := (points_range l z h).2; omega
  ·simp at h; omega
 unfold spansV
 rw [hP, List.cons_append] at hr hm ⊢
 exact go_ok _ _ 0 [] hr (by omega) (Ok.nil 0) 65536 hm
theorem spans_few (l : List S96) (a b : Int) : 2 * (spansV l a b).length ≤ 2 * l.length + 2 := by
 obtain ⟨P, hP⟩ := points_head l
 have hr := all_rising l
 have hl := (points_spec l).2.2
 unfold spansV
 rw [hP] at hl
 rw [hP, List.cons_append] at hr ⊢
 have := go_few (fun p => allowsV l a b p) (P ++ [65536]) 0 [] hr (by omega) (Ok.nil 0) 1 (by omega) (by omega)
 simp only [List.length_append, List.length_cons, List.length_nil] at this hl ⊢
 omega
end Go.Proofs.YtmgbaefgcdglpaaGreatDoor.PA
end
section
namespace Go.Proofs.YtmgbaefgcdglpaaGreatDoor.Net
open Go Go.RowKit Go.Proofs Go.Proofs.YtmgbaefgcdglpaaGreatDoorW.PrintWords Go.Proofs.YtmgbaefgcdglpaaGreatDoorW.PrintLast Go.Proofs.YtmgbaefgcdglpaaGreatDoorW.PrintMore Go.Proofs.YtmgbaefgcdglpaaGreatDoor.Dir
set_option linter.unusedVariables false
set_option linter.unusedSimpArgs false
theorem spanGo_ok (l : List Sp) (h : PA.Ok l 65536) : ∀ (k i : Nat) (last : Int), l.length - i ≤ k → (∀ s, l[i]? = some s → last + 1 < s.f0) → spanGo last (l.drop i) = true
 | 0, i, last, hk, _ => by rw [List.drop_of_length_le (by omega)]; rfl
 | k + 1, i, last, hk, hl => by
  by_cases hi : i < l.length
  ·have hs : l[i]? = some l[i] := List.getElem?_eq_getElem hi
   have hg : PA.gS l i = l[i] := by unfold PA.gS; rw [List.getD_eq_getElem?_getD, hs]; rfl
   have he := h.each i hi
   rw [hg] at he
   rw [List.drop_eq_getElem_cons hi]
   unfold spanGo
   have h1 := hl _ hs
   rw [decide_eq_true (by omega), Bool.true_and]
   refine spanGo_ok l h k (i + 1) _ (by omega) fun s hs2 => ?_
   have hi2 := (List.getElem?_eq_some_iff.1 hs2).1
   have hgap := h.gap i hi2
   have hg2 : PA.gS l (i + 1) = s := by unfold PA.gS; rw [List.getD_eq_getElem?_getD, hs2]; rfl
   rw [hg, hg2] at hgap
   omega
  ·rw [List.drop_of_length_le (by omega)]; rfl
theorem spB_ok (B : Book) (a b : Int) : spansOk (spB B a b) = true := by
 have h1 := PA.spans_ok (rulesB B) a b
 have h2 := PA.spans_few (rulesB B) a b
 have h3 : (rulesB B).length ≤ 32 := parse_len _
 unfold spansOk
 rw [Bool.and_eq_true]
 refine ⟨?_, decide_eq_true (by show (PA.spansV (rulesB B) a b).length ≤ 33; omega)⟩
 have := spanGo_ok (spB B a b) h1 (spB B a b).length 0 (-2) (by omega) (fun s hs => by
  have hi := (List.getElem?_eq_some_iff.1 hs).1
  have := h1.each 0 hi
  have hg : PA.gS (spB B a b) 0 = s := by unfold PA.gS; rw [List.getD_eq_getElem?_getD, hs]; rfl
  have e : PA.gS (PA.spansV (rulesB B) a b) 0 = s := hg
  rw [e] at this
  omega)
 simpa using this
theorem okM_ofB {B : Book} (hB : OkB B) {n : Int} (hn : nodeIn n = true) : okM (ofV (spB B) B n) = true := okM_of (spB B) (spB_ok B) (wf_of_ok hB) hn
end Go.Proofs.YtmgbaefgcdglpaaGreatDoor.Net
end
section
namespace Go.Proofs.YtmgbaefgcdglpaaGreatDoor.Dir
open Go Go.RowKit Go.Proofs Go.Proofs.YtmgbaefgcdglpaaGreatDoorW.PrintWords Go.Proofs.YtmgbaefgcdglpaaGreatDoorW.PrintLast Go.Proofs.YtmgbaefgcdglpaaGreatDoorW.PrintMore
set_option linter.unusedVariables false
set_option linter.unusedSimpArgs false
theorem src_row {w : World} {T : TypeId} {n size : Nat} {cs : List Value} {b : Nat} (h : w.heap[b]? = some (.cells cs.toArray T (0, 0))) (hl : cs.length = n * size) (hn : 0 < n) : SrcAt w (some ⟨b, 0, none⟩) n size cs :=
 ⟨hl, fun e => (by cases e), fun a ha j u hj => (by cases ha; rw [add_at, Nat.zero_add, cell_of_heap h]; exact hj)⟩
def placesB : Array (Nat × Nat) := #[(0, 1), (1, 1), (2, 1), (3, 1), (4, 1)]
theorem run_buildB (w : World) (parts : Array (Nat × Value)) (cs : Array Value) (hf : Instr.fill (placesB[·]?) #[.int .i64 0, .int .i64 0, .slice none 0 0, .slice none 0 0, .string ⟨#[]⟩] parts.toList = some cs) : (Instr.build 25 parts).run Tryz.prog w = .ok (.agg cs) w := by
 have hz := Tryz.zeroValue25 w
 unfold placesB at hf
 simp only [Instr.build, Sem.run_bind, hz, Result.andThen_ok, run_underlying Tryz.underlying25, Value.cells]
 simp only [List.mapM_toArray, List.mapM_cons, List.mapM_nil, Sem.run_bind, Sem.run_map, Sem.run_pure, Result.andThen_ok, Functor.map]
 have hb : ∀ {α β : Type} (x : Sem α) (f : α → Sem β), Sem.bind x f = x >>= f := fun _ _ => rfl
 simp only [hb, Sem.run_bind, Sem.run_pure, Result.andThen_ok, Tryz.sizeOf3, Tryz.sizeOf22, Tryz.sizeOf23, Tryz.sizeOf9, Function.comp]
 change ((Result.ok (#[(0, 1), (1, 1), (2, 1), (3, 1), (4, 1)] : Array (Nat × Nat)) w).andThen fun a w' => _) = _
 simp only [Result.andThen_ok]
 rw [hf]
 rfl
def placesD : Array (Nat × Nat) := #[(0, 1), (1, 32), (33, 1), (34, 1)]
def dev0 : Dev := ⟨0, key0, 0, false⟩
set_option maxRecDepth 100000 in
theorem zeroDev_list : zeroDev.toList = encD dev0 := by first | rfl | kernel_rfl
set_option maxRecDepth 100000 in
theorem run_buildD (w : World) (parts : Array (Nat × Value)) (d' : Dev) (hf : Instr.fill (placesD[·]?) (encD dev0).toArray parts.toList = some (encD d').toArray) : (Instr.build 85 parts).run Tryz.prog w = .ok (.agg (encD d').toArray) w := by
 have hz : (zeroValue 85).run Tryz.prog w = .ok (.agg zeroDev) w := Tryz.zeroValue85 w
 rw [← zeroDev_list, Array.toArray_toList] at hf
 unfold placesD at hf
 generalize zeroDev = Z at hf hz
 simp only [Instr.build, Sem.run_bind, hz, Result.andThen_ok, run_underlying Tryz.underlying85, Value.cells]
 simp only [List.mapM_toArray, List.mapM_cons, List.mapM_nil, Sem.run_bind, Sem.run_map, Sem.run_pure, Result.andThen_ok, Tryz.sizeOf3, Tryz.sizeOf28, Tryz.sizeOf4, Functor.map]
 have hb : ∀ {α β : Type} (x : Sem α) (f : α → Sem β), Sem.bind x f = x >>= f := fun _ _ => rfl
 simp only [hb, Sem.run_bind, Sem.run_pure, Result.andThen_ok, Tryz.sizeOf3, Tryz.sizeOf28, Tryz.sizeOf4, Function.comp]
 change ((Result.ok (#[(0, 1), (1, 32), (33, 1), (34, 1)] : Array (Nat × Nat)) w).andThen fun a w' => _) = _
 simp only [Result.andThen_ok]
 rw [hf]
 rfl
end Go.Proofs.YtmgbaefgcdglpaaGreatDoor.Dir
end
