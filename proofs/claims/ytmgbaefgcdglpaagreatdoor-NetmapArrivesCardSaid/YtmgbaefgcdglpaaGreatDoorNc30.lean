/- Apply: a delta brought to a netmap. What Diff and Apply tell. -/
import Derived.Test.YtmgbaefgcdglpaaGreatDoorNc29
import Derived.Test.YtmgbaefgcdglpaaGreatDoorNc28
section
namespace Go.Proofs.YtmgbaefgcdglpaaGreatDoor.Net
open Go Go.RowKit Go.Proofs Go.Proofs.YtmgbaefgcdglpaaGreatDoorW.PrintWords Go.Proofs.YtmgbaefgcdglpaaGreatDoorW.PrintLast Go.Proofs.YtmgbaefgcdglpaaGreatDoorW.PrintMore Go.Proofs.YtmgbaefgcdglpaaGreatDoor.Dir
set_option linter.unusedVariables false
set_option linter.unusedSimpArgs false
theorem put_spans {m : NMap} {d : NDel} (hm : okM m = true) (hd : okD d = true) {n : Int} {p : Peer} (h : putAt m d n = some p) : p.inn.length ≤ 33 ∧ p.out.length ≤ 33 := by
 have h2 : okM ⟨0, d.clock, d.node, d.key, d.exp, d.set⟩ = true := by
  unfold okM
  rw [(okD_parts hd).1]
  rfl
 unfold putAt at h
 cases hq : atP d.set n with
 | some q =>
  rw [hq] at h
  cases h
  exact okM_spans h2 (atP_mem hq).1
 | none =>
  rw [hq] at h
  simp only at h
  split at h
  ·cases h
  ·exact okM_spans hm (atP_mem h).1
set_option maxHeartbeats 4000000 in
set_option maxRecDepth 100000 in
theorem apply33 (m : NMap) (d : NDel) (A : Option Addr) (c : Nat) (A1 : Option Addr) (c1 : Nat) (A2 : Option Addr) (c2 : Nat) (w : World) (hm : PsAt w A c m.peers) (hd : DAt w d A1 c1 A2 c2) :
  Calls Tryz.prog 33 #[.agg (mapCells m A c).toArray, .agg (delCells d A1 c1 A2 c2).toArray] w fun e w' => ApplyEnd m d w.heap.size e w' ∧ Below w.heap.size w w' := by
 obtain ⟨b0, hb0⟩ : ∃ b0, b0 = w.heap.size := ⟨_, rfl⟩
 obtain ⟨V1, hV1⟩ : ∃ V1, V1 = w.alloc (.cells (mapCells m A c).toArray 31) := ⟨_, rfl⟩
 obtain ⟨V2, hV2⟩ : ∃ V2, V2 = V1.alloc (.cells (delCells d A1 c1 A2 c2).toArray 55) := ⟨_, rfl⟩
 obtain ⟨W0, hW0⟩ : ∃ W0, W0 = V2.alloc (.cells zeroMap 31) := ⟨_, rfl⟩
 have s1 : V1.heap.size = b0 + 1 := by rw [hV1, hb0]; simp
 have s2 : V2.heap.size = b0 + 2 := by rw [hV2]; simp [s1]
 have p1 : V1.heap[b0]? = some (.cells (mapCells m A c).toArray 31 (0, 0)) := by rw [hV1, hb0]; exact heap_alloc_new w _
 have p2 : V2.heap[b0 + 1]? = some (.cells (delCells d A1 c1 A2 c2).toArray 55 (0, 0)) := by rw [hV2, ← s1]; exact heap_alloc_new V1 _
 have e12 : Below V1.heap.size V1 V2 := by rw [hV2]; exact (Below.refl _ V1).alloc (Nat.le_refl _) _
 have e20 : Below V2.heap.size V2 W0 := by rw [hW0]; exact (Below.refl _ V2).alloc (Nat.le_refl _) _
 have e01 : Below w.heap.size w V1 := by rw [hV1]; exact (Below.refl _ w).alloc (Nat.le_refl _) _
 have hbw : Below w.heap.size w W0 := below_step (below_step e01 e12) e20
 have q1 : W0.heap[b0]? = some (.cells (mapCells m A c).toArray 31 (0, 0)) := roomN (roomN p1 e12) e20
 have q2 : W0.heap[b0 + 1]? = some (.cells (delCells d A1 c1 A2 c2).toArray 55 (0, 0)) := roomN p2 e20
 have q3 : W0.heap[b0 + 2]? = some (.cells (mapV 0 0 0 key0 0 nilV).toArray 31 (0, 0)) := by rw [hW0, ← s2, ← zeroMap_eq]; exact heap_alloc_new V2 _
 have HQ := Aside0.mk (And.intro q1 (And.intro q2 q3))
 have HBW := Aside0.mk hbw
 have HBB := Aside0.mk (And.intro hb0 (show W0.heap.size = b0 + 3 by rw [hW0]; simp [s2]))
 have HPM := Aside0.mk hm
 have HPD := Aside0.mk hd
 have LA := Aside0.mk (run_loadAtK Tryz.prog W0 31 37 Tryz.isAgg31 Tryz.sizeOf31 b0 0 (mapCells m A c) (mapCells_len _ _ _) (cells_of_heap q1))
 have LB := Aside0.mk (fun (W : World) (h : Below W0.heap.size W0 W) => run_loadAtK Tryz.prog W 55 39 Tryz.isAgg55 Tryz.sizeOf55 (b0 + 1) 0 (delCells d A1 c1 A2 c2) (delCells_len _ _ _ _ _) (cells_of_heap (roomN q2 h)))
 have CA := Aside0.mk (check27 m A c W0 (hm.below hbw))
 have CB := Aside0.mk (fun (W : World) (h : Below W0.heap.size W0 W) => check73 d A1 c1 A2 c2 W ((hd.below hbw).below h))
 obtain ⟨X, hX⟩ : ∃ X, X = (mapCells m A c).toArray := ⟨_, rfl⟩
 obtain ⟨Y, hY⟩ : ∃ Y, Y = (delCells d A1 c1 A2 c2).toArray := ⟨_, rfl⟩
 have HXY := Aside0.mk (And.intro hX hY)
 rw [← hX] at hV1 LA CA ⊢
 rw [← hY] at hV2 LB CB ⊢
 clear q1 q2 q3 hbw hm hd hX hY s1 s2 p1 p2 e12 e20 e01
 go_enter Tryz.func33, Tryz.ntmps33
 go_upto_region 1 with fail
 change Code.wp _ _ _ _ (((w.alloc (.cells X 31)).alloc (.cells Y 55)).alloc (.cells zeroMap 31))
 rw [← hV1, ← hV2, ← hW0, ← hb0]
 clear hV1 hV2 hW0 hb0
 go_wp2_with ((with_reducible refine at_load 31 (.tmp 2) ?_); refine wpList_loadK rfl 31 (.tmp 2) rfl _ rfl _ LA.out ?_)
 refine CA.out.mono ?_
 rintro r w1 ⟨rfl, hb1⟩
 have B1 := Aside0.mk hb1
 obtain ⟨n1, hn1⟩ : ∃ n1, n1 = okM m := ⟨_, rfl⟩
 rw [← hn1]
 have N1 := Aside0.mk hn1
 have R1 := Aside0.mk (roomN HQ.out.2.2 hb1)
 clear hb1 hn1 LA CA
 cases n1
 case false =>
  rw [if_neg (by decide)]
  have BZ := Aside0.mk (build31z w1)
  have ST := Aside0.mk (store_full w1 31 37 (b0 + 2) Tryz.sizeOf31 _ (mapV 0 0 0 key0 0 nilV) R1.out (mapV_len _ _ _ _ _ _) (mapV_len _ _ _ _ _ _) (mapV_one _ _ _ _ _ _ rfl))
  have HF := Aside0.mk (setRow_heap w1 (b0 + 2) _ (mapV 0 0 0 key0 0 nilV).toArray 31 (0, 0) R1.out)
  have HE := Aside0.mk (show Below w.heap.size w (w1.setRow (b0 + 2) (mapV 0 0 0 key0 0 nilV).toArray) from below_setRow (below_step HBW.out B1.out) (by have := HBB.out; omega) _)
  obtain ⟨Z, hZ⟩ : ∃ Z, Z = (mapV 0 0 0 key0 0 nilV).toArray := ⟨_, rfl⟩
  have HZ := Aside0.mk (And.intro (show Z.size = 37 by rw [hZ]; simp [mapV_len]) hZ)
  rw [← hZ] at BZ ST HF HE
  clear hZ
  go_wp2_with (first | ((with_reducible refine at_build 31 #[] ?_); refine wpList_valueW (by rfl) (.agg Z) w1 (exec_build 31 _ _ rfl _ #[] (by simp) _ BZ.out) ?_) | ((with_reducible refine at_store 31 (.tmp 4) (.tmp 28) ?_); refine wpList_storeK rfl 31 (.tmp 4) (.tmp 28) rfl rfl _ _ rfl rfl _ ST.out ?_))
  try simp only [Exit.inBlock, Exit.then]
  refine bodyPost_ret (results_ct rfl _ _ (b0 + 2) 31 _ (0, 0) _ rfl HF.out Tryz.underlying31 rfl (by rw [HZ.out.1]; kernel_rfl)) rfl ?_
  refine ⟨?_, HE.out⟩
  rw [HZ.out.2]
  exact ApplyEnd.bad (apply_bad (.inl N1.out.symm))
 rw [if_pos rfl]
 have lb := Aside0.mk (LB.out w1 B1.out)
 go_wp2_with ((with_reducible refine at_load 55 (.tmp 3) ?_); refine wpList_loadW (by rfl) 55 (.tmp 3) rfl _ rfl _ lb.out ?_)
 refine (CB.out w1 B1.out).mono ?_
 rintro r w2 ⟨rfl, hb2⟩
 have B2 := Aside0.mk (below_step B1.out hb2)
 obtain ⟨n2, hn2⟩ : ∃ n2, n2 = okD d := ⟨_, rfl⟩
 rw [← hn2]
 have N2 := Aside0.mk hn2
 have R2 := Aside0.mk (roomN R1.out hb2)
 clear hb2 hn2 lb R1
 cases n2
 case false =>
  rw [if_neg (by decide)]
  have BZ := Aside0.mk (build31z w2)
  have ST := Aside0.mk (store_full w2 31 37 (b0 + 2) Tryz.sizeOf31 _ (mapV 0 0 0 key0 0 nilV) R2.out (mapV_len _ _ _ _ _ _) (mapV_len _ _ _ _ _ _) (mapV_one _ _ _ _ _ _ rfl))
  have HF := Aside0.mk (setRow_heap w2 (b0 + 2) _ (mapV 0 0 0 key0 0 nilV).toArray 31 (0, 0) R2.out)
  have HE := Aside0.mk (show Below w.heap.size w (w2.setRow (b0 + 2) (mapV 0 0 0 key0 0 nilV).toArray) from below_setRow (below_step HBW.out B2.out) (by have := HBB.out; omega) _)
  obtain ⟨Z, hZ⟩ : ∃ Z, Z = (mapV 0 0 0 key0 0 nilV).toArray := ⟨_, rfl⟩
  have HZ := Aside0.mk (And.intro (show Z.size = 37 by rw [hZ]; simp [mapV_len]) hZ)
  rw [← hZ] at BZ ST HF HE
  clear hZ
  go_wp2_with (first | ((with_reducible refine at_build 31 #[] ?_); refine wpList_valueW (by rfl) (.agg Z) w2 (exec_build 31 _ _ rfl _ #[] (by simp) _ BZ.out) ?_) | ((with_reducible refine at_store 31 (.tmp 4) (.tmp 28) ?_); refine wpList_storeK rfl 31 (.tmp 4) (.tmp 28) rfl rfl _ _ rfl rfl _ ST.out ?_))
  try simp only [Exit.inBlock, Exit.then]
  refine bodyPost_ret (results_ct rfl _ _ (b0 + 2) 31 _ (0, 0) _ rfl HF.out Tryz.underlying31 rfl (by rw [HZ.out.1]; kernel_rfl)) rfl ?_
  refine ⟨?_, HE.out⟩
  rw [HZ.out.2]
  exact ApplyEnd.bad (apply_bad (.inr N2.out.symm))
 rw [if_pos rfl]
 have HOK := Aside0.mk (show ¬ (okM m = false ∨ okD d = false) by rw [← N1.out, ← N2.out]; decide)
 obtain ⟨qa, qb, -⟩ := HQ.out
 have qa := roomN qa B2.out
 have qb := roomN qb B2.out
 have a0 : w2.cell? ⟨b0, 0, none⟩ = some (.int .i64 m.ver) := by rw [cell_of_heap qa]; rfl
 have a2 : w2.cell? ⟨b0, 2, none⟩ = some (.int .i64 m.node) := by rw [cell_of_heap qa]; rfl
 have d0 : w2.cell? ⟨b0 + 1, 0, none⟩ = some (.int .i64 d.frm) := by rw [cell_of_heap qb]; rfl
 have d3 : w2.cell? ⟨b0 + 1, 3, none⟩ = some (.int .i64 d.node) := by rw [cell_of_heap qb]; rfl
 have QA := Aside0.mk qa
 have QB := Aside0.mk qb
 clear qa qb
 by_cases h1 : d.node = m.node
 case neg =>
  have h1b : (d.node != m.node) = true := by simpa using h1
  have H1 := Aside0.mk h1
  clear h1
  have BZ := Aside0.mk (build31z w2)
  have ST := Aside0.mk (store_full w2 31 37 (b0 + 2) Tryz.sizeOf31 _ (mapV 0 0 0 key0 0 nilV) R2.out (mapV_len _ _ _ _ _ _) (mapV_len _ _ _ _ _ _) (mapV_one _ _ _ _ _ _ rfl))
  have HF := Aside0.mk (setRow_heap w2 (b0 + 2) _ (mapV 0 0 0 key0 0 nilV).toArray 31 (0, 0) R2.out)
  have HE := Aside0.mk (show Below w.heap.size w (w2.setRow (b0 + 2) (mapV 0 0 0 key0 0 nilV).toArray) from below_setRow (below_step HBW.out B2.out) (by have := HBB.out; omega) _)
  obtain ⟨Z, hZ⟩ : ∃ Z, Z = (mapV 0 0 0 key0 0 nilV).toArray := ⟨_, rfl⟩
  have HZ := Aside0.mk (And.intro (show Z.size = 37 by rw [hZ]; simp [mapV_len]) hZ)
  rw [← hZ] at BZ ST HF HE
  clear hZ
  go_wp2_with (first | ((with_reducible refine at_build 31 #[] ?_); refine wpList_valueW (by rfl) (.agg Z) w2 (exec_build 31 _ _ rfl _ #[] (by simp) _ BZ.out) ?_) | ((with_reducible refine at_store 31 (.tmp 4) (.tmp 42) ?_); refine wpList_storeK rfl 31 (.tmp 4) (.tmp 42) rfl rfl _ _ rfl rfl _ ST.out ?_))
  try simp only [Exit.inBlock, Exit.then]
  refine bodyPost_ret (results_ct rfl _ _ (b0 + 2) 31 _ (0, 0) _ rfl HF.out Tryz.underlying31 rfl (by rw [HZ.out.1]; kernel_rfl)) rfl ?_
  refine ⟨?_, HE.out⟩
  rw [HZ.out.2]
  exact ApplyEnd.bad (apply_base HOK.out (.inl H1.out))
 have h1b : (d.node != m.node) = false := by simpa using h1
 have H1 := Aside0.mk h1
 clear h1
 by_cases h2 : d.frm = m.ver
 case neg =>
  have h2b : (d.frm != m.ver) = true := by simpa using h2
  have H2 := Aside0.mk h2
  clear h2
  have BZ := Aside0.mk (build31z w2)
  have ST := Aside0.mk (store_full w2 31 37 (b0 + 2) Tryz.sizeOf31 _ (mapV 0 0 0 key0 0 nilV) R2.out (mapV_len _ _ _ _ _ _) (mapV_len _ _ _ _ _ _) (mapV_one _ _ _ _ _ _ rfl))
  have HF := Aside0.mk (setRow_heap w2 (b0 + 2) _ (mapV 0 0 0 key0 0 nilV).toArray 31 (0, 0) R2.out)
  have HE := Aside0.mk (show Below w.heap.size w (w2.setRow (b0 + 2) (mapV 0 0 0 key0 0 nilV).toArray) from below_setRow (below_step HBW.out B2.out) (by have := HBB.out; omega) _)
  obtain ⟨Z, hZ⟩ : ∃ Z, Z = (mapV 0 0 0 key0 0 nilV).toArray := ⟨_, rfl⟩
  have HZ := Aside0.mk (And.intro (show Z.size = 37 by rw [hZ]; simp [mapV_len]) hZ)
  rw [← hZ] at BZ ST HF HE
  clear hZ
  go_wp2_with (first | ((with_reducible refine at_build 31 #[] ?_); refine wpList_valueW (by rfl) (.agg Z) w2 (exec_build 31 _ _ rfl _ #[] (by simp) _ BZ.out) ?_) | ((with_reducible refine at_store 31 (.tmp 4) (.tmp 42) ?_); refine wpList_storeK rfl 31 (.tmp 4) (.tmp 42) rfl rfl _ _ rfl rfl _ ST.out ?_))
  try simp only [Exit.inBlock, Exit.then]
  refine bodyPost_ret (results_ct rfl _ _ (b0 + 2) 31 _ (0, 0) _ rfl HF.out Tryz.underlying31 rfl (by rw [HZ.out.1]; kernel_rfl)) rfl ?_
  refine ⟨?_, HE.out⟩
  rw [HZ.out.2]
  exact ApplyEnd.bad (apply_base HOK.out (.inr H2.out))
 have h2b : (d.frm != m.ver) = false := by simpa using h2
 have HNB := Aside0.mk (show ¬ (d.node ≠ m.node ∨ d.frm ≠ m.ver) from fun e => e.elim (fun e => e H1.out) (fun e => e h2))
 clear h2
 obtain ⟨mb, hmb⟩ : ∃ mb, mb = w2.heap.size := ⟨_, rfl⟩
 obtain ⟨w5, hw5⟩ : ∃ w5, w5 = w2.alloc (.map #[] 0) := ⟨_, rfl⟩
 have hb5 : Below w2.heap.size w2 w5 := by rw [hw5]; exact (Below.refl _ w2).alloc (Nat.le_refl _) _
 have B5 := Aside0.mk (below_step B2.out hb5)
 have R5 := Aside0.mk (roomN R2.out hb5)
 have QA5 := Aside0.mk (roomN QA.out hb5)
 have QB5 := Aside0.mk (roomN QB.out hb5)
 have S5 := Aside0.mk (show w5.heap.size = mb + 1 ∧ b0 + 3 ≤ mb by rw [hw5, hmb]; have := HBB.out.2; have := B2.out.size; simp; omega)
 have OA := Aside0.mk (show OnA w w5 mb (fun _ => none) w5 from ⟨below_step HBW.out B5.out, KeepBut.refl _ _ _, _, by rw [hw5, hmb]; exact IMap.made w2, fun _ => rfl⟩)
 have k36 : w5.cell? ⟨b0, 36, none⟩ = some (.slice A m.peers.length c) := by rw [cell_of_heap QA5.out]; exact map36 m A c
 clear hb5 R2
 go_upto_region 6 with ((with_reducible refine at_mmake 110 ?_); refine wpList_valueW (by rfl) _ _ (exec_mmake 110 _ rfl _) ?_)
 rw [← hw5, ← hmb]
 clear hw5 hmb a0 a2 d0 d3 h1b h2b
 have FEW := Aside0.mk (okM_few N1.out.symm)
 go_upto_region 7 with fail
 clear k36
 go_loopg [47] m.peers.length (fun kx s47 wr => ∃ kk : Nat, s47 = .int .i64 kk ∧ kk + kx = m.peers.length ∧ Aside0 (OnA w w5 mb (insAll (fun _ => none) (m.peers.take kk)) wr))
 case atStart => exact ⟨0, rfl, by omega, OA⟩
 case round =>
  obtain ⟨kk, rfl, hkk, ON⟩ := hrel
  by_cases hlt : kk < m.peers.length
  case pos =>
   have hltz : (kk : Int) < (m.peers.length : Int) := by omega
   obtain ⟨p, hp⟩ : ∃ p, m.peers[kk]? = some p := ⟨_, List.getElem?_eq_getElem hlt⟩
   have HP := Aside0.mk hp
   have HKK := Aside0.mk (And.intro hkk hlt)
   obtain ⟨ga, oa, Q1, e1, Q2, e2, hA, hin, hld⟩ := HPM.out.load hp
   have L0 := Aside0.mk (hld wr ON.out.lo)
   subst hA
   have HIN := Aside0.mk hin
   have st := Aside0.mk (fun (C : Array Value) (hc : C.size = 36) => run_storeNew Tryz.prog wr 48 36 (by kernel_rfl) C (peerCells p Q1 e1 Q2 e2).toArray hc (by simpa using peerCells_len p Q1 e1 Q2 e2) (peer_one _ _ _ _ _))
   obtain ⟨nb, hnb⟩ : ∃ nb, nb = wr.heap.size := ⟨_, rfl⟩
   obtain ⟨w8, hw8⟩ : ∃ w8, w8 = wr.alloc (.cells (peerCells p Q1 e1 Q2 e2).toArray 48) := ⟨_, rfl⟩
   have b8 : Below wr.heap.size wr w8 := by rw [hw8]; exact (Below.refl _ wr).alloc (Nat.le_refl _) _
   have QN := Aside0.mk (show w8.heap[nb]? = some (.cells (peerCells p Q1 e1 Q2 e2).toArray 48 (0, 0)) by rw [hw8, hnb]; exact heap_alloc_new wr _)
   obtain ⟨PX, hPX⟩ : ∃ PX, PX = (peerCells p Q1 e1 Q2 e2).toArray := ⟨_, rfl⟩
   have HPX := Aside0.mk hPX
   rw [← hPX] at L0 st hw8
   clear hPX hin hld
   have ON8 := Aside0.mk (ON.out.grow b8)
   clear b8 hp hkk hlt
   go_upto_region 9 with (first | ((with_reducible refine at_load 48 (.tmp 49) ?_); refine wpList_loadK rfl 48 (.tmp 49) rfl _ rfl _ L0.out ?_) | ((with_reducible refine at_store 48 (.tmp 8) (.tmp 50) ?_); refine wpList_storeK rfl 48 (.tmp 8) (.tmp 50) rfl rfl _ _ rfl rfl _ (st.out _ rfl) ?_))
   rw [← hw8, ← hnb]
   clear hw8 hnb L0 st hltz
   have n0 : w8.cell? ⟨nb, 0, none⟩ = some (.int .i64 p.node) := by rw [cell_of_heap QN.out]; rfl
   have LN := Aside0.mk (run_loadAtK Tryz.prog w8 48 36 Tryz.isAgg48 Tryz.sizeOf48 nb 0 (peerCells p Q1 e1 Q2 e2) (peerCells_len _ _ _ _ _) (cells_of_heap QN.out))
   obtain ⟨o, hput, hon⟩ := ON8.out.put (by have := S5.out; have := HBB.out; omega) p Q1 e1 Q2 e2 HIN.out
   have HPUT := Aside0.mk hput
   have HON := Aside0.mk hon
   rw [← HPX.out] at LN HPUT
   obtain ⟨w9, hw9⟩ : ∃ w9, w9 = ChangeMaps.setBlock w8 mb o := ⟨_, rfl⟩
   rw [← hw9] at HPUT HON
   clear hput hon hw9
   go_wp2_with (first | ((with_reducible refine at_load 48 (.tmp 8) ?_); refine wpList_loadK rfl 48 (.tmp 8) rfl _ rfl _ LN.out ?_) | ((with_reducible refine at_mput 110 (.tmp 51) (.tmp 53) (.tmp 54) ?_); refine wpList_mput rfl (.tmp 51) (.tmp 53) (.tmp 54) 110 rfl _ _ _ rfl rfl rfl w9 HPUT.out ?_))
   go_roundg (m.peers.length - (kk + 1))
   case measure => have := HKK.out; omega
   case rel => exact ⟨kk + 1, by first | rfl | (have h1 := HKK.out; have h2 := FEW.out; have h3 : wrap64 ((kk : Int) + 1) = ((kk + 1 : Nat) : Int) := (by unfold wrap64; omega); rw [h3]), by have := HKK.out; omega, ⟨by rw [insAll_take _ HP.out]; exact HON.out⟩⟩
  have hltz : ¬ (kk : Int) < (m.peers.length : Int) := by omega
  have OA := Aside0.mk (show OnA w w5 mb (insAll (fun _ => none) m.peers) wr from by rw [← List.take_of_length_le (show m.peers.length ≤ kk by omega)]; exact ON.out)
  clear hkk hlt ON
  have k37 : wr.cell? ⟨b0 + 1, 37, none⟩ = some (.slice A1 d.gone.length c1) := by rw [cell_of_heap ((OA.out.kp.2 (b0 + 1) (by have := S5.out; omega) (by have := S5.out; omega) (by simp)).trans QB5.out)]; exact del37 d A1 c1 A2 c2
  have hgl : d.gone.length ≤ 9223372036854775807 := HPD.out.gone.2.1
  have HGL := Aside0.mk hgl
  go_upto_region 12 with fail
  clear k37 hltz hgl
  go_loopg [59] d.gone.length (fun kx s59 wr => ∃ kk : Nat, s59 = .int .i64 kk ∧ kk + kx = d.gone.length ∧ Aside0 (∀ n ∈ d.gone.take kk, atP m.peers n ≠ none) ∧ Aside0 (OnA w w5 mb (delAll (insAll (fun _ => none) m.peers) (d.gone.take kk)) wr))
  case atStart => exact ⟨0, rfl, by omega, ⟨by simp⟩, OA⟩
  case round =>
   obtain ⟨kk, rfl, hkk, HALL, ON⟩ := hrel
   by_cases hlt : kk < d.gone.length
   case pos =>
    have hltz : (kk : Int) < (d.gone.length : Int) := by omega
    obtain ⟨n, hn⟩ : ∃ n, d.gone[kk]? = some n := ⟨_, List.getElem?_eq_getElem hlt⟩
    obtain ⟨ga, oa, hA, hc⟩ := IsAt.get HPD.out.gone hn
    have c0 := hc wr ON.out.lo
    subst hA
    have HN := Aside0.mk hn
    have HKK := Aside0.mk (And.intro hkk hlt)
    have HF := Aside0.mk (apply_del N1.out.symm N2.out.symm hn)
    obtain ⟨p, P1, d1, P2, d2, hlook, hin, hsome⟩ := ON.out.look n
    rw [HF.out] at hlook hsome
    have HLK := Aside0.mk hlook
    have HSM := Aside0.mk hsome
    clear hlook hin hsome hn hc hkk hlt
    have st := Aside0.mk (fun (C : Array Value) (hc : C.size = 36) => run_storeNew Tryz.prog wr 48 36 (by kernel_rfl) C (peerCells p P1 d1 P2 d2).toArray hc (by simpa using peerCells_len p P1 d1 P2 d2) (peer_one _ _ _ _ _))
    obtain ⟨nb, hnb⟩ : ∃ nb, nb = wr.heap.size := ⟨_, rfl⟩
    obtain ⟨w8, hw8⟩ : ∃ w8, w8 = wr.alloc (.cells (peerCells p P1 d1 P2 d2).toArray 48) := ⟨_, rfl⟩
    have b8 : Below wr.heap.size wr w8 := by rw [hw8]; exact (Below.refl _ wr).alloc (Nat.le_refl _) _
    have ON8 := Aside0.mk (ON.out.grow b8)
    obtain ⟨PX, hPX⟩ : ∃ PX, PX = (peerCells p P1 d1 P2 d2).toArray := ⟨_, rfl⟩
    rw [← hPX] at st hw8 HLK
    clear hPX b8
    obtain ⟨is, his⟩ : ∃ is, is = (atP m.peers n).isSome := ⟨_, rfl⟩
    rw [← his] at HLK
    have HIS := Aside0.mk his
    clear his
    go_upto_region 15 with (first | ((with_reducible refine at_look 110 (.tmp 64) (.tmp 65) ?_); refine wpList_look rfl (.tmp 64) (.tmp 65) 110 rfl _ _ _ rfl rfl HLK.out ?_) | ((with_reducible refine at_store 48 (.tmp 11) (.tmp 67) ?_); refine wpList_storeK rfl 48 (.tmp 11) (.tmp 67) rfl rfl _ _ rfl rfl _ (st.out _ rfl) ?_))
    rw [← hw8, ← hnb]
    clear hw8 hnb st hltz c0
    cases is with
    | false =>
     have RW8 := Aside0.mk ((ON8.out.kp.2 (b0 + 2) (by have := S5.out; omega) (by have := S5.out; omega) (by simp)).trans R5.out)
     have BZ := Aside0.mk (build31z w8)
     have ST := Aside0.mk (store_full w8 31 37 (b0 + 2) Tryz.sizeOf31 _ (mapV 0 0 0 key0 0 nilV) RW8.out (mapV_len _ _ _ _ _ _) (mapV_len _ _ _ _ _ _) (mapV_one _ _ _ _ _ _ rfl))
     have HF := Aside0.mk (setRow_heap w8 (b0 + 2) _ (mapV 0 0 0 key0 0 nilV).toArray 31 (0, 0) RW8.out)
     have HE := Aside0.mk (show Below w.heap.size w (w8.setRow (b0 + 2) (mapV 0 0 0 key0 0 nilV).toArray) from below_setRow ON8.out.lo (by have := HBB.out; omega) _)
     obtain ⟨Z, hZ⟩ : ∃ Z, Z = (mapV 0 0 0 key0 0 nilV).toArray := ⟨_, rfl⟩
     have HZ := Aside0.mk (And.intro (show Z.size = 37 by rw [hZ]; simp [mapV_len]) hZ)
     rw [← hZ] at BZ ST HF HE
     clear hZ
     go_wp2_with (first | ((with_reducible refine at_build 31 #[] ?_); refine wpList_valueW (by rfl) (.agg Z) w8 (exec_build 31 _ _ rfl _ #[] (by simp) _ BZ.out) ?_) | ((with_reducible refine at_store 31 (.tmp 4) (.tmp 71) ?_); refine wpList_storeK rfl 31 (.tmp 4) (.tmp 71) rfl rfl _ _ rfl rfl _ ST.out ?_))
     try simp only [Exit.inBlock, Exit.then]
     refine bodyPost_ret (results_ct rfl _ _ (b0 + 2) 31 _ (0, 0) _ rfl HF.out Tryz.underlying31 rfl (by rw [HZ.out.1]; kernel_rfl)) rfl ?_
     refine ⟨?_, HE.out⟩
     rw [HZ.out.2]
     exact ApplyEnd.bad (apply_lost HOK.out HNB.out (List.mem_of_getElem? HN.out) (by have := HIS.out; cases hq : atP m.peers n with | none => rfl | some q => rw [hq] at this; cases this))
    | true =>
     have HNE := Aside0.mk (show atP m.peers n ≠ none by intro e; have := HIS.out; rw [e] at this; cases this)
     obtain ⟨o, hdel, hon⟩ := ON8.out.drop (by have := S5.out; have := HBB.out; omega) n 0
     have HDEL := Aside0.mk hdel
     have HON := Aside0.mk hon
     obtain ⟨w9, hw9⟩ : ∃ w9, w9 = ChangeMaps.setBlock w8 mb o := ⟨_, rfl⟩
     rw [← hw9] at HDEL HON
     clear hdel hon hw9
     go_wp2_with ((with_reducible refine at_mdel (.tmp 72) (.tmp 73) ?_); refine wpList_mdel rfl (.tmp 72) (.tmp 73) 110 3 rfl _ _ rfl rfl w9 HDEL.out ?_)
     go_roundg (d.gone.length - (kk + 1))
     case measure => have := HKK.out; omega
     case rel => exact ⟨kk + 1, by first | rfl | (have h1 := HKK.out; have h2 := HGL.out; have h3 : wrap64 ((kk : Int) + 1) = ((kk + 1 : Nat) : Int) := (by unfold wrap64; omega); rw [h3]), by have := HKK.out; omega, ⟨fun x hx => by
       rw [List.take_add_one, HN.out] at hx
       rcases List.mem_append.1 hx with hx | hx
       ·exact HALL.out x hx
       ·rw [List.mem_singleton.1 hx]; exact HNE.out⟩, ⟨by rw [delAll_take _ HN.out]; exact HON.out⟩⟩
   have hltz : ¬ (kk : Int) < (d.gone.length : Int) := by omega
   have OA := Aside0.mk (show OnA w w5 mb (delAll (insAll (fun _ => none) m.peers) d.gone) wr from by rw [← List.take_of_length_le (show d.gone.length ≤ kk by omega)]; exact ON.out)
   have HALL := Aside0.mk (show ∀ n ∈ d.gone, atP m.peers n ≠ none from by rw [← List.take_of_length_le (show d.gone.length ≤ kk by omega)]; exact HALL.out)
   clear hkk hlt ON
   have k38 : wr.cell? ⟨b0 + 1, 38, none⟩ = some (.slice A2 d.set.length c2) := by rw [cell_of_heap ((OA.out.kp.2 (b0 + 1) (by have := S5.out; omega) (by have := S5.out; omega) (by simp)).trans QB5.out)]; exact del38 d A1 c1 A2 c2
   have HDS := Aside0.mk HPD.out.set
   have HDL := Aside0.mk (show d.set.length ≤ 9223372036854775807 from HPD.out.set.len)
   go_upto_region 20 with fail
   clear k38 hltz
   go_loopg [78] d.set.length (fun kx s78 wr => ∃ kk : Nat, s78 = .int .i64 kk ∧ kk + kx = d.set.length ∧ Aside0 (OnA w w5 mb (insAll (delAll (insAll (fun _ => none) m.peers) d.gone) (d.set.take kk)) wr))
   case atStart => exact ⟨0, rfl, by omega, OA⟩
   case round =>
    obtain ⟨kk, rfl, hkk, ON⟩ := hrel
    by_cases hlt : kk < d.set.length
    case pos =>
     have hltz : (kk : Int) < (d.set.length : Int) := by omega
     obtain ⟨p, hp⟩ : ∃ p, d.set[kk]? = some p := ⟨_, List.getElem?_eq_getElem hlt⟩
     have HP := Aside0.mk hp
     have HKK := Aside0.mk (And.intro hkk hlt)
     obtain ⟨ga, oa, Q1, e1, Q2, e2, hA, hin, hld⟩ := HDS.out.load hp
     have L0 := Aside0.mk (hld wr ON.out.lo)
     subst hA
     have HIN := Aside0.mk hin
     have st := Aside0.mk (fun (C : Array Value) (hc : C.size = 36) => run_storeNew Tryz.prog wr 48 36 (by kernel_rfl) C (peerCells p Q1 e1 Q2 e2).toArray hc (by simpa using peerCells_len p Q1 e1 Q2 e2) (peer_one _ _ _ _ _))
     obtain ⟨nb, hnb⟩ : ∃ nb, nb = wr.heap.size := ⟨_, rfl⟩
     obtain ⟨w8, hw8⟩ : ∃ w8, w8 = wr.alloc (.cells (peerCells p Q1 e1 Q2 e2).toArray 48) := ⟨_, rfl⟩
     have b8 : Below wr.heap.size wr w8 := by rw [hw8]; exact (Below.refl _ wr).alloc (Nat.le_refl _) _
     have QN := Aside0.mk (show w8.heap[nb]? = some (.cells (peerCells p Q1 e1 Q2 e2).toArray 48 (0, 0)) by rw [hw8, hnb]; exact heap_alloc_new wr _)
     obtain ⟨PX, hPX⟩ : ∃ PX, PX = (peerCells p Q1 e1 Q2 e2).toArray := ⟨_, rfl⟩
     have HPX := Aside0.mk hPX
     rw [← hPX] at L0 st hw8
     clear hPX hin hld
     have ON8 := Aside0.mk (ON.out.grow b8)
     clear b8 hp hkk hlt
     go_upto_region 22 with (first | ((with_reducible refine at_load 48 (.tmp 80) ?_); refine wpList_loadK rfl 48 (.tmp 80) rfl _ rfl _ L0.out ?_) | ((with_reducible refine at_store 48 (.tmp 14) (.tmp 81) ?_); refine wpList_storeK rfl 48 (.tmp 14) (.tmp 81) rfl rfl _ _ rfl rfl _ (st.out _ rfl) ?_))
     rw [← hw8, ← hnb]
     clear hw8 hnb L0 st hltz
     have n0 : w8.cell? ⟨nb, 0, none⟩ = some (.int .i64 p.node) := by rw [cell_of_heap QN.out]; rfl
     have LN := Aside0.mk (run_loadAtK Tryz.prog w8 48 36 Tryz.isAgg48 Tryz.sizeOf48 nb 0 (peerCells p Q1 e1 Q2 e2) (peerCells_len _ _ _ _ _) (cells_of_heap QN.out))
     obtain ⟨o, hput, hon⟩ := ON8.out.put (by have := S5.out; have := HBB.out; omega) p Q1 e1 Q2 e2 HIN.out
     have HPUT := Aside0.mk hput
     have HON := Aside0.mk hon
     rw [← HPX.out] at LN HPUT
     obtain ⟨w9, hw9⟩ : ∃ w9, w9 = ChangeMaps.setBlock w8 mb o := ⟨_, rfl⟩
     rw [← hw9] at HPUT HON
     clear hput hon hw9
     go_wp2_with (first | ((with_reducible refine at_load 48 (.tmp 14) ?_); refine wpList_loadK rfl 48 (.tmp 14) rfl _ rfl _ LN.out ?_) | ((with_reducible refine at_mput 110 (.tmp 82) (.tmp 84) (.tmp 85) ?_); refine wpList_mput rfl (.tmp 82) (.tmp 84) (.tmp 85) 110 rfl _ _ _ rfl rfl rfl w9 HPUT.out ?_))
     go_roundg (d.set.length - (kk + 1))
     case measure => have := HKK.out; omega
     case rel => exact ⟨kk + 1, by first | rfl | (have h1 := HKK.out; have h2 := HDL.out; have h3 : wrap64 ((kk : Int) + 1) = ((kk + 1 : Nat) : Int) := (by unfold wrap64; omega); rw [h3]), by have := HKK.out; omega, ⟨by rw [insAll_take _ HP.out]; exact HON.out⟩⟩
    have hltz : ¬ (kk : Int) < (d.set.length : Int) := by omega
    have OA := Aside0.mk (show OnA w w5 mb (insAll (delAll (insAll (fun _ => none) m.peers) d.gone) d.set) wr from by rw [← List.take_of_length_le (show d.set.length ≤ kk by omega)]; exact ON.out)
    clear hkk hlt ON
    have OA := Aside0.mk (show OnA w w5 mb (putAt m d) wr from by rw [← apply_walk N1.out.symm N2.out.symm]; exact OA.out)
    obtain ⟨f, hif, hmf⟩ := OA.out.mp
    have HMF := Aside0.mk hmf
    have hqb := (OA.out.kp.2 (b0 + 1) (by have := S5.out; omega) (by have := S5.out; omega) (by simp)).trans QB5.out
    have e1' : wr.cell? ⟨b0 + 1, 1, none⟩ = some (.int .i64 d.til) := by rw [cell_of_heap hqb]; rfl
    have e2' : wr.cell? ⟨b0 + 1, 2, none⟩ = some (.int .i64 d.clock) := by rw [cell_of_heap hqb]; rfl
    have e3' : wr.cell? ⟨b0 + 1, 3, none⟩ = some (.int .i64 d.node) := by rw [cell_of_heap hqb]; rfl
    have e36' : wr.cell? ⟨b0 + 1, 36, none⟩ = some (.int .i64 d.exp) := by rw [cell_of_heap hqb]; exact del36 d A1 c1 A2 c2
    have LK := Aside0.mk (run_loadAtK Tryz.prog wr 28 32 Tryz.isAgg28 Tryz.sizeOf28 (b0 + 1) 4 (encK d.key) (encK_len _) (fun j v hj => by rw [cell_of_heap hqb]; exact delK d A1 c1 A2 c2 j v hj))
    have BM := Aside0.mk (build31_4 wr d.til d.clock d.node d.key d.exp)
    have st := Aside0.mk (fun (C : Array Value) (hc : C.size = 37) => run_storeNew Tryz.prog wr 31 37 (by kernel_rfl) C (mapV d.til d.clock d.node d.key d.exp nilV).toArray hc (by simpa using mapV_len _ _ _ _ _ _) (fun u hu => mapV_one _ _ _ _ _ _ rfl u (by simpa using hu)))
    obtain ⟨ob, hob⟩ : ∃ ob, ob = wr.heap.size := ⟨_, rfl⟩
    obtain ⟨w9, hw9⟩ : ∃ w9, w9 = wr.alloc (.cells (mapV d.til d.clock d.node d.key d.exp nilV).toArray 31) := ⟨_, rfl⟩
    have b9 : Below wr.heap.size wr w9 := by rw [hw9]; exact (Below.refl _ wr).alloc (Nat.le_refl _) _
    have S9 := Aside0.mk (show w9.heap.size = ob + 1 ∧ mb < ob by rw [hw9, hob]; have := S5.out; have := OA.out.kp.1; simp; omega)
    have OB := Aside0.mk (show OnB d.til d.clock d.node d.key d.exp w w9 ob [] w9 from ⟨below_step OA.out.lo b9, KeepBut.refl _ _ _, nilV, by rw [hw9, hob]; exact heap_alloc_new wr _, Kd.R_nil _ _ _ _ _⟩)
    have HIF := Aside0.mk (hif.below b9)
    have R9 := Aside0.mk (roomN ((OA.out.kp.2 (b0 + 2) (by have := S5.out; omega) (by have := S5.out; omega) (by simp)).trans R5.out) b9)
    obtain ⟨MX, hMX⟩ : ∃ MX, MX = (mapV d.til d.clock d.node d.key d.exp nilV).toArray := ⟨_, rfl⟩
    rw [← hMX] at hw9 st BM
    clear hMX hif hmf hqb b9
    go_upto_region 25 with (first | ((with_reducible refine at_load 28 (.tmp 93) ?_); refine wpList_loadK rfl 28 (.tmp 93) rfl _ rfl _ LK.out ?_) | ((with_reducible refine at_build 31 #[(0, .tmp 88), (1, .tmp 90), (2, .tmp 92), (3, .tmp 94), (4, .tmp 96)] ?_); refine wpList_valueW (by rfl) (.agg MX) wr (exec_build 31 _ _ rfl _ #[(0, .int .i64 d.til), (1, .int .i64 d.clock), (2, .int .i64 d.node), (3, .agg (encK d.key).toArray), (4, .int .i64 d.exp)] (by simp only [List.map_toArray, List.map_cons, List.map_nil]; rfl) _ BM.out) ?_) | ((with_reducible refine at_store 31 (.tmp 15) (.tmp 97) ?_); refine wpList_storeK rfl 31 (.tmp 15) (.tmp 97) rfl rfl _ _ rfl rfl _ (st.out _ rfl) ?_))
    rw [← hw9, ← hob]
    clear hw9 hob LK BM st e1' e2' e3' e36' hltz
    go_upto_region 26 with fail
    go_loopg [98] 8 (fun kx s98 wr => ∃ kk : Nat, s98 = .int .i64 kk ∧ kk + kx = 8 ∧ Aside0 (OnB d.til d.clock d.node d.key d.exp w w9 ob ((nodesTo kk).filterMap (putAt m d)) wr))
    case atStart => exact ⟨0, rfl, rfl, OB⟩
    case round =>
     obtain ⟨kk, rfl, hkk, ON⟩ := hrel
     by_cases hlt : kk < 8
     case neg =>
      have hltz : ¬ (kk : Int) < 8 := by omega
      have h8 : kk = 8 := by omega
      subst h8
      obtain ⟨v, hrow, hR⟩ := ON.out.row
      obtain ⟨VA, vc, rfl, hvc, hVC⟩ := Kd.R_reads hR
      have hpm : (putM m d).peers = (nodesTo 8).filterMap (putAt m d) := by rw [nodesTo_all]; rfl
      have hcells : mapV d.til d.clock d.node d.key d.exp (.slice VA ((nodesTo 8).filterMap (putAt m d)).length vc) = mapCells (putM m d) VA vc := by rw [← hpm]; rfl
      rw [hcells] at hrow
      have hps : PsAt wr VA vc (putM m d).peers := by rw [hpm]; exact ⟨hvc, hVC⟩
      have HR := Aside0.mk (show kPeer.R 48 wr w9.heap.size (fun k => w9.heap.size ≤ k) (.slice VA (putM m d).peers.length vc) (putM m d).peers by rw [hpm]; exact hR)
      have LM := Aside0.mk (fun (W : World) (hb : Below wr.heap.size wr W) => run_loadAtK Tryz.prog W 31 37 Tryz.isAgg31 Tryz.sizeOf31 ob 0 (mapCells (putM m d) VA vc) (mapCells_len _ _ _) (cells_of_heap (roomN hrow hb)))
      have CK := Aside0.mk (check27 (putM m d) VA vc wr hps)
      have RW := Aside0.mk ((ON.out.kp.2 (b0 + 2) (by have := S9.out; have := S5.out; omega) (by have := S9.out; have := S5.out; omega) (by simp)).trans R9.out)
      obtain ⟨ZX, hZX⟩ : ∃ ZX, ZX = (mapCells (putM m d) VA vc).toArray := ⟨_, rfl⟩
      have HZX := Aside0.mk (And.intro (show ZX.size = 37 by rw [hZX]; simp [mapCells_len]) hZX)
      rw [← hZX] at LM CK
      clear hZX hrow hR hvc hVC hpm hcells hps hkk hlt
      have lm := Aside0.mk (LM.out wr (Below.refl _ _))
      go_wp2_with ((with_reducible refine at_load 31 (.tmp 15) ?_); refine wpList_loadK rfl 31 (.tmp 15) rfl _ rfl _ lm.out ?_)
      refine CK.out.mono ?_
      rintro r we ⟨rfl, hbe⟩
      obtain ⟨nz, hnz⟩ : ∃ nz, nz = okM (putM m d) := ⟨_, rfl⟩
      rw [← hnz]
      have NZ := Aside0.mk hnz
      have BE := Aside0.mk hbe
      have RWE := Aside0.mk (roomN RW.out hbe)
      have LOE := Aside0.mk (below_step ON.out.lo hbe)
      have HAE := Aside0.mk (apply_end HOK.out HNB.out HALL.out)
      clear hnz hbe lm
      cases nz
      case false =>
       rw [if_neg (by decide)]
       have BZ := Aside0.mk (build31z we)
       have ST := Aside0.mk (store_full we 31 37 (b0 + 2) Tryz.sizeOf31 _ (mapV 0 0 0 key0 0 nilV) RWE.out (mapV_len _ _ _ _ _ _) (mapV_len _ _ _ _ _ _) (mapV_one _ _ _ _ _ _ rfl))
       have HF := Aside0.mk (setRow_heap we (b0 + 2) _ (mapV 0 0 0 key0 0 nilV).toArray 31 (0, 0) RWE.out)
       have HE := Aside0.mk (show Below w.heap.size w (we.setRow (b0 + 2) (mapV 0 0 0 key0 0 nilV).toArray) from below_setRow LOE.out (by have := HBB.out; omega) _)
       obtain ⟨Z, hZ⟩ : ∃ Z, Z = (mapV 0 0 0 key0 0 nilV).toArray := ⟨_, rfl⟩
       have HZ := Aside0.mk (And.intro (show Z.size = 37 by rw [hZ]; simp [mapV_len]) hZ)
       rw [← hZ] at BZ ST HF HE
       clear hZ
       go_wp2_with (first | ((with_reducible refine at_build 31 #[] ?_); refine wpList_valueW (by rfl) (.agg Z) we (exec_build 31 _ _ rfl _ #[] (by simp) _ BZ.out) ?_) | ((with_reducible refine at_store 31 (.tmp 4) (.tmp 120) ?_); refine wpList_storeK rfl 31 (.tmp 4) (.tmp 120) rfl rfl _ _ rfl rfl _ ST.out ?_))
       try simp only [Exit.inBlock, Exit.then]
       refine bodyPost_ret (results_ct rfl _ _ (b0 + 2) 31 _ (0, 0) _ rfl HF.out Tryz.underlying31 rfl (by rw [HZ.out.1]; kernel_rfl)) rfl ?_
       refine ⟨?_, HE.out⟩
       rw [HZ.out.2]
       exact ApplyEnd.bad (by rw [HAE.out, if_pos NZ.out.symm])
      rw [if_pos rfl]
      have lm := Aside0.mk (LM.out we BE.out)
      have ST := Aside0.mk (store_full we 31 37 (b0 + 2) Tryz.sizeOf31 _ (mapCells (putM m d) VA vc) RWE.out (mapV_len _ _ _ _ _ _) (mapCells_len _ _ _) (fun u hu => map_one _ _ _ u (by simpa using hu)))
      have HF := Aside0.mk (setRow_heap we (b0 + 2) _ (mapCells (putM m d) VA vc).toArray 31 (0, 0) RWE.out)
      have HE := Aside0.mk (show Below w.heap.size w (we.setRow (b0 + 2) (mapCells (putM m d) VA vc).toArray) ∧ kPeer.R 48 (we.setRow (b0 + 2) (mapCells (putM m d) VA vc).toArray) w.heap.size (fun _ => True) (.slice VA (putM m d).peers.length vc) (putM m d).peers from
       ⟨below_setRow LOE.out (by have := HBB.out; omega) _, Kd.R_mono (Kd.R_lower (Kd.R_step (Kd.R_below HR.out BE.out) (fun k hk _ => setRow_other we (b0 + 2) k _ (by have : w9.heap.size ≤ k := hk; have := S9.out; have := S5.out; omega))) (by have := S9.out; have := S5.out; have := HBB.out; omega)) (fun _ _ => trivial)⟩)
      rw [← HZX.out.2] at ST HF HE
      go_wp2_with (first | ((with_reducible refine at_load 31 (.tmp 15) ?_); refine wpList_loadK rfl 31 (.tmp 15) rfl _ rfl _ lm.out ?_) | ((with_reducible refine at_store 31 (.tmp 4) (.tmp 121) ?_); refine wpList_storeK rfl 31 (.tmp 4) (.tmp 121) rfl rfl _ _ rfl rfl _ ST.out ?_))
      try simp only [Exit.inBlock, Exit.then]
      refine bodyPost_ret (results_ct rfl _ _ (b0 + 2) 31 _ (0, 0) _ rfl HF.out Tryz.underlying31 rfl (by rw [HZX.out.1]; kernel_rfl)) rfl ?_
      refine ⟨?_, HE.out.1⟩
      unfold ApplyEnd
      rw [HAE.out, if_neg (by rw [← NZ.out]; decide)]
      exact ⟨.slice VA (putM m d).peers.length vc, by rw [HZX.out.2]; rfl, HE.out.2⟩
     have hltz : (kk : Int) < 8 := by omega
     have HKK := Aside0.mk (And.intro hkk hlt)
     have hw64 : wrap64 ((kk : Int) + 1) = (kk : Int) + 1 := by unfold wrap64; omega
     have hib : IMap wr mb f := HIF.out.keep (ON.out.kp.2 mb (by have := S9.out; omega) (by have := S9.out; omega) (by simp))
     obtain ⟨p, P1, d1, P2, d2, hlook, hin, hsome⟩ := HMF.out.look hib ((kk : Int) + 1)
     have HLK := Aside0.mk hlook
     have HSM := Aside0.mk hsome
     have HINP := Aside0.mk hin
     have st := Aside0.mk (fun (C : Array Value) (hc : C.size = 36) => run_storeNew Tryz.prog wr 48 36 (by kernel_rfl) C (peerCells p P1 d1 P2 d2).toArray hc (by simpa using peerCells_len p P1 d1 P2 d2) (peer_one _ _ _ _ _))
     obtain ⟨nb, hnb⟩ : ∃ nb, nb = wr.heap.size := ⟨_, rfl⟩
     obtain ⟨w8, hw8⟩ : ∃ w8, w8 = wr.alloc (.cells (peerCells p P1 d1 P2 d2).toArray 48) := ⟨_, rfl⟩
     have b8 : Below wr.heap.size wr w8 := by rw [hw8]; exact (Below.refl _ wr).alloc (Nat.le_refl _) _
     have ON8 := Aside0.mk (ON.out.grow b8)
     have QN := Aside0.mk (show w8.heap[nb]? = some (.cells (peerCells p P1 d1 P2 d2).toArray 48 (0, 0)) by rw [hw8, hnb]; exact heap_alloc_new wr _)
     obtain ⟨PX, hPX⟩ : ∃ PX, PX = (peerCells p P1 d1 P2 d2).toArray := ⟨_, rfl⟩
     have HPX := Aside0.mk hPX
     rw [← hPX] at st hw8 HLK
     clear hPX b8 hlook hin hsome hib hkk hlt
     obtain ⟨is, his⟩ : ∃ is, is = (putAt m d ((kk : Int) + 1)).isSome := ⟨_, rfl⟩
     rw [← his] at HLK
     have HIS := Aside0.mk his
     clear his
     go_upto_region 29 with (first | ((with_reducible refine at_look 110 (.tmp 102) (.tmp 104) ?_); refine wpList_look rfl (.tmp 102) (.tmp 104) 110 rfl _ _ _ rfl rfl HLK.out ?_) | ((with_reducible refine at_store 48 (.tmp 17) (.tmp 106) ?_); refine wpList_storeK rfl 48 (.tmp 17) (.tmp 106) rfl rfl _ _ rfl rfl _ (st.out _ rfl) ?_))
     rw [← hw8, ← hnb]
     clear hw8 hnb st hltz hw64
     cases is with
     | false =>
      have HNO := Aside0.mk (show putAt m d ((kk : Int) + 1) = none by have := HIS.out; cases hq : putAt m d ((kk : Int) + 1) with | none => rfl | some q => rw [hq] at this; cases this)
      go_wp2_with fail
      go_roundg (8 - (kk + 1))
      case measure => have := HKK.out; omega
      case rel => exact ⟨kk + 1, by first | rfl | (have h1 := HKK.out; have h3 : wrap64 ((kk : Int) + 1) = ((kk + 1 : Nat) : Int) := (by unfold wrap64; omega); rw [h3]), by have := HKK.out; omega, ⟨by rw [read_step_none HNO.out]; exact ON8.out⟩⟩
     | true =>
      have HYES := Aside0.mk (show putAt m d ((kk : Int) + 1) = some p by
       have := HIS.out
       cases hq : putAt m d ((kk : Int) + 1) with
       | none => rw [hq] at this; cases this
       | some q => rw [HSM.out q hq])
      have MPP := Aside0.mk (show p.inn.length ≤ 33 ∧ p.out.length ≤ 33 from put_spans N1.out.symm N2.out.symm HYES.out)
      go_upto_region 30 with fail
      obtain ⟨vs, hrow, hS⟩ := ON8.out.row
      have HROW := Aside0.mk hrow
      have HSS := Aside0.mk hS
      have HWT := Aside0.mk (show w9.heap.size ≤ w8.heap.size from ON8.out.kp.1)
      have HFEW := Aside0.mk (show (((nodesTo kk).filterMap (putAt m d)).length + 1) * 96 ≤ 140737488355328 by have h1 := @read_len (putAt m d) kk; have h2 := HKK.out; omega)
      have LT := Aside0.mk (fun (W : World) (hb : Below w8.heap.size w8 W) => run_loadAtK Tryz.prog W 48 36 Tryz.isAgg48 Tryz.sizeOf48 nb 0 (peerCells p P1 d1 P2 d2) (peerCells_len _ _ _ _ _) (cells_of_heap (roomN QN.out hb)))
      rw [← HPX.out] at LT
      clear hrow hS
      refine region_useA (G30 ob PX vs) (MP w9.heap.size ((nodesTo kk).filterMap (putAt m d)) p vs (OnB d.til d.clock d.node d.key d.exp w w9 ob ((nodesTo kk).filterMap (putAt m d) ++ [p])) 112 113 114 w8) [109, 110, 111, 112, 113, 114, 115] (by kernel_rfl) rfl (by kernel_rfl) ⟨fun _ => (Below.refl _ _).drew, fun e => by simp [Array.getD] at e, fun e => by simp [Array.getD] at e, fun e => by simp [Array.getD] at e, fun e => by simp [Array.getD] at e⟩ ?_ ?_
      ·intro i o l y W hi hs hnd hd hC hI hM K hK
       have hs : l.size = 8 := hs
       have hlt : i < 8 := (Array.getElem?_eq_some_iff.1 hi).1
       have hobq : ob < w8.heap.size := by have := S9.out; have := HWT.out; omega
       have hcase : i = 0 ∨ i = 1 ∨ i = 2 ∨ i = 3 ∨ i = 4 ∨ i = 5 ∨ i = 6 ∨ i = 7 := by omega
       rcases hcase with rfl | rfl | rfl | rfl | rfl | rfl | rfl | rfl
       ·-- 0
        exact wp_value (exec_fieldAddr 31 5 (.tmp 15) o (opIs hi rfl) y _ _ (hI.slot 15 (by rfl) rfl) (field31_5 W ob)) (hK _ _ (fun _ _ h => h) (fun _ _ => rfl) (hM.step (by decide) (by decide) (by decide) (by decide) (by rw [dstIs hi rfl]; exact put_at (by decide)) (by rw [dstIs hi rfl]; exact put_at (by decide)) (by rw [dstIs hi rfl]; exact put_at (by decide))))
       ·-- 1
        have hB := (hM.cell (fun e => notDone hs (by decide) hnd (hC.dep 5 1 (by kernel_rfl) e)))
        exact wp_value (yields_load 29 (.tmp 109) o (opIs hi rfl) y _ (hI.got hi hd (j := 0) (by kernel_rfl) rfl) _ (run_load1 29 Tryz.isAgg29 (by rw [cell_of_heap ((hB.block ob hobq).trans HROW.out)]; exact mapV36 _ _ _ _ _ _))) (hK _ _ (fun _ _ h => h) (fun _ _ => rfl) (hM.step (by decide) (by decide) (by decide) (by decide) (by rw [dstIs hi rfl]; exact put_at (by decide)) (by rw [dstIs hi rfl]; exact put_at (by decide)) (by rw [dstIs hi rfl]; exact put_at (by decide))))
       ·-- 2
        have hB := (hM.cell (fun e => notDone hs (by decide) hnd (hC.dep 3 2 (by kernel_rfl) (hC.dep 4 3 (by kernel_rfl) (hC.dep 5 4 (by kernel_rfl) e)))))
        exact wp_value (yields_load 48 (.tmp 17) o (opIs hi rfl) y _ (hI.slot 17 (by rfl) rfl) _ (LT.out W hB)) (hK _ _ (fun _ _ h => h) (fun _ _ => rfl) (hM.step (by decide) (by decide) (by decide) (by decide) (by rw [dstIs hi rfl]; exact put_at (by decide)) (by rw [dstIs hi rfl]; exact put_at (by decide)) (by rw [dstIs hi rfl]; exact put_at (by decide))))
       ·-- 3
        have hB := (hM.cell (fun e => notDone hs (by decide) hnd (hC.dep 4 3 (by kernel_rfl) (hC.dep 5 4 (by kernel_rfl) e))))
        have e104 : y.eval (.tmp 111) = .agg PX := hI.got hi hd (j := 2) (by kernel_rfl) rfl
        have hg : o.guard = none := (okOps_at (n := 122) (by kernel_rfl) hi).1
        refine wp_goes Tryz.func69 (by kernel_rfl) rfl #[.agg PX] hg (opIs hi rfl) (by simp only [List.map_toArray, List.map_cons, List.map_nil, e104]) ?_
        rw [HPX.out]
        refine (own69 p P1 P2 d1 d2 W (HINP.out.below (below_step ON8.out.lo hB)) (by have := MPP.out; omega) (by have := MPP.out; omega)).mono ?_
        rintro e' W' ⟨v1, v2, rfl, r1, r2, hb'⟩
        refine ⟨_, rfl, hK _ W' (fun _ _ h => h) (fun _ _ => trivial) ⟨fun _ => below_step hB hb', fun _ _ => ⟨v1, v2, ?_, Kd.R_mono (Kd.R_lower (Kd.R_bound r1) hB.size) (fun k hk => Nat.le_trans hB.size hk.2.1), Kd.R_mono (Kd.R_lower (Kd.R_bound r2) hB.size) (fun k hk => Nat.le_trans hB.size hk.2.1)⟩, fun e => ?_, fun e => ?_, fun e => ?_⟩⟩
        ·rw [dstIs hi rfl]; exact put_same (by rw [hI.size]; show 112 < 122; decide)
        ·rw [setB (by decide)] at e; exact absurd (hC.dep 4 3 (by kernel_rfl) e) (notDone hs (by decide) hnd)
        ·rw [setB (by decide)] at e; exact absurd (hC.dep 4 3 (by kernel_rfl) (hC.dep 5 4 (by kernel_rfl) e)) (notDone hs (by decide) hnd)
        ·rw [setB (by decide)] at e; exact absurd (hC.dep 4 3 (by kernel_rfl) (hC.dep 5 4 (by kernel_rfl) (hC.dep 7 5 (by kernel_rfl) e))) (notDone hs (by decide) hnd)
       ·-- 4
        have hB := (hM.cell (fun e => notDone hs (by decide) hnd (hC.dep 5 4 (by kernel_rfl) e)))
        have h3 : l.getD 3 false = true := depB hi (by kernel_rfl) hd
        have h4 : l.getD 4 false = false := by simpa using notDone hs (by decide) hnd
        obtain ⟨x1, x2, e105, r1, r2⟩ := hM.s1 h3 h4
        have e105 : y.eval (.tmp 112) = .agg (peerV p x1 x2).toArray := e105
        refine wp_value (exec_bslice 29 1 #[(0, .tmp 112)] o (opIs hi rfl) y #[(0, .agg (peerV p x1 x2).toArray)] (by simp only [List.map_toArray, List.map_cons, List.map_nil, e105]) _ (buildP W p x1 x2)) (hK _ _ (fun _ _ h => h) (fun _ _ => trivial) ⟨fun e => ?_, fun _ e => ?_, fun _ _ => ⟨W, x1, x2, rfl, hB, ?_, r1, r2⟩, fun e => ?_, fun e => ?_⟩)
        ·rw [setS (by omega)] at e; cases e
        ·rw [setS (by omega)] at e; cases e
        ·rw [dstIs hi rfl]; exact put_same (by rw [hI.size]; show 113 < 122; decide)
        ·rw [setB (by decide)] at e; exact absurd (hC.dep 5 4 (by kernel_rfl) e) (notDone hs (by decide) hnd)
        ·rw [setB (by decide)] at e; exact absurd (hC.dep 5 4 (by kernel_rfl) (hC.dep 7 5 (by kernel_rfl) e)) (notDone hs (by decide) hnd)
       ·-- 5
        have h4 : l.getD 4 false = true := depB hi (by kernel_rfl) hd
        have h5 : l.getD 5 false = false := by simpa using notDone hs (by decide) hnd
        obtain ⟨Wp, x1, x2, rfl, hbp, e106, r1, r2⟩ := hM.s2 h4 h5
        have e103 : y.eval (.tmp 110) = vs := hI.got hi hd (j := 1) (by kernel_rfl) rfl
        have hg : o.guard = none := (okOps_at (n := 122) (by kernel_rfl) hi).1
        have hw : Region.wanted o (yielded #[] y.tmps) = true := by unfold Region.wanted; rw [hg]
        have HPM2 : kPeer.M Wp w9.heap.size (fun k => w8.heap.size ≤ k) p (peerV p x1 x2) := kPeer_mkM (Kd.R_lower r1 HWT.out) (Kd.R_lower r2 HWT.out)
        refine wanted_true (ops := #[]) (X := K (y.put o.dst undef) (Wp.alloc (.cells (peerV p x1 x2).toArray 48))) hg (Kd.R_append_step kPeer (w0 := w8) (W := Wp) (ops := #[]) w9.heap.size hw (.tmp 110) (.tmp 113) 29 48 (.agg zeroPeer) 96 (opIs hi rfl) Tryz.underlying29 (by kernel_rfl) (by kernel_rfl) (by decide) (by decide) vs ((nodesTo kk).filterMap (putAt m d)) p (peerV p x1 x2) (fun k => w9.heap.size ≤ k) (fun k => w8.heap.size ≤ k) e103 e106 HPM2 (fun k hk => ⟨Nat.le_trans HWT.out hk, fun e => by have := ((Kd.R_bound HSS.out).1 k e.symm).2.2.1; omega⟩) (fun k hk => Nat.le_trans (Nat.le_trans HWT.out hbp.size) hk) (Kd.R_below HSS.out hbp) (hbp.mono HWT.out) (Nat.le_trans HWT.out hbp.size) HFEW.out ?_)
        intro v1 w11 hr1 hbel hgrow hat
        refine hK v1 w11 (fun _ _ h => h) (fun _ _ => trivial) ⟨fun e => ?_, fun _ e => ?_, fun _ e => ?_, fun _ _ => ⟨?_, hbel, grownBy_trans (grown_of_below hbp) hgrow⟩, fun e => ?_⟩
        ·rw [setB (by decide), h4] at e; cases e
        ·rw [setB (by decide), h4] at e; cases e
        ·rw [setS (by omega)] at e; cases e
        ·have e3 : (y.put o.dst v1).tmps.getD 114 undef = v1 := by rw [dstIs hi rfl]; exact put_same (by rw [hI.size]; show 114 < 122; decide)
         rw [e3]; exact hr1
        ·rw [setB (by decide)] at e; exact absurd (hC.dep 7 5 (by kernel_rfl) e) (notDone hs (by decide) hnd)
       ·-- 6
        exact wp_value (exec_fieldAddr 31 5 (.tmp 15) o (opIs hi rfl) y _ _ (hI.slot 15 (by rfl) rfl) (field31_5 W ob)) (hK _ _ (fun _ _ h => h) (fun _ _ => rfl) (hM.step (by decide) (by decide) (by decide) (by decide) (by rw [dstIs hi rfl]; exact put_at (by decide)) (by rw [dstIs hi rfl]; exact put_at (by decide)) (by rw [dstIs hi rfl]; exact put_at (by decide))))
       ·-- 7
        have h5 : l.getD 5 false = true := depB hi (by kernel_rfl) hd
        have h4 : l.getD 4 false = true := hC.dep 5 4 (by kernel_rfl) h5
        have h7 : l.getD 7 false = false := by simpa using notDone hs (by decide) hnd
        obtain ⟨hr1, hbel, hgrow⟩ := hM.s3 h5 h7
        have e108 : y.eval (.tmp 115) = .pointer (some ⟨ob, 36, none⟩) := hI.got hi hd (j := 6) (by kernel_rfl) rfl
        obtain ⟨v1, hv1⟩ : ∃ v1, v1 = y.tmps.getD 114 undef := ⟨_, rfl⟩
        rw [← hv1] at hr1
        have hrow1 := (hbel.block ob (by have := S9.out; omega)).trans HROW.out
        obtain ⟨VA, vc, hva⟩ := Kd.R_slice hr1
        have hstore := run_storeAt1 Tryz.prog W 29 Tryz.sizeOf29 ob 36 v1 (by rw [hva]; rfl) (by rw [hva]; rfl) _ (by rw [cell_of_heap hrow1]; exact mapV36 _ _ _ _ _ _) (frozen_of_heap hrow1)
        refine wp_skip (runs_store 29 (.tmp 115) (.tmp 114) o (opIs hi rfl) y _ _ e108 hv1.symm _ hstore) (hK _ _ (fun _ _ h => h) (fun N hN => by rw [dstIs hi rfl] at hN; cases hN) ⟨fun e => ?_, fun _ e => ?_, fun _ e => ?_, fun _ e => ?_, fun _ => ON8.out.put (by have := S9.out; have := S5.out; have := HBB.out; omega) (by have := S9.out; omega) HROW.out hr1 hbel⟩)
        ·rw [setB (by decide), h4] at e; cases e
        ·rw [setB (by decide), h4] at e; cases e
        ·rw [setB (by decide), h5] at e; cases e
        ·rw [setS (by omega)] at e; cases e
      ·intro v' W hv y hns hM
       have ONN := Aside0.mk (hM.s4 (by rfl))
       clear hv hM hns
       simp only [List.map_cons, List.map_nil, putAll]
       simp only [Act.put, List.setIfInBounds_toArray, List.set_cons_zero, List.set_cons_succ]
       go_wp2_with fail
       go_roundg (8 - (kk + 1))
       case measure => have := HKK.out; omega
       case rel => exact ⟨kk + 1, by first | rfl | (have h1 := HKK.out; have h3 : wrap64 ((kk : Int) + 1) = ((kk + 1 : Nat) : Int) := (by unfold wrap64; omega); rw [h3]), by have := HKK.out; omega, ⟨by rw [read_step_some HYES.out]; exact ONN.out⟩⟩
end Go.Proofs.YtmgbaefgcdglpaaGreatDoor.Net
end
section
namespace Go.Proofs.YtmgbaefgcdglpaaGreatDoor.Net
open Go Go.RowKit Go.Proofs Go.Proofs.YtmgbaefgcdglpaaGreatDoorW.PrintWords Go.Proofs.YtmgbaefgcdglpaaGreatDoorW.PrintLast Go.Proofs.YtmgbaefgcdglpaaGreatDoorW.PrintMore Go.Proofs.YtmgbaefgcdglpaaGreatDoor.Dir
set_option linter.unusedVariables false
set_option linter.unusedSimpArgs false
theorem diff_any (a b : NMap) (A1 : Option Addr) (c1 : Nat) (A2 : Option Addr) (c2 : Nat) (w : World) (ha : PsAt w A1 c1 a.peers) (hb : PsAt w A2 c2 b.peers) :
  Calls Tryz.prog 29 #[.agg (mapCells a A1 c1).toArray, .agg (mapCells b A2 c2).toArray] w fun e w' => ∃ D G g S s, ∃ code : Int, e = .returned (.tuple #[.agg (delCells D G g S s).toArray, .int .i64 code]) ∧ DAt w' D G g S s ∧ Below w.heap.size w w' ∧ (D, code) = diffOf a b ∧ kInt.R 3 w' w.heap.size (fun _ => True) (.slice G D.gone.length g) D.gone ∧ kPeer.R 48 w' w.heap.size (fun _ => True) (.slice S D.set.length s) D.set := by
 refine (diff29 a b A1 c1 A2 c2 w ha hb).mono ?_
 rintro e w' ⟨⟨vg, vs, rfl, hg, hs⟩, hbl⟩
 obtain ⟨G, g, rfl, h1, h2⟩ := Kd.R_reads hg
 obtain ⟨S, s, rfl, h3, h4⟩ := Kd.R_reads hs
 exact ⟨(diffOf a b).1, G, g, S, s, (diffOf a b).2, rfl, ⟨h1, h2, h3, h4⟩, hbl, rfl, hg, hs⟩
theorem apply_any (m : NMap) (d : NDel) (A : Option Addr) (c : Nat) (A1 : Option Addr) (c1 : Nat) (A2 : Option Addr) (c2 : Nat) (w : World) (hm : PsAt w A c m.peers) (hd : DAt w d A1 c1 A2 c2) :
  Calls Tryz.prog 33 #[.agg (mapCells m A c).toArray, .agg (delCells d A1 c1 A2 c2).toArray] w fun e w' => ∃ M PA pc, ∃ code : Int, e = .returned (.tuple #[.agg (mapCells M PA pc).toArray, .int .i64 code]) ∧ PsAt w' PA pc M.peers ∧ Below w.heap.size w w' ∧ (M, code) = applyOf m d ∧ kPeer.R 48 w' w.heap.size (fun _ => True) (.slice PA M.peers.length pc) M.peers := by
 refine (apply33 m d A c A1 c1 A2 c2 w hm hd).mono ?_
 rintro e w' ⟨⟨v, rfl, hv⟩, hbl⟩
 obtain ⟨PA, pc, rfl, h1, h2⟩ := Kd.R_reads hv
 exact ⟨(applyOf m d).1, PA, pc, (applyOf m d).2, rfl, ⟨h1, h2⟩, hbl, rfl, hv⟩
theorem del_one (d : NDel) (A1 : Option Addr) (c1 : Nat) (A2 : Option Addr) (c2 : Nat) : ∀ u ∈ (delCells d A1 c1 A2 c2).toArray.toList, u.oneCell' = true := fun u hu => delV_one _ _ _ _ _ _ _ _ rfl rfl u (by simpa [delCells, delV] using hu)
end Go.Proofs.YtmgbaefgcdglpaaGreatDoor.Net
end
