/- Diff: the difference of two netmaps. -/
import Derived.Test.YtmgbaefgcdglpaaGreatDoorNc27
section
namespace Go.Proofs.YtmgbaefgcdglpaaGreatDoor.Net
open Go Go.RowKit Go.Proofs Go.Proofs.YtmgbaefgcdglpaaGreatDoorW.PrintWords Go.Proofs.YtmgbaefgcdglpaaGreatDoorW.PrintLast Go.Proofs.YtmgbaefgcdglpaaGreatDoorW.PrintMore Go.Proofs.YtmgbaefgcdglpaaGreatDoor.Dir
set_option linter.unusedVariables false
set_option linter.unusedSimpArgs false
def zeroDel : Array Value := #[.int .i64 0, .int .i64 0, .int .i64 0, .int .i64 0, .int .u8 0, .int .u8 0, .int .u8 0, .int .u8 0, .int .u8 0, .int .u8 0, .int .u8 0, .int .u8 0, .int .u8 0, .int .u8 0, .int .u8 0, .int .u8 0, .int .u8 0, .int .u8 0, .int .u8 0, .int .u8 0, .int .u8 0, .int .u8 0, .int .u8 0, .int .u8 0, .int .u8 0, .int .u8 0, .int .u8 0, .int .u8 0, .int .u8 0, .int .u8 0, .int .u8 0, .int .u8 0, .int .u8 0, .int .u8 0, .int .u8 0, .int .u8 0, .int .i64 0, .slice none 0 0, .slice none 0 0]
set_option maxRecDepth 100000 in
theorem zeroDel_eq : zeroDel = (delV 0 0 0 0 key0 0 nilV nilV).toArray := by kernel_rfl
def DiffEnd (a b : NMap) (base : Nat) (e : Ending) (w' : World) : Prop :=
 ∃ vg vs, e = .returned (.tuple #[.agg (delV (diffOf a b).1.frm (diffOf a b).1.til (diffOf a b).1.clock (diffOf a b).1.node (diffOf a b).1.key (diffOf a b).1.exp vg vs).toArray, .int .i64 (diffOf a b).2]) ∧ kInt.R 3 w' base (fun _ => True) vg (diffOf a b).1.gone ∧ kPeer.R 48 w' base (fun _ => True) vs (diffOf a b).1.set
theorem DiffEnd.bad {a b : NMap} {base : Nat} {w' : World} {c : Int} (h : diffOf a b = (del0, c)) : DiffEnd a b base (.returned (.tuple #[.agg (delV 0 0 0 0 key0 0 nilV nilV).toArray, .int .i64 c])) w' := by
 unfold DiffEnd
 rw [h]
 exact ⟨nilV, nilV, rfl, Kd.R_nil _ _ _ _ _, Kd.R_nil _ _ _ _ _⟩
set_option maxHeartbeats 4000000 in
set_option maxRecDepth 100000 in
theorem diff29 (a b : NMap) (A1 : Option Addr) (c1 : Nat) (A2 : Option Addr) (c2 : Nat) (w : World) (ha : PsAt w A1 c1 a.peers) (hb : PsAt w A2 c2 b.peers) :
  Calls Tryz.prog 29 #[.agg (mapCells a A1 c1).toArray, .agg (mapCells b A2 c2).toArray] w fun e w' => DiffEnd a b w.heap.size e w' ∧ Below w.heap.size w w' := by
 obtain ⟨b0, hb0⟩ : ∃ b0, b0 = w.heap.size := ⟨_, rfl⟩
 obtain ⟨V1, hV1⟩ : ∃ V1, V1 = w.alloc (.cells (mapCells a A1 c1).toArray 31) := ⟨_, rfl⟩
 obtain ⟨V2, hV2⟩ : ∃ V2, V2 = V1.alloc (.cells (mapCells b A2 c2).toArray 31) := ⟨_, rfl⟩
 obtain ⟨W0, hW0⟩ : ∃ W0, W0 = V2.alloc (.cells zeroDel 55) := ⟨_, rfl⟩
 have s1 : V1.heap.size = b0 + 1 := by rw [hV1, hb0]; simp
 have s2 : V2.heap.size = b0 + 2 := by rw [hV2]; simp [s1]
 have p1 : V1.heap[b0]? = some (.cells (mapCells a A1 c1).toArray 31 (0, 0)) := by rw [hV1, hb0]; exact heap_alloc_new w _
 have p2 : V2.heap[b0 + 1]? = some (.cells (mapCells b A2 c2).toArray 31 (0, 0)) := by rw [hV2, ← s1]; exact heap_alloc_new V1 _
 have e12 : Below V1.heap.size V1 V2 := by rw [hV2]; exact (Below.refl _ V1).alloc (Nat.le_refl _) _
 have e20 : Below V2.heap.size V2 W0 := by rw [hW0]; exact (Below.refl _ V2).alloc (Nat.le_refl _) _
 have e01 : Below w.heap.size w V1 := by rw [hV1]; exact (Below.refl _ w).alloc (Nat.le_refl _) _
 have hbw : Below w.heap.size w W0 := below_step (below_step e01 e12) e20
 have q1 : W0.heap[b0]? = some (.cells (mapCells a A1 c1).toArray 31 (0, 0)) := roomN (roomN p1 e12) e20
 have q2 : W0.heap[b0 + 1]? = some (.cells (mapCells b A2 c2).toArray 31 (0, 0)) := roomN p2 e20
 have q3 : W0.heap[b0 + 2]? = some (.cells (delV 0 0 0 0 key0 0 nilV nilV).toArray 55 (0, 0)) := by rw [hW0, ← s2, ← zeroDel_eq]; exact heap_alloc_new V2 _
 have HQ := Aside0.mk (And.intro q1 (And.intro q2 q3))
 have HBW := Aside0.mk hbw
 have HBB := Aside0.mk (And.intro hb0 (show W0.heap.size = b0 + 3 by rw [hW0]; simp [s2]))
 have HPA := Aside0.mk ha
 have HPB := Aside0.mk hb
 have LA := Aside0.mk (fun (W : World) (h : Below W0.heap.size W0 W) => run_loadAtK Tryz.prog W 31 37 Tryz.isAgg31 Tryz.sizeOf31 b0 0 (mapCells a A1 c1) (mapCells_len _ _ _) (cells_of_heap (roomN q1 h)))
 have LB := Aside0.mk (fun (W : World) (h : Below W0.heap.size W0 W) => run_loadAtK Tryz.prog W 31 37 Tryz.isAgg31 Tryz.sizeOf31 (b0 + 1) 0 (mapCells b A2 c2) (mapCells_len _ _ _) (cells_of_heap (roomN q2 h)))
 have CA := Aside0.mk (fun (W : World) (h : Below W0.heap.size W0 W) => check27 a A1 c1 W ((ha.below hbw).below h))
 have CB := Aside0.mk (fun (W : World) (h : Below W0.heap.size W0 W) => check27 b A2 c2 W ((hb.below hbw).below h))
 obtain ⟨X, hX⟩ : ∃ X, X = (mapCells a A1 c1).toArray := ⟨_, rfl⟩
 obtain ⟨Y, hY⟩ : ∃ Y, Y = (mapCells b A2 c2).toArray := ⟨_, rfl⟩
 have HXY := Aside0.mk (And.intro hX hY)
 rw [← hX] at hV1 LA CA ⊢
 rw [← hY] at hV2 LB CB ⊢
 clear q1 q2 q3 hbw ha hb hX hY s1 s2 p1 p2 e12 e20 e01
 go_enter Tryz.func29, Tryz.ntmps29
 go_upto_region 1 with fail
 change Code.wp _ _ _ _ (((w.alloc (.cells X 31)).alloc (.cells Y 31)).alloc (.cells zeroDel 55))
 rw [← hV1, ← hV2, ← hW0, ← hb0]
 clear hV1 hV2 hW0 hb0
 have la := Aside0.mk (LA.out W0 (Below.refl _ _))
 go_wp2_with ((with_reducible refine at_load 31 (.tmp 2) ?_); refine wpList_loadK rfl 31 (.tmp 2) rfl _ rfl _ la.out ?_)
 refine (CA.out W0 (Below.refl _ _)).mono ?_
 rintro r w1 ⟨rfl, hb1⟩
 have B1 := Aside0.mk hb1
 obtain ⟨n1, hn1⟩ : ∃ n1, n1 = okM a := ⟨_, rfl⟩
 rw [← hn1]
 have N1 := Aside0.mk hn1
 have R1 := Aside0.mk (roomN HQ.out.2.2 hb1)
 clear hb1 hn1 la
 cases n1
 case false =>
  rw [if_neg (by decide)]
  have BZ := Aside0.mk (build55z w1)
  have ST := Aside0.mk (store_full w1 55 39 (b0 + 2) Tryz.sizeOf55 _ (delV 0 0 0 0 key0 0 nilV nilV) R1.out (delV_len _ _ _ _ _ _ _ _) (delV_len _ _ _ _ _ _ _ _) (delV_one _ _ _ _ _ _ _ _ rfl rfl))
  have HF := Aside0.mk (setRow_heap w1 (b0 + 2) _ (delV 0 0 0 0 key0 0 nilV nilV).toArray 55 (0, 0) R1.out)
  have HE := Aside0.mk (show Below w.heap.size w (w1.setRow (b0 + 2) (delV 0 0 0 0 key0 0 nilV nilV).toArray) from below_setRow (below_step HBW.out B1.out) (by have := HBB.out; omega) _)
  obtain ⟨Z, hZ⟩ : ∃ Z, Z = (delV 0 0 0 0 key0 0 nilV nilV).toArray := ⟨_, rfl⟩
  have HZ := Aside0.mk (And.intro (show Z.size = 39 by rw [hZ]; simp [delV_len]) hZ)
  rw [← hZ] at BZ ST HF HE
  clear hZ
  go_wp2_with (first | ((with_reducible refine at_build 55 #[] ?_); refine wpList_valueW (by rfl) (.agg Z) w1 (exec_build 55 _ _ rfl _ #[] (by simp) _ BZ.out) ?_) | ((with_reducible refine at_store 55 (.tmp 4) (.tmp 22) ?_); refine wpList_storeK rfl 55 (.tmp 4) (.tmp 22) rfl rfl _ _ rfl rfl _ ST.out ?_))
  try simp only [Exit.inBlock, Exit.then]
  refine bodyPost_ret (results_ct rfl _ _ (b0 + 2) 55 _ (0, 0) _ rfl HF.out Tryz.underlying55 rfl (by rw [HZ.out.1]; kernel_rfl)) rfl ?_
  refine ⟨?_, HE.out⟩
  rw [HZ.out.2]
  exact DiffEnd.bad (by unfold diffOf; rw [if_pos (.inl N1.out.symm)])
 rw [if_pos rfl]
 have lb := Aside0.mk (LB.out w1 B1.out)
 go_wp2_with ((with_reducible refine at_load 31 (.tmp 3) ?_); refine wpList_loadW (by rfl) 31 (.tmp 3) rfl _ rfl _ lb.out ?_)
 refine (CB.out w1 B1.out).mono ?_
 rintro r w2 ⟨rfl, hb2⟩
 have B2 := Aside0.mk (below_step B1.out hb2)
 obtain ⟨n2, hn2⟩ : ∃ n2, n2 = okM b := ⟨_, rfl⟩
 rw [← hn2]
 have N2 := Aside0.mk hn2
 have R2 := Aside0.mk (roomN R1.out hb2)
 clear hb2 hn2 lb R1
 cases n2
 case false =>
  rw [if_neg (by decide)]
  have BZ := Aside0.mk (build55z w2)
  have ST := Aside0.mk (store_full w2 55 39 (b0 + 2) Tryz.sizeOf55 _ (delV 0 0 0 0 key0 0 nilV nilV) R2.out (delV_len _ _ _ _ _ _ _ _) (delV_len _ _ _ _ _ _ _ _) (delV_one _ _ _ _ _ _ _ _ rfl rfl))
  have HF := Aside0.mk (setRow_heap w2 (b0 + 2) _ (delV 0 0 0 0 key0 0 nilV nilV).toArray 55 (0, 0) R2.out)
  have HE := Aside0.mk (show Below w.heap.size w (w2.setRow (b0 + 2) (delV 0 0 0 0 key0 0 nilV nilV).toArray) from below_setRow (below_step HBW.out B2.out) (by have := HBB.out; omega) _)
  obtain ⟨Z, hZ⟩ : ∃ Z, Z = (delV 0 0 0 0 key0 0 nilV nilV).toArray := ⟨_, rfl⟩
  have HZ := Aside0.mk (And.intro (show Z.size = 39 by rw [hZ]; simp [delV_len]) hZ)
  rw [← hZ] at BZ ST HF HE
  clear hZ
  go_wp2_with (first | ((with_reducible refine at_build 55 #[] ?_); refine wpList_valueW (by rfl) (.agg Z) w2 (exec_build 55 _ _ rfl _ #[] (by simp) _ BZ.out) ?_) | ((with_reducible refine at_store 55 (.tmp 4) (.tmp 22) ?_); refine wpList_storeK rfl 55 (.tmp 4) (.tmp 22) rfl rfl _ _ rfl rfl _ ST.out ?_))
  try simp only [Exit.inBlock, Exit.then]
  refine bodyPost_ret (results_ct rfl _ _ (b0 + 2) 55 _ (0, 0) _ rfl HF.out Tryz.underlying55 rfl (by rw [HZ.out.1]; kernel_rfl)) rfl ?_
  refine ⟨?_, HE.out⟩
  rw [HZ.out.2]
  exact DiffEnd.bad (by unfold diffOf; rw [if_pos (.inr N2.out.symm)])
 rw [if_pos rfl]
 obtain ⟨qa, qb, -⟩ := HQ.out
 have qa := roomN qa B2.out
 have qb := roomN qb B2.out
 have a0 : w2.cell? ⟨b0, 0, none⟩ = some (.int .i64 a.ver) := by rw [cell_of_heap qa]; rfl
 have a2 : w2.cell? ⟨b0, 2, none⟩ = some (.int .i64 a.node) := by rw [cell_of_heap qa]; rfl
 have b0' : w2.cell? ⟨b0 + 1, 0, none⟩ = some (.int .i64 b.ver) := by rw [cell_of_heap qb]; rfl
 have b1' : w2.cell? ⟨b0 + 1, 1, none⟩ = some (.int .i64 b.clock) := by rw [cell_of_heap qb]; rfl
 have b2' : w2.cell? ⟨b0 + 1, 2, none⟩ = some (.int .i64 b.node) := by rw [cell_of_heap qb]; rfl
 have b35 : w2.cell? ⟨b0 + 1, 35, none⟩ = some (.int .i64 b.exp) := by rw [cell_of_heap qb]; exact map35 b A2 c2
 have l28 := Aside0.mk (run_loadAtK Tryz.prog w2 28 32 Tryz.isAgg28 Tryz.sizeOf28 (b0 + 1) 3 (encK b.key) (encK_len _) (fun j v hj => by rw [cell_of_heap qb]; exact mapK b A2 c2 j v hj))
 have HQQ := Aside0.mk (And.intro qa qb)
 clear qa qb
 have hok : ¬ (okM a = false ∨ okM b = false) := by rw [← N1.out, ← N2.out]; decide
 have HOK := Aside0.mk hok
 clear hok
 by_cases h1 : a.node = b.node
 case neg =>
  have h1d : (a.node == b.node) = false := by simpa using h1
  have h1n : (a.node != b.node) = true := by simpa using h1
  have H1 := Aside0.mk h1
  have BZ := Aside0.mk (build55z w2)
  have ST := Aside0.mk (store_full w2 55 39 (b0 + 2) Tryz.sizeOf55 _ (delV 0 0 0 0 key0 0 nilV nilV) R2.out (delV_len _ _ _ _ _ _ _ _) (delV_len _ _ _ _ _ _ _ _) (delV_one _ _ _ _ _ _ _ _ rfl rfl))
  have HF := Aside0.mk (setRow_heap w2 (b0 + 2) _ (delV 0 0 0 0 key0 0 nilV nilV).toArray 55 (0, 0) R2.out)
  have HE := Aside0.mk (show Below w.heap.size w (w2.setRow (b0 + 2) (delV 0 0 0 0 key0 0 nilV nilV).toArray) from below_setRow (below_step HBW.out B2.out) (by have := HBB.out; omega) _)
  obtain ⟨Z, hZ⟩ : ∃ Z, Z = (delV 0 0 0 0 key0 0 nilV nilV).toArray := ⟨_, rfl⟩
  have HZ := Aside0.mk (And.intro (show Z.size = 39 by rw [hZ]; simp [delV_len]) hZ)
  rw [← hZ] at BZ ST HF HE
  clear hZ
  go_wp2_with (first | ((with_reducible refine at_build 55 #[] ?_); refine wpList_valueW (by rfl) (.agg Z) w2 (exec_build 55 _ _ rfl _ #[] (by simp) _ BZ.out) ?_) | ((with_reducible refine at_store 55 (.tmp 4) (.tmp 36) ?_); refine wpList_storeK rfl 55 (.tmp 4) (.tmp 36) rfl rfl _ _ rfl rfl _ ST.out ?_))
  try simp only [Exit.inBlock, Exit.then]
  refine bodyPost_ret (results_ct rfl _ _ (b0 + 2) 55 _ (0, 0) _ rfl HF.out Tryz.underlying55 rfl (by rw [HZ.out.1]; kernel_rfl)) rfl ?_
  refine ⟨?_, HE.out⟩
  rw [HZ.out.2]
  exact DiffEnd.bad (by unfold diffOf; rw [if_neg HOK.out, if_pos (.inl H1.out)])
 have h1d : (a.node == b.node) = true := by simpa using h1
 have h1n : (a.node != b.node) = false := by simpa using h1
 have H1 := Aside0.mk h1
 clear h1
 by_cases h2 : b.ver < a.ver
 case pos =>
  have h2d : decide (b.ver < a.ver) = true := decide_eq_true h2
  have H2 := Aside0.mk h2
  have BZ := Aside0.mk (build55z w2)
  have ST := Aside0.mk (store_full w2 55 39 (b0 + 2) Tryz.sizeOf55 _ (delV 0 0 0 0 key0 0 nilV nilV) R2.out (delV_len _ _ _ _ _ _ _ _) (delV_len _ _ _ _ _ _ _ _) (delV_one _ _ _ _ _ _ _ _ rfl rfl))
  have HF := Aside0.mk (setRow_heap w2 (b0 + 2) _ (delV 0 0 0 0 key0 0 nilV nilV).toArray 55 (0, 0) R2.out)
  have HE := Aside0.mk (show Below w.heap.size w (w2.setRow (b0 + 2) (delV 0 0 0 0 key0 0 nilV nilV).toArray) from below_setRow (below_step HBW.out B2.out) (by have := HBB.out; omega) _)
  obtain ⟨Z, hZ⟩ : ∃ Z, Z = (delV 0 0 0 0 key0 0 nilV nilV).toArray := ⟨_, rfl⟩
  have HZ := Aside0.mk (And.intro (show Z.size = 39 by rw [hZ]; simp [delV_len]) hZ)
  rw [← hZ] at BZ ST HF HE
  clear hZ
  go_wp2_with (first | ((with_reducible refine at_build 55 #[] ?_); refine wpList_valueW (by rfl) (.agg Z) w2 (exec_build 55 _ _ rfl _ #[] (by simp) _ BZ.out) ?_) | ((with_reducible refine at_store 55 (.tmp 4) (.tmp 36) ?_); refine wpList_storeK rfl 55 (.tmp 4) (.tmp 36) rfl rfl _ _ rfl rfl _ ST.out ?_))
  try simp only [Exit.inBlock, Exit.then]
  refine bodyPost_ret (results_ct rfl _ _ (b0 + 2) 55 _ (0, 0) _ rfl HF.out Tryz.underlying55 rfl (by rw [HZ.out.1]; kernel_rfl)) rfl ?_
  refine ⟨?_, HE.out⟩
  rw [HZ.out.2]
  exact DiffEnd.bad (by unfold diffOf; rw [if_neg HOK.out, if_pos (.inr H2.out)])
 have h2d : decide (b.ver < a.ver) = false := decide_eq_false h2
 have H2 := Aside0.mk h2
 have HDF := Aside0.mk (show diffOf a b = (diffV a b, 0) by unfold diffOf; rw [if_neg HOK.out, if_neg (fun e => e.elim (fun e => e H1.out) (fun e => H2.out e))])
 have BM := Aside0.mk (build55 w2 a.ver b.ver b.clock b.node b.key b.exp)
 obtain ⟨Z, hZ⟩ : ∃ Z, Z = (delV a.ver b.ver b.clock b.node b.key b.exp nilV nilV).toArray := ⟨_, rfl⟩
 have SN := Aside0.mk (fun (C : Array Value) (hc : C.size = 39) => run_storeNew Tryz.prog w2 55 39 (by kernel_rfl) C (delV a.ver b.ver b.clock b.node b.key b.exp nilV nilV).toArray hc (by simpa using delV_len _ _ _ _ _ _ _ _) (fun u hu => delV_one _ _ _ _ _ _ _ _ rfl rfl u (by simpa using hu)))
 obtain ⟨b6, hb6⟩ : ∃ b6, b6 = w2.heap.size := ⟨_, rfl⟩
 obtain ⟨w5, hw5⟩ : ∃ w5, w5 = w2.alloc (.cells Z 55) := ⟨_, rfl⟩
 have hb5 : Below w2.heap.size w2 w5 := by rw [hw5]; exact (Below.refl _ w2).alloc (Nat.le_refl _) _
 have B5 := Aside0.mk (below_step B2.out hb5)
 have R5 := Aside0.mk (roomN R2.out hb5)
 have QM5 := Aside0.mk (show w5.heap[b6]? = some (.cells (delV a.ver b.ver b.clock b.node b.key b.exp nilV nilV).toArray 55 (0, 0)) by rw [hw5, hb6, hZ]; exact heap_alloc_new w2 _)
 have S5 := Aside0.mk (show w5.heap.size = b6 + 1 ∧ b0 + 3 ≤ b6 by rw [hw5, hb6]; have := HBB.out.2; have := B2.out.size; simp; omega)
 have a36 : w5.cell? ⟨b0, 36, none⟩ = some (.slice A1 a.peers.length c1) := by rw [cell_of_heap (roomN HQQ.out.1 hb5)]; exact map36 a A1 c1
 have b36 : w5.cell? ⟨b0 + 1, 36, none⟩ = some (.slice A2 b.peers.length c2) := by rw [cell_of_heap (roomN HQQ.out.2 hb5)]; exact map36 b A2 c2
 rw [← hZ] at BM SN
 clear hb5 R2 hZ h2
 go_upto_region 6 with (first | ((with_reducible refine at_load 28 (.tmp 45) ?_); refine wpList_loadK rfl 28 (.tmp 45) rfl _ rfl _ l28.out ?_) | ((with_reducible refine at_build 55 #[(0, .tmp 38), (1, .tmp 40), (2, .tmp 42), (3, .tmp 44), (4, .tmp 46), (5, .tmp 48)] ?_); refine wpList_valueW (by rfl) (.agg Z) w2 (exec_build 55 _ _ rfl _ #[(0, .int .i64 a.ver), (1, .int .i64 b.ver), (2, .int .i64 b.clock), (3, .int .i64 b.node), (4, .agg (encK b.key).toArray), (5, .int .i64 b.exp)] (by simp only [List.map_toArray, List.map_cons, List.map_nil]; rfl) _ BM.out) ?_) | ((with_reducible refine at_store 55 (.tmp 6) (.tmp 49) ?_); refine wpList_storeK rfl 55 (.tmp 6) (.tmp 49) rfl rfl _ _ rfl rfl _ (SN.out _ rfl) ?_))
 rw [← hw5, ← hb6]
 clear hw5 hb6 BM SN l28 a0 a2 b0' b1' b2' b35 h1d h1n h2d
 have OD := Aside0.mk (show OnD a b w w5 b6 [] [] w5 from ⟨below_step HBW.out B5.out, KeepBut.refl _ _ _, nilV, nilV, QM5.out, Kd.R_nil _ _ _ _ _, Kd.R_nil _ _ _ _ _⟩)
 go_upto_region 8 with fail
 clear a36 b36
 have FA := Aside0.mk (okM_few N1.out.symm)
 have FB := Aside0.mk (okM_few N2.out.symm)
 have MB := Aside0.mk (fun p (hp : p ∈ b.peers) => okM_spans N2.out.symm hp)
 go_loopg [7, 55] b.peers.length (fun kx s7 s55 wr => ∃ (kk : Nat) (old : List Peer) (A : Option Addr) (c : Nat) (g : List Int) (s : List Peer), s55 = .int .i64 kk ∧ s7 = .slice A old.length c ∧ kk + kx = b.peers.length ∧ Aside0 (PsAt w A c old) ∧ Aside0 (old.length + g.length ≤ a.peers.length) ∧ Aside0 (s.length ≤ kk) ∧ Aside0 (diffGo b.peers a.peers [] [] = diffGo (b.peers.drop kk) old g s) ∧ Aside0 (OnD a b w w5 b6 g s wr))
 case atStart => exact ⟨0, a.peers, A1, c1, [], [], rfl, rfl, by omega, HPA, ⟨by simp⟩, ⟨by simp⟩, ⟨rfl⟩, OD⟩
 case round =>
  obtain ⟨kk, old, A, c, g, s, rfl, rfl, hkk, PA7, LE, LS, DG, ON⟩ := hrel
  by_cases hlt : kk < b.peers.length
  case neg =>
   have hltz : ¬ (kk : Int) < (b.peers.length : Int) := by omega
   have DG2 := Aside0.mk (show diffGo b.peers a.peers [] [] = (g ++ old.map (·.node), s) by rw [DG.out, List.drop_of_length_le (by omega)]; rfl)
   clear hkk hlt
   go_upto_region 20 with fail
   clear hltz
   go_loopg [112] old.length (fun kx s112 wr => ∃ (jj : Nat) (g2 : List Int), s112 = .int .i64 jj ∧ jj + kx = old.length ∧ Aside0 (g2 = g ++ (old.take jj).map (·.node)) ∧ Aside0 (OnD a b w w5 b6 g2 s wr))
   case atStart => exact ⟨0, g, rfl, by omega, ⟨by simp⟩, ON⟩
   case round =>
    obtain ⟨jj, g2, rfl, hjj, HG, ON2⟩ := hrel
    by_cases hj : jj < old.length
    case neg =>
     have hjz : ¬ (jj : Int) < (old.length : Int) := by omega
     have HALL := Aside0.mk (show g2 = g ++ old.map (·.node) by rw [HG.out, List.take_of_length_le (by omega)])
     obtain ⟨vg, vs, hrow, hG, hS⟩ := ON2.out.row
     have hlo := ON2.out.lo
     have hres : wr.heap[b0 + 2]? = some (.cells (delV 0 0 0 0 key0 0 nilV nilV).toArray 55 (0, 0)) := (ON2.out.kp.2 (b0 + 2) (by have := S5.out; omega) (by have := S5.out; omega) (by simp)).trans R5.out
     have g1 : vg.oneCell' = true := by obtain ⟨A', c', rfl⟩ := Kd.R_slice hG; rfl
     have s1 : vs.oneCell' = true := by obtain ⟨A', c', rfl⟩ := Kd.R_slice hS; rfl
     have LM := Aside0.mk (run_loadAtK Tryz.prog wr 55 39 Tryz.isAgg55 Tryz.sizeOf55 b6 0 (delV a.ver b.ver b.clock b.node b.key b.exp vg vs) (delV_len _ _ _ _ _ _ _ _) (cells_of_heap hrow))
     have ST := Aside0.mk (store_full wr 55 39 (b0 + 2) Tryz.sizeOf55 _ (delV a.ver b.ver b.clock b.node b.key b.exp vg vs) hres (delV_len _ _ _ _ _ _ _ _) (delV_len _ _ _ _ _ _ _ _) (delV_one _ _ _ _ _ _ _ _ g1 s1))
     have HF := Aside0.mk (setRow_heap wr (b0 + 2) _ (delV a.ver b.ver b.clock b.node b.key b.exp vg vs).toArray 55 (0, 0) hres)
     have HE := Aside0.mk (show Below w.heap.size w (wr.setRow (b0 + 2) (delV a.ver b.ver b.clock b.node b.key b.exp vg vs).toArray) ∧ kInt.R 3 (wr.setRow (b0 + 2) (delV a.ver b.ver b.clock b.node b.key b.exp vg vs).toArray) w.heap.size (fun _ => True) vg g2 ∧ kPeer.R 48 (wr.setRow (b0 + 2) (delV a.ver b.ver b.clock b.node b.key b.exp vg vs).toArray) w.heap.size (fun _ => True) vs s from
      ⟨below_setRow hlo (by have := HBB.out; omega) _, Kd.R_mono (Kd.R_lower (Kd.R_step hG (fun k hk _ => setRow_other wr (b0 + 2) k _ (by have : w5.heap.size ≤ k := hk; have := S5.out; omega))) (by have := HBB.out; have := S5.out; omega)) (fun _ _ => trivial), Kd.R_mono (Kd.R_lower (Kd.R_step hS (fun k hk _ => setRow_other wr (b0 + 2) k _ (by have : w5.heap.size ≤ k := hk; have := S5.out; omega))) (by have := HBB.out; have := S5.out; omega)) (fun _ _ => trivial)⟩)
     obtain ⟨Z, hZ⟩ : ∃ Z, Z = (delV a.ver b.ver b.clock b.node b.key b.exp vg vs).toArray := ⟨_, rfl⟩
     have HZ := Aside0.mk (And.intro (show Z.size = 39 by rw [hZ]; simp [delV_len]) hZ)
     rw [← hZ] at LM ST HF HE
     clear hZ hrow hG hS hlo hres g1 s1 hjj hj
     go_wp2_with (first | ((with_reducible refine at_load 55 (.tmp 6) ?_); refine wpList_loadK rfl 55 (.tmp 6) rfl _ rfl _ LM.out ?_) | ((with_reducible refine at_store 55 (.tmp 4) (.tmp 124) ?_); refine wpList_storeK rfl 55 (.tmp 4) (.tmp 124) rfl rfl _ _ rfl rfl _ ST.out ?_))
     try simp only [Exit.inBlock, Exit.then]
     refine bodyPost_ret (results_ct rfl _ _ (b0 + 2) 55 _ (0, 0) _ rfl HF.out Tryz.underlying55 rfl (by rw [HZ.out.1]; kernel_rfl)) rfl ?_
     refine ⟨?_, HE.out.1⟩
     unfold DiffEnd
     have e1 : (diffV a b).gone = g2 ∧ (diffV a b).set = s := by
      have h1 := diff_walk N1.out.symm N2.out.symm
      rw [DG2.out] at h1
      rw [HALL.out]
      exact ⟨(congrArg Prod.fst h1).symm, (congrArg Prod.snd h1).symm⟩
     rw [HDF.out]
     refine ⟨vg, vs, by rw [HZ.out.2]; rfl, ?_, ?_⟩
     ·show kInt.R 3 _ _ _ vg (diffV a b).gone
      rw [e1.1]; exact HE.out.2.1
     ·show kPeer.R 48 _ _ _ vs (diffV a b).set
      rw [e1.2]; exact HE.out.2.2
    have hjz : (jj : Int) < (old.length : Int) := by omega
    obtain ⟨q, hq⟩ : ∃ q, old[jj]? = some q := ⟨_, List.getElem?_eq_getElem hj⟩
    obtain ⟨ga, oa, Q1, e1, Q2, e2, hA, hinq, hldq⟩ := PA7.out.load hq
    have L0 := Aside0.mk (hldq wr ON2.out.lo)
    subst hA
    have HQN := Aside0.mk hq
    have st := Aside0.mk (fun (C : Array Value) (hc : C.size = 36) => run_storeNew Tryz.prog wr 48 36 (by kernel_rfl) C (peerCells q Q1 e1 Q2 e2).toArray hc (by simpa using peerCells_len q Q1 e1 Q2 e2) (fun u hu => peerV_one q _ _ rfl rfl u (by simpa [peerCells] using hu)))
    obtain ⟨nq, hnq⟩ : ∃ nq, nq = wr.heap.size := ⟨_, rfl⟩
    obtain ⟨w8, hw8⟩ : ∃ w8, w8 = wr.alloc (.cells (peerCells q Q1 e1 Q2 e2).toArray 48) := ⟨_, rfl⟩
    have b8 : Below wr.heap.size wr w8 := by rw [hw8]; exact (Below.refl _ wr).alloc (Nat.le_refl _) _
    have q0 : w8.cell? ⟨nq, 0, none⟩ = some (.int .i64 q.node) := by rw [cell_of_heap (show w8.heap[nq]? = some (.cells (peerCells q Q1 e1 Q2 e2).toArray 48 (0, 0)) by rw [hw8, hnq]; exact heap_alloc_new wr _)]; rfl
    have ON8 := Aside0.mk (ON2.out.grow b8)
    obtain ⟨vg, vs, hrow, hG, hS⟩ := ON8.out.row
    obtain ⟨VG, cg, hvg⟩ := Kd.R_slice hG
    have k37 : w8.cell? ⟨b6, 37, none⟩ = some (.slice VG g2.length cg) := by rw [cell_of_heap hrow, delV37, hvg]
    have HROW := Aside0.mk hrow
    have HGG := Aside0.mk hG
    have HSS := Aside0.mk hS
    have HVG := Aside0.mk hvg
    have HFEW := Aside0.mk (show (g2.length + 1) * 8 ≤ 140737488355328 by have h1 := HG.out; have h2 := LE.out; have h3 := FA.out; rw [h1, List.length_append, List.length_map, List.length_take]; omega)
    have HW8 := Aside0.mk (show w5.heap.size ≤ w8.heap.size from ON8.out.kp.1)
    have HJJ := Aside0.mk (And.intro hjj hj)
    obtain ⟨PX, hPX⟩ : ∃ PX, PX = (peerCells q Q1 e1 Q2 e2).toArray := ⟨_, rfl⟩
    rw [← hPX] at L0 st hw8
    clear hPX b8 hq hinq hldq hjj hj hrow hG hS hvg
    go_upto_region 22 with (first | ((with_reducible refine at_load 48 (.tmp 114) ?_); refine wpList_loadK rfl 48 (.tmp 114) rfl _ rfl _ L0.out ?_) | ((with_reducible refine at_store 48 (.tmp 12) (.tmp 115) ?_); refine wpList_storeK rfl 48 (.tmp 12) (.tmp 115) rfl rfl _ _ rfl rfl _ (st.out _ rfl) ?_))
    rw [← hw8, ← hnq]
    clear hw8 hnq L0 st hjz
    go_wp2_with (first | (at_builtin; refine Kd.R_append kInt (w0 := w8) w5.heap.size rfl (.tmp 117) (.tmp 120) 53 3 (.int .i64 0) 8 rfl Tryz.underlying53 (by kernel_rfl) (by kernel_rfl) (by decide) (by decide) vg g2 q.node [.int .i64 q.node] (fun k => w5.heap.size ≤ k) (fun _ => False) HVG.out.symm rfl rfl (fun k hk => hk.elim) (fun k hk => Nat.le_trans HW8.out hk) HGG.out (Below.refl _ _) HW8.out HFEW.out ?_; intro v1 w11 hr1 hbel hgrow hat; have hrow1 : w11.heap[b6]? = some (.cells (delV a.ver b.ver b.clock b.node b.key b.exp vg vs).toArray 55 (0, 0)) := (hbel.block b6 (by have := S5.out; omega)).trans HROW.out; have ONN := Aside0.mk (ON8.out.gone (by have := S5.out; have := HBB.out; omega) (by have := S5.out; omega) HROW.out HGG.out HSS.out hr1 hbel hgrow); obtain ⟨VA, vc, hva⟩ := Kd.R_slice hr1; have ST := Aside0.mk (run_storeAt1 Tryz.prog w11 53 Tryz.sizeOf53 b6 37 v1 (by rw [hva]; rfl) (by rw [hva]; rfl) _ (by rw [cell_of_heap hrow1]; exact delV37 _ _ _ _ _ _ _ _) (frozen_of_heap hrow1)); clear hr1 hbel hgrow hat hrow1 hva k37) | ((with_reducible refine at_store 53 (.tmp 122) (.tmp 121) ?_); refine wpList_storeK rfl 53 (.tmp 122) (.tmp 121) rfl rfl _ _ rfl rfl _ ST.out ?_))
    go_roundg (old.length - (jj + 1))
    case measure => have := HJJ.out; omega
    case rel => exact ⟨jj + 1, g2 ++ [q.node], by have h1 := HJJ.out; have h2 := PA7.out.len; have h3 : wrap64 ((jj : Int) + 1) = ((jj + 1 : Nat) : Int) := (by unfold wrap64; omega); rw [h3], by have := HJJ.out; omega, ⟨by rw [HG.out, List.take_add_one, HQN.out, List.map_append, List.append_assoc]; rfl⟩, ONN⟩
  have hltz : (kk : Int) < (b.peers.length : Int) := by omega
  obtain ⟨p, hp⟩ : ∃ p, b.peers[kk]? = some p := ⟨_, List.getElem?_eq_getElem hlt⟩
  obtain ⟨gb, ob, P1, d1, P2, d2, hA2, hin, hld⟩ := HPB.out.load hp
  have L0 := Aside0.mk (hld wr ON.out.lo)
  subst hA2
  have HP := Aside0.mk hp
  have HIN := Aside0.mk hin
  have HKK := Aside0.mk (And.intro hkk hlt)
  have MP := Aside0.mk (MB.out p (List.mem_of_getElem? hp))
  have st := Aside0.mk (fun (C : Array Value) (hc : C.size = 36) => run_storeNew Tryz.prog wr 48 36 (by kernel_rfl) C (peerCells p P1 d1 P2 d2).toArray hc (by simpa using peerCells_len p P1 d1 P2 d2) (fun u hu => peerV_one p _ _ rfl rfl u (by simpa [peerCells] using hu)))
  obtain ⟨nb, hnb⟩ : ∃ nb, nb = wr.heap.size := ⟨_, rfl⟩
  obtain ⟨w8, hw8⟩ : ∃ w8, w8 = wr.alloc (.cells (peerCells p P1 d1 P2 d2).toArray 48) := ⟨_, rfl⟩
  have b8 : Below wr.heap.size wr w8 := by rw [hw8]; exact (Below.refl _ wr).alloc (Nat.le_refl _) _
  have NB := Aside0.mk (show w8.heap[nb]? = some (.cells (peerCells p P1 d1 P2 d2).toArray 48 (0, 0)) by rw [hw8, hnb]; exact heap_alloc_new wr _)
  have ON8 := Aside0.mk (ON.out.grow b8)
  have HNB := Aside0.mk (show w5.heap.size ≤ nb by rw [hnb]; exact ON.out.kp.1)
  obtain ⟨PX, hPX⟩ : ∃ PX, PX = (peerCells p P1 d1 P2 d2).toArray := ⟨_, rfl⟩
  have HPX := Aside0.mk hPX
  rw [← hPX] at L0 st hw8
  clear hPX b8 hp hin hld hkk hlt
  go_upto_region 10 with (first | ((with_reducible refine at_load 48 (.tmp 57) ?_); refine wpList_loadK rfl 48 (.tmp 57) rfl _ rfl _ L0.out ?_) | ((with_reducible refine at_store 48 (.tmp 9) (.tmp 58) ?_); refine wpList_storeK rfl 48 (.tmp 9) (.tmp 58) rfl rfl _ _ rfl rfl _ (st.out _ rfl) ?_))
  rw [← hw8, ← hnb]
  clear hw8 hnb L0 st hltz
  go_loopg [7] old.length (fun kx s7 wr => ∃ (tk old' : List Peer) (A' : Option Addr) (c' : Nat), s7 = .slice A' old'.length c' ∧ old'.length = kx ∧ Aside0 (old = tk ++ old') ∧ Aside0 (∀ q ∈ tk, q.node < p.node) ∧ Aside0 (PsAt w A' c' old') ∧ Aside0 (OnD a b w w5 b6 (g ++ tk.map (·.node)) s wr) ∧ Aside0 (wr.heap[nb]? = some (.cells (peerCells p P1 d1 P2 d2).toArray 48 (0, 0))))
  case atStart => exact ⟨[], old, A, c, rfl, rfl, ⟨rfl⟩, ⟨by simp⟩, PA7, ⟨by simpa using ON8.out⟩, NB⟩
  case round =>
   obtain ⟨tk, old', A', c', rfl, hlen, HT, HT2, PA8, ON9, NB9⟩ := hrel
   have HLEN := Aside0.mk hlen
   have LP := Aside0.mk (fun (W : World) (hb : Below wr.heap.size wr W) => run_load1 (P := Tryz.prog) 3 Tryz.isAgg3 (show W.cell? ⟨nb, 0, none⟩ = some (.int .i64 p.node) by rw [cell_of_heap (roomN NB9.out hb)]; rfl))
   clear hlen
   cases old' with
   | nil =>
    have hz : decide ((0 : Int) < ((List.length ([] : List Peer) : Nat) : Int)) = false := by decide
    go_upto_region 10 with fail
    refine region_quietC (C := fun W => Below wr.heap.size wr W) (by kernel_rfl) (by kernel_rfl) ((Below.refl _ _).drew) ?_
    repeat (first | go_big_quiet_step (exact fun _ => rfl))
    refine wpQuiet_nil ?_
    rintro wq hq
    have HQ := Aside0.mk hq
    clear hq LP
    go_upto_region 13 with fail
    refine region_quietC (C := fun W => Below wq.heap.size wq W) (by kernel_rfl) (by kernel_rfl) ((Below.refl _ _).drew) ?_
    repeat (first | go_big_quiet_step (exact fun _ => rfl))
    refine wpQuiet_nil ?_
    rintro wT hT
    have OT := Aside0.mk ((ON9.out.grow HQ.out).grow hT)
    have NT := Aside0.mk (roomN (roomN NB9.out HQ.out) hT)
    clear hT hz
    go_upto_region 17 with fail
    obtain ⟨vg, vs, hrow, hG, hS⟩ := OT.out.row
    have HROW := Aside0.mk hrow
    have HGG := Aside0.mk hG
    have HSS := Aside0.mk hS
    have HWT := Aside0.mk (show w5.heap.size ≤ wT.heap.size from OT.out.kp.1)
    have HFEW := Aside0.mk (show (s.length + 1) * 96 ≤ 140737488355328 by have h1 := LS.out; have h2 := FB.out; have h3 := HKK.out; omega)
    have LT := Aside0.mk (fun (W : World) (hb : Below wT.heap.size wT W) => run_loadAtK Tryz.prog W 48 36 Tryz.isAgg48 Tryz.sizeOf48 nb 0 (peerCells p P1 d1 P2 d2) (peerCells_len _ _ _ _ _) (cells_of_heap (roomN NT.out hb)))
    rw [← HPX.out] at LT
    clear hrow hG hS
    refine region_useA (G17 b6 PX vs) (M17 a b w w5 b6 (g ++ tk.map (·.node)) s p vs wT) [102, 103, 104, 105, 106, 107, 108] (by kernel_rfl) rfl (by kernel_rfl) ⟨fun _ => (Below.refl _ _).drew, fun e => by simp [Array.getD] at e, fun e => by simp [Array.getD] at e, fun e => by simp [Array.getD] at e, fun e => by simp [Array.getD] at e⟩ ?_ ?_
    ·intro i o l y W hi hs hnd hd hC hI hM K hK
     have hs : l.size = 8 := hs
     have hlt : i < 8 := (Array.getElem?_eq_some_iff.1 hi).1
     have hb6q : b6 < wT.heap.size := by have := S5.out; have := HWT.out; omega
     have hcase : i = 0 ∨ i = 1 ∨ i = 2 ∨ i = 3 ∨ i = 4 ∨ i = 5 ∨ i = 6 ∨ i = 7 := by omega
     rcases hcase with rfl | rfl | rfl | rfl | rfl | rfl | rfl | rfl
     ·-- 0
      exact wp_value (exec_fieldAddr 55 7 (.tmp 6) o (opIs hi rfl) y _ _ (hI.slot 6 (by rfl) rfl) (field55_7 W b6)) (hK _ _ (fun _ _ h => h) (fun _ _ => rfl) (hM.step (by decide) (by decide) (by decide) (by decide) (by rw [dstIs hi rfl]; exact put_at (by decide)) (by rw [dstIs hi rfl]; exact put_at (by decide)) (by rw [dstIs hi rfl]; exact put_at (by decide))))
     ·-- 1
      have hB := (hM.cell (fun e => notDone hs (by decide) hnd (hC.dep 5 1 (by kernel_rfl) e)))
      exact wp_value (yields_load 29 (.tmp 102) o (opIs hi rfl) y _ (hI.got hi hd (j := 0) (by kernel_rfl) rfl) _ (run_load1 29 Tryz.isAgg29 (by rw [cell_of_heap ((hB.block b6 hb6q).trans HROW.out)]; exact delV38 _ _ _ _ _ _ _ _))) (hK _ _ (fun _ _ h => h) (fun _ _ => rfl) (hM.step (by decide) (by decide) (by decide) (by decide) (by rw [dstIs hi rfl]; exact put_at (by decide)) (by rw [dstIs hi rfl]; exact put_at (by decide)) (by rw [dstIs hi rfl]; exact put_at (by decide))))
     ·-- 2
      have hB := (hM.cell (fun e => notDone hs (by decide) hnd (hC.dep 3 2 (by kernel_rfl) (hC.dep 4 3 (by kernel_rfl) (hC.dep 5 4 (by kernel_rfl) e)))))
      exact wp_value (yields_load 48 (.tmp 9) o (opIs hi rfl) y _ (hI.slot 9 (by rfl) rfl) _ (LT.out W hB)) (hK _ _ (fun _ _ h => h) (fun _ _ => rfl) (hM.step (by decide) (by decide) (by decide) (by decide) (by rw [dstIs hi rfl]; exact put_at (by decide)) (by rw [dstIs hi rfl]; exact put_at (by decide)) (by rw [dstIs hi rfl]; exact put_at (by decide))))
     ·-- 3
      have hB := (hM.cell (fun e => notDone hs (by decide) hnd (hC.dep 4 3 (by kernel_rfl) (hC.dep 5 4 (by kernel_rfl) e))))
      have e104 : y.eval (.tmp 104) = .agg PX := hI.got hi hd (j := 2) (by kernel_rfl) rfl
      have hg : o.guard = none := (okOps_at (n := 125) (by kernel_rfl) hi).1
      refine wp_goes Tryz.func69 (by kernel_rfl) rfl #[.agg PX] hg (opIs hi rfl) (by simp only [List.map_toArray, List.map_cons, List.map_nil, e104]) ?_
      rw [HPX.out]
      refine (own69 p P1 P2 d1 d2 W (HIN.out.below (below_step OT.out.lo hB)) (by have := MP.out; omega) (by have := MP.out; omega)).mono ?_
      rintro e' W' ⟨v1, v2, rfl, r1, r2, hb'⟩
      refine ⟨_, rfl, hK _ W' (fun _ _ h => h) (fun _ _ => trivial) ⟨fun _ => below_step hB hb', fun _ _ => ⟨v1, v2, ?_, Kd.R_mono (Kd.R_lower (Kd.R_bound r1) hB.size) (fun k hk => Nat.le_trans hB.size hk.2.1), Kd.R_mono (Kd.R_lower (Kd.R_bound r2) hB.size) (fun k hk => Nat.le_trans hB.size hk.2.1)⟩, fun e => ?_, fun e => ?_, fun e => ?_⟩⟩
      ·rw [dstIs hi rfl]; exact put_same (by rw [hI.size]; show 105 < 125; decide)
      ·rw [setB (by decide)] at e; exact absurd (hC.dep 4 3 (by kernel_rfl) e) (notDone hs (by decide) hnd)
      ·rw [setB (by decide)] at e; exact absurd (hC.dep 4 3 (by kernel_rfl) (hC.dep 5 4 (by kernel_rfl) e)) (notDone hs (by decide) hnd)
      ·rw [setB (by decide)] at e; exact absurd (hC.dep 4 3 (by kernel_rfl) (hC.dep 5 4 (by kernel_rfl) (hC.dep 7 5 (by kernel_rfl) e))) (notDone hs (by decide) hnd)
     ·-- 4
      have hB := (hM.cell (fun e => notDone hs (by decide) hnd (hC.dep 5 4 (by kernel_rfl) e)))
      have h3 : l.getD 3 false = true := depB hi (by kernel_rfl) hd
      have h4 : l.getD 4 false = false := by simpa using notDone hs (by decide) hnd
      obtain ⟨x1, x2, e105, r1, r2⟩ := hM.s1 h3 h4
      have e105 : y.eval (.tmp 105) = .agg (peerV p x1 x2).toArray := e105
      refine wp_value (exec_bslice 29 1 #[(0, .tmp 105)] o (opIs hi rfl) y #[(0, .agg (peerV p x1 x2).toArray)] (by simp only [List.map_toArray, List.map_cons, List.map_nil, e105]) _ (buildP W p x1 x2)) (hK _ _ (fun _ _ h => h) (fun _ _ => trivial) ⟨fun e => ?_, fun _ e => ?_, fun _ _ => ⟨W, x1, x2, rfl, hB, ?_, r1, r2⟩, fun e => ?_, fun e => ?_⟩)
      ·rw [setS (by omega)] at e; cases e
      ·rw [setS (by omega)] at e; cases e
      ·rw [dstIs hi rfl]; exact put_same (by rw [hI.size]; show 106 < 125; decide)
      ·rw [setB (by decide)] at e; exact absurd (hC.dep 5 4 (by kernel_rfl) e) (notDone hs (by decide) hnd)
      ·rw [setB (by decide)] at e; exact absurd (hC.dep 5 4 (by kernel_rfl) (hC.dep 7 5 (by kernel_rfl) e)) (notDone hs (by decide) hnd)
     ·-- 5
      have h4 : l.getD 4 false = true := depB hi (by kernel_rfl) hd
      have h5 : l.getD 5 false = false := by simpa using notDone hs (by decide) hnd
      obtain ⟨Wp, x1, x2, rfl, hbp, e106, r1, r2⟩ := hM.s2 h4 h5
      have e103 : y.eval (.tmp 103) = vs := hI.got hi hd (j := 1) (by kernel_rfl) rfl
      have hg : o.guard = none := (okOps_at (n := 125) (by kernel_rfl) hi).1
      have hw : Region.wanted o (yielded #[] y.tmps) = true := by unfold Region.wanted; rw [hg]
      have HPM : kPeer.M Wp w5.heap.size (fun k => wT.heap.size ≤ k) p (peerV p x1 x2) := kPeer_mkM (Kd.R_lower r1 HWT.out) (Kd.R_lower r2 HWT.out)
      refine wanted_true (ops := #[]) (X := K (y.put o.dst undef) (Wp.alloc (.cells (peerV p x1 x2).toArray 48))) hg (Kd.R_append_step kPeer (w0 := wT) (W := Wp) (ops := #[]) w5.heap.size hw (.tmp 103) (.tmp 106) 29 48 (.agg zeroPeer) 96 (opIs hi rfl) Tryz.underlying29 (by kernel_rfl) (by kernel_rfl) (by decide) (by decide) vs s p (peerV p x1 x2) (fun k => w5.heap.size ≤ k) (fun k => wT.heap.size ≤ k) e103 e106 HPM (fun k hk => ⟨Nat.le_trans HWT.out hk, fun e => by have := ((Kd.R_bound HSS.out).1 k e.symm).2.2.1; omega⟩) (fun k hk => Nat.le_trans (Nat.le_trans HWT.out hbp.size) hk) (Kd.R_below HSS.out hbp) (hbp.mono HWT.out) (Nat.le_trans HWT.out hbp.size) HFEW.out ?_)
      intro v1 w11 hr1 hbel hgrow hat
      refine hK v1 w11 (fun _ _ h => h) (fun _ _ => trivial) ⟨fun e => ?_, fun _ e => ?_, fun _ e => ?_, fun _ _ => ⟨?_, hbel, grownBy_trans (grown_of_below hbp) hgrow⟩, fun e => ?_⟩
      ·rw [setB (by decide), h4] at e; cases e
      ·rw [setB (by decide), h4] at e; cases e
      ·rw [setS (by omega)] at e; cases e
      ·have e3 : (y.put o.dst v1).tmps.getD 107 undef = v1 := by rw [dstIs hi rfl]; exact put_same (by rw [hI.size]; show 107 < 125; decide)
       rw [e3]; exact hr1
      ·rw [setB (by decide)] at e; exact absurd (hC.dep 7 5 (by kernel_rfl) e) (notDone hs (by decide) hnd)
     ·-- 6
      exact wp_value (exec_fieldAddr 55 7 (.tmp 6) o (opIs hi rfl) y _ _ (hI.slot 6 (by rfl) rfl) (field55_7 W b6)) (hK _ _ (fun _ _ h => h) (fun _ _ => rfl) (hM.step (by decide) (by decide) (by decide) (by decide) (by rw [dstIs hi rfl]; exact put_at (by decide)) (by rw [dstIs hi rfl]; exact put_at (by decide)) (by rw [dstIs hi rfl]; exact put_at (by decide))))
     ·-- 7
      have h5 : l.getD 5 false = true := depB hi (by kernel_rfl) hd
      have h4 : l.getD 4 false = true := hC.dep 5 4 (by kernel_rfl) h5
      have h7 : l.getD 7 false = false := by simpa using notDone hs (by decide) hnd
      obtain ⟨hr1, hbel, hgrow⟩ := hM.s3 h5 h7
      have e108 : y.eval (.tmp 108) = .pointer (some ⟨b6, 38, none⟩) := hI.got hi hd (j := 6) (by kernel_rfl) rfl
      obtain ⟨v1, hv1⟩ : ∃ v1, v1 = y.tmps.getD 107 undef := ⟨_, rfl⟩
      rw [← hv1] at hr1
      have hrow1 : W.heap[b6]? = some (.cells (delV a.ver b.ver b.clock b.node b.key b.exp vg vs).toArray 55 (0, 0)) := (hbel.block b6 (by have := S5.out; omega)).trans HROW.out
      obtain ⟨VA, vc, hva⟩ := Kd.R_slice hr1
      have hstore := run_storeAt1 Tryz.prog W 29 Tryz.sizeOf29 b6 38 v1 (by rw [hva]; rfl) (by rw [hva]; rfl) _ (by rw [cell_of_heap hrow1]; exact delV38 _ _ _ _ _ _ _ _) (frozen_of_heap hrow1)
      refine wp_skip (runs_store 29 (.tmp 108) (.tmp 107) o (opIs hi rfl) y _ _ e108 hv1.symm _ hstore) (hK _ _ (fun _ _ h => h) (fun N hN => by rw [dstIs hi rfl] at hN; cases hN) ⟨fun e => ?_, fun _ e => ?_, fun _ e => ?_, fun _ e => ?_, fun _ => OT.out.put (by have := S5.out; have := HBB.out; omega) (by have := S5.out; omega) HROW.out HGG.out HSS.out hr1 hbel hgrow⟩)
      ·rw [setB (by decide), h4] at e; cases e
      ·rw [setB (by decide), h4] at e; cases e
      ·rw [setB (by decide), h5] at e; cases e
      ·rw [setS (by omega)] at e; cases e
    ·intro v' W hv y hns hM
     have ONN := Aside0.mk (hM.s4 (by rfl))
     clear hv hM hns
     simp only [List.map_cons, List.map_nil, putAll]
     simp only [Act.put, List.setIfInBounds_toArray, List.set_cons_zero, List.set_cons_succ]
     go_wp2_with fail
     go_roundg (b.peers.length - (kk + 1))
     case measure => have := HKK.out; omega
     case rel => exact ⟨kk + 1, [], A', c', g ++ tk.map (·.node), s ++ [p], by have h1 := HKK.out; have h2 := FB.out; have h3 : wrap64 ((kk : Int) + 1) = ((kk + 1 : Nat) : Int) := (by unfold wrap64; omega); rw [h3], rfl, by have := HKK.out; omega, PA8, ⟨by have h1 := LE.out; have h3 := congrArg List.length HT.out; simp only [List.length_append, List.length_cons, List.length_nil] at h3; simp only [List.length_append, List.length_map, List.length_cons, List.length_nil]; omega⟩, ⟨by rw [List.length_append, List.length_singleton]; have := LS.out; omega⟩, ⟨by rw [DG.out, drop_pe HP.out, diff_step HT.out HT2.out (fun q r e => by cases e)]⟩, ONN⟩
   | cons q r =>
    have hz : decide ((0 : Int) < ((List.length (q :: r) : Nat) : Int)) = true := decide_eq_true (by rw [List.length_cons]; omega)
    have hz0 : (0 : Int) < ((List.length (q :: r) : Nat) : Int) := by rw [List.length_cons]; omega
    obtain ⟨ga, oa, Q1, e1, Q2, e2, hA, hinq, hldq⟩ := PA8.out.load (j := 0) rfl
    have hgq : ∀ W, Below w.heap.size w W → W.cell? ⟨ga, oa, none⟩ = some (.int .i64 q.node) := fun W hb => by
     obtain ⟨ga', oa', B1, f1, B2, f2, hA', -, hc⟩ := PA8.out.get (j := 0) rfl
     rw [hA] at hA'
     cases hA'
     have := hc W hb 0 _ (peer0 _ _ _ _ _)
     simpa using this
    have HLQ := Aside0.mk (fun W (hb : Below w.heap.size w W) => (show (Instr.loadAt 48 (.pointer (some ⟨ga, oa, none⟩))).run Tryz.prog W = .ok (.agg (peerCells q Q1 e1 Q2 e2).toArray) W by have := hldq W hb; simpa using this))
    have HINQ := Aside0.mk hinq
    have CQ9 := Aside0.mk (fun (W : World) (hb : Below wr.heap.size wr W) => hgq W (below_step ON9.out.lo hb))
    have LQ := Aside0.mk (fun (W : World) (hb : Below wr.heap.size wr W) => run_load1 (P := Tryz.prog) 3 Tryz.isAgg3 (CQ9.out W hb))
    subst hA
    clear hinq hldq hgq
    by_cases hqp : q.node < p.node
    case pos =>
     have hqd : decide (q.node < p.node) = true := decide_eq_true hqp
     have HQP := Aside0.mk hqp
     go_upto_region 10 with fail
     refine region_quietC (C := fun W => Below wr.heap.size wr W) (by kernel_rfl) (by kernel_rfl) ((Below.refl _ _).drew) ?_
     repeat (first | ((with_reducible refine at_ql 3 (.tmp 65) ?_); refine wpQuiet_loadK 3 (.tmp 65) rfl _ rfl _ (by kernel_rfl) (fun W hW => LQ.out W hW) ?_; simp only [Act.put, List.setIfInBounds_toArray, List.set_cons_zero, List.set_cons_succ]) | ((with_reducible refine at_ql 3 (.tmp 67) ?_); refine wpQuiet_loadK 3 (.tmp 67) rfl _ rfl _ (by kernel_rfl) (fun W hW => LP.out W hW) ?_; simp only [Act.put, List.setIfInBounds_toArray, List.set_cons_zero, List.set_cons_succ]) | go_big_quiet_step (exact fun _ => rfl))
     refine wpQuiet_nil ?_
     rintro wq hq
     have HQ := Aside0.mk hq
     have CQ := Aside0.mk (fun (W : World) (hb : Below wq.heap.size wq W) => CQ9.out W (below_step HQ.out hb))
     clear hq LQ LP hqp hqd hz hz0
     go_upto_region 11 with fail
     have ONQ := Aside0.mk (ON9.out.grow HQ.out)
     obtain ⟨vg, vs, hrow, hG, hS⟩ := ONQ.out.row
     have HROW := Aside0.mk hrow
     have HGG := Aside0.mk hG
     have HSS := Aside0.mk hS
     have NBQ := Aside0.mk (roomN NB9.out HQ.out)
     have HWQ := Aside0.mk (show w5.heap.size ≤ wq.heap.size from ONQ.out.kp.1)
     have HFEW := Aside0.mk (show ((g ++ tk.map (·.node)).length + 1) * 8 ≤ 140737488355328 by have h1 := LE.out; have h2 := FA.out; have h3 := congrArg List.length HT.out; rw [List.length_append] at h3; rw [List.length_append, List.length_map]; omega)
     clear hrow hG hS
     refine region_useA (G11 b6 ga oa (q :: r).length c' q.node vg) (M11 a b w w5 b6 (g ++ tk.map (·.node)) s q.node vg wq) [71, 72, 73, 74, 75, 76, 77, 78, 79] (by kernel_rfl) rfl (by kernel_rfl) ⟨fun _ => (Below.refl _ _).drew, fun e => by simp [Array.getD] at e, fun e => by simp [Array.getD] at e, fun e => by simp [Array.getD] at e⟩ ?_ ?_
     ·intro i o l y W hi hs hnd hd hC hI hM K hK
      have hs : l.size = 10 := hs
      have hlt : i < 10 := (Array.getElem?_eq_some_iff.1 hi).1
      have hb6q : b6 < wq.heap.size := by have := S5.out; have := HWQ.out; omega
      have hcase : i = 0 ∨ i = 1 ∨ i = 2 ∨ i = 3 ∨ i = 4 ∨ i = 5 ∨ i = 6 ∨ i = 7 ∨ i = 8 ∨ i = 9 := by omega
      rcases hcase with rfl | rfl | rfl | rfl | rfl | rfl | rfl | rfl | rfl | rfl
      ·-- 0
       exact wp_value (exec_fieldAddr 55 6 (.tmp 6) o (opIs hi rfl) y _ _ (hI.slot 6 (by rfl) rfl) (field55_6 W b6)) (hK _ _ (fun _ _ h => h) (fun _ _ => rfl) (hM.step (by decide) (by decide) (by decide) (by rw [dstIs hi rfl]; exact put_at (by decide)) (by rw [dstIs hi rfl]; exact put_at (by decide))))
      ·-- 1
       have hB := (hM.cell (fun e => notDone hs (by decide) hnd (hC.dep 7 1 (by kernel_rfl) e)))
       exact wp_value (yields_load 53 (.tmp 71) o (opIs hi rfl) y _ (hI.got hi hd (j := 0) (by kernel_rfl) rfl) _ (run_load1 53 Tryz.isAgg53 (by rw [cell_of_heap ((hB.block b6 hb6q).trans HROW.out)]; exact delV37 _ _ _ _ _ _ _ _))) (hK _ _ (fun _ _ h => h) (fun _ _ => rfl) (hM.step (by decide) (by decide) (by decide) (by rw [dstIs hi rfl]; exact put_at (by decide)) (by rw [dstIs hi rfl]; exact put_at (by decide))))
      ·-- 2
       exact wp_value (exec_move (.tmp 7) o (opIs hi rfl) y _ (hI.slot 7 (by rfl) rfl)) (hK _ _ (fun _ _ h => h) (fun _ _ => rfl) (hM.step (by decide) (by decide) (by decide) (by rw [dstIs hi rfl]; exact put_at (by decide)) (by rw [dstIs hi rfl]; exact put_at (by decide))))
      ·-- 3
       exact wp_value (exec_index 29 (.tmp 73) (.const (.int .i64 0)) o (opIs hi rfl) y _ _ (hI.got hi hd (j := 2) (by kernel_rfl) rfl) rfl _ (indexAt29 ga oa _ c' (by simp) W)) (hK _ _ (fun _ _ h => h) (fun _ _ => rfl) (hM.step (by decide) (by decide) (by decide) (by rw [dstIs hi rfl]; exact put_at (by decide)) (by rw [dstIs hi rfl]; exact put_at (by decide))))
      ·-- 4
       exact wp_value (exec_fieldAddr 48 0 (.tmp 74) o (opIs hi rfl) y _ _ (hI.got hi hd (j := 3) (by kernel_rfl) rfl) (field48_0 W ga oa)) (hK _ _ (fun _ _ h => h) (fun _ _ => rfl) (hM.step (by decide) (by decide) (by decide) (by rw [dstIs hi rfl]; exact put_at (by decide)) (by rw [dstIs hi rfl]; exact put_at (by decide))))
      ·-- 5
       have hB := (hM.cell (fun e => notDone hs (by decide) hnd (hC.dep 6 5 (by kernel_rfl) (hC.dep 7 6 (by kernel_rfl) e))))
       exact wp_value (yields_load 3 (.tmp 75) o (opIs hi rfl) y _ (hI.got hi hd (j := 4) (by kernel_rfl) rfl) _ (run_load1 3 Tryz.isAgg3 (CQ.out W hB))) (hK _ _ (fun _ _ h => h) (fun _ _ => rfl) (hM.step (by decide) (by decide) (by decide) (by rw [dstIs hi rfl]; exact put_at (by decide)) (by rw [dstIs hi rfl]; exact put_at (by decide))))
      ·-- 6
       have hB := (hM.cell (fun e => notDone hs (by decide) hnd (hC.dep 7 6 (by kernel_rfl) e)))
       have e1 : y.eval (.tmp 76) = .int .i64 q.node := hI.got hi hd (j := 5) (by kernel_rfl) rfl
       refine wp_value (exec_bslice 53 1 #[(0, .tmp 76)] o (opIs hi rfl) y #[(0, .int .i64 q.node)] (by simp only [List.map_toArray, List.map_cons, List.map_nil, e1]) _ (buildI W q.node)) (hK _ _ (fun _ _ h => h) (fun _ _ => trivial) ⟨fun e => ?_, fun _ _ => ⟨W, rfl, hB, ?_⟩, fun e => ?_, fun e => ?_⟩)
       ·rw [setS (by omega)] at e; cases e
       ·rw [dstIs hi rfl]; exact put_same (by rw [hI.size]; show 77 < 125; decide)
       ·rw [setB (by decide)] at e; exact absurd (hC.dep 7 6 (by kernel_rfl) e) (notDone hs (by decide) hnd)
       ·rw [setB (by decide)] at e; exact absurd (hC.dep 7 6 (by kernel_rfl) (hC.dep 9 7 (by kernel_rfl) e)) (notDone hs (by decide) hnd)
      ·-- 7
       have h6 : l.getD 6 false = true := depB hi (by kernel_rfl) hd
       have h7 : l.getD 7 false = false := by simpa using notDone hs (by decide) hnd
       obtain ⟨Wp, rfl, hbp, e77⟩ := hM.s1 h6 h7
       have e72 : y.eval (.tmp 72) = vg := hI.got hi hd (j := 1) (by kernel_rfl) rfl
       have hg : o.guard = none := (okOps_at (n := 125) (by kernel_rfl) hi).1
       have hw : Region.wanted o (yielded #[] y.tmps) = true := by unfold Region.wanted; rw [hg]
       refine wanted_true (ops := #[]) (X := K (y.put o.dst undef) (Wp.alloc (.cells [.int .i64 q.node].toArray 3))) hg (Kd.R_append_step kInt (w0 := wq) (W := Wp) (ops := #[]) w5.heap.size hw (.tmp 72) (.tmp 77) 53 3 (.int .i64 0) 8 (opIs hi rfl) Tryz.underlying53 (by kernel_rfl) (by kernel_rfl) (by decide) (by decide) vg (g ++ tk.map (·.node)) q.node [.int .i64 q.node] (fun k => w5.heap.size ≤ k) (fun _ => False) e72 e77 rfl (fun k hk => hk.elim) (fun k hk => Nat.le_trans (Nat.le_trans HWQ.out hbp.size) hk) (Kd.R_below HGG.out hbp) (hbp.mono HWQ.out) (Nat.le_trans HWQ.out hbp.size) HFEW.out ?_)
       intro v1 w11 hr1 hbel hgrow hat
       refine hK v1 w11 (fun _ _ h => h) (fun _ _ => trivial) ⟨fun e => ?_, fun _ e => ?_, fun _ _ => ⟨?_, hbel, grownBy_trans (grown_of_below hbp) hgrow⟩, fun e => ?_⟩
       ·rw [setB (by decide), h6] at e; cases e
       ·rw [setS (by omega)] at e; cases e
       ·have e3 : (y.put o.dst v1).tmps.getD 78 undef = v1 := by rw [dstIs hi rfl]; exact put_same (by rw [hI.size]; show 78 < 125; decide)
        rw [e3]; exact hr1
       ·rw [setB (by decide)] at e; exact absurd (hC.dep 9 7 (by kernel_rfl) e) (notDone hs (by decide) hnd)
      ·-- 8
       exact wp_value (exec_fieldAddr 55 6 (.tmp 6) o (opIs hi rfl) y _ _ (hI.slot 6 (by rfl) rfl) (field55_6 W b6)) (hK _ _ (fun _ _ h => h) (fun _ _ => rfl) (hM.step (by decide) (by decide) (by decide) (by rw [dstIs hi rfl]; exact put_at (by decide)) (by rw [dstIs hi rfl]; exact put_at (by decide))))
      ·-- 9
       have h7 : l.getD 7 false = true := depB hi (by kernel_rfl) hd
       have h6 : l.getD 6 false = true := hC.dep 7 6 (by kernel_rfl) h7
       have h9 : l.getD 9 false = false := by simpa using notDone hs (by decide) hnd
       obtain ⟨hr1, hbel, hgrow⟩ := hM.s2 h7 h9
       have e79 : y.eval (.tmp 79) = .pointer (some ⟨b6, 37, none⟩) := hI.got hi hd (j := 8) (by kernel_rfl) rfl
       obtain ⟨v1, hv1⟩ : ∃ v1, v1 = y.tmps.getD 78 undef := ⟨_, rfl⟩
       rw [← hv1] at hr1
       have hrow1 : W.heap[b6]? = some (.cells (delV a.ver b.ver b.clock b.node b.key b.exp vg vs).toArray 55 (0, 0)) := (hbel.block b6 (by have := S5.out; omega)).trans HROW.out
       obtain ⟨VA, vc, hva⟩ := Kd.R_slice hr1
       have hstore := run_storeAt1 Tryz.prog W 53 Tryz.sizeOf53 b6 37 v1 (by rw [hva]; rfl) (by rw [hva]; rfl) _ (by rw [cell_of_heap hrow1]; exact delV37 _ _ _ _ _ _ _ _) (frozen_of_heap hrow1)
       refine wp_skip (runs_store 53 (.tmp 79) (.tmp 78) o (opIs hi rfl) y _ _ e79 hv1.symm _ hstore) (hK _ _ (fun _ _ h => h) (fun N hN => by rw [dstIs hi rfl] at hN; cases hN) ⟨fun e => ?_, fun _ e => ?_, fun _ e => ?_, fun _ => ⟨ONQ.out.gone (by have := S5.out; have := HBB.out; omega) (by have := S5.out; omega) HROW.out HGG.out HSS.out hr1 hbel hgrow, (KeepBut.of_grown hgrow b6).set_ 37 v1⟩⟩)
       ·rw [setB (by decide), h6] at e; cases e
       ·rw [setB (by decide), h7] at e; cases e
       ·rw [setS (by omega)] at e; cases e
     ·intro v' W hv y hns hM
      obtain ⟨hon, hkp⟩ := hM.s3 (by rfl)
      have ONN := Aside0.mk hon
      have NBN := Aside0.mk (show W.heap[nb]? = some (.cells (peerCells p P1 d1 P2 d2).toArray 48 (0, 0)) from (hkp.2 nb (Array.getElem?_eq_some_iff.1 NBQ.out).1 (by have := HNB.out; have := S5.out; omega) (ONQ.out.keep NBQ.out ⟨by decide, by decide⟩ vg HGG.out)).trans NBQ.out)
      have SL := Aside0.mk (sliceAt29c (some ⟨ga, oa, none⟩) q r c' PA8.out.1 W)
      have PA9 := Aside0.mk PA8.out.tail
      obtain ⟨A9, hA9⟩ : ∃ A9, A9 = (if c' = 1 then (some (⟨ga, oa, none⟩ : Addr)) else (some (⟨ga, oa, none⟩ : Addr)).map (·.add 36)) := ⟨_, rfl⟩
      rw [← hA9] at SL PA9
      clear hv hM hns hon hkp hA9
      simp only [List.map_cons, List.map_nil, putAll]
      simp only [Act.put, List.setIfInBounds_toArray, List.set_cons_zero, List.set_cons_succ]
      go_wp2_with ((with_reducible refine at_slice 29 (.tmp 80) (.const (.int .i64 1)) ?_); refine wpList_valueW (by rfl) _ W (exec_slice1 29 (.tmp 80) (.const (.int .i64 1)) _ rfl _ _ _ rfl rfl _ SL.out) ?_)
      go_roundg r.length
      case measure => have := HLEN.out; rw [List.length_cons] at this; omega
      case rel => exact ⟨tk ++ [q], r, A9, c' - 1, rfl, rfl, ⟨by rw [HT.out, List.append_assoc]; rfl⟩, ⟨fun x hx => by
        rcases List.mem_append.1 hx with hx | hx
        ·exact HT2.out x hx
        ·rw [List.mem_singleton.1 hx]; exact HQP.out⟩, PA9, ⟨by rw [List.map_append, ← List.append_assoc]; exact ONN.out⟩, NBN⟩
    have hqd : decide (q.node < p.node) = false := decide_eq_false hqp
    have HQP := Aside0.mk hqp
    go_upto_region 10 with fail
    refine region_quietC (C := fun W => Below wr.heap.size wr W) (by kernel_rfl) (by kernel_rfl) ((Below.refl _ _).drew) ?_
    repeat (first | ((with_reducible refine at_ql 3 (.tmp 65) ?_); refine wpQuiet_loadK 3 (.tmp 65) rfl _ rfl _ (by kernel_rfl) (fun W hW => LQ.out W hW) ?_; simp only [Act.put, List.setIfInBounds_toArray, List.set_cons_zero, List.set_cons_succ]) | ((with_reducible refine at_ql 3 (.tmp 67) ?_); refine wpQuiet_loadK 3 (.tmp 67) rfl _ rfl _ (by kernel_rfl) (fun W hW => LP.out W hW) ?_; simp only [Act.put, List.setIfInBounds_toArray, List.set_cons_zero, List.set_cons_succ]) | go_big_quiet_step (exact fun _ => rfl))
    refine wpQuiet_nil ?_
    rintro wq hq
    have HQ := Aside0.mk hq
    clear hq hqp hqd
    go_upto_region 13 with fail
    by_cases hqe : q.node = p.node
    case neg =>
     have hqb : (q.node == p.node) = false := by simpa using hqe
     have HQE := Aside0.mk hqe
     refine region_quietC (C := fun W => Below wq.heap.size wq W) (by kernel_rfl) (by kernel_rfl) ((Below.refl _ _).drew) ?_
     repeat (first | ((with_reducible refine at_ql 3 (.tmp 88) ?_); refine wpQuiet_loadK 3 (.tmp 88) rfl _ rfl _ (by kernel_rfl) (fun W hW => LQ.out W (below_step HQ.out hW)) ?_; simp only [Act.put, List.setIfInBounds_toArray, List.set_cons_zero, List.set_cons_succ]) | ((with_reducible refine at_ql 3 (.tmp 90) ?_); refine wpQuiet_loadK 3 (.tmp 90) rfl _ rfl _ (by kernel_rfl) (fun W hW => LP.out W (below_step HQ.out hW)) ?_; simp only [Act.put, List.setIfInBounds_toArray, List.set_cons_zero, List.set_cons_succ]) | go_big_quiet_step (exact fun _ => rfl))
     refine wpQuiet_nil ?_
     rintro wT hT
     have OT := Aside0.mk ((ON9.out.grow HQ.out).grow hT)
     have NT := Aside0.mk (roomN (roomN NB9.out HQ.out) hT)
     clear hT hz hz0 LQ LP hqe hqb
     go_upto_region 17 with fail
     obtain ⟨vg, vs, hrow, hG, hS⟩ := OT.out.row
     have HROW := Aside0.mk hrow
     have HGG := Aside0.mk hG
     have HSS := Aside0.mk hS
     have HWT := Aside0.mk (show w5.heap.size ≤ wT.heap.size from OT.out.kp.1)
     have HFEW := Aside0.mk (show (s.length + 1) * 96 ≤ 140737488355328 by have h1 := LS.out; have h2 := FB.out; have h3 := HKK.out; omega)
     have LT := Aside0.mk (fun (W : World) (hb : Below wT.heap.size wT W) => run_loadAtK Tryz.prog W 48 36 Tryz.isAgg48 Tryz.sizeOf48 nb 0 (peerCells p P1 d1 P2 d2) (peerCells_len _ _ _ _ _) (cells_of_heap (roomN NT.out hb)))
     rw [← HPX.out] at LT
     clear hrow hG hS
     refine region_useA (G17 b6 PX vs) (M17 a b w w5 b6 (g ++ tk.map (·.node)) s p vs wT) [102, 103, 104, 105, 106, 107, 108] (by kernel_rfl) rfl (by kernel_rfl) ⟨fun _ => (Below.refl _ _).drew, fun e => by simp [Array.getD] at e, fun e => by simp [Array.getD] at e, fun e => by simp [Array.getD] at e, fun e => by simp [Array.getD] at e⟩ ?_ ?_
     ·intro i o l y W hi hs hnd hd hC hI hM K hK
      have hs : l.size = 8 := hs
      have hlt : i < 8 := (Array.getElem?_eq_some_iff.1 hi).1
      have hb6q : b6 < wT.heap.size := by have := S5.out; have := HWT.out; omega
      have hcase : i = 0 ∨ i = 1 ∨ i = 2 ∨ i = 3 ∨ i = 4 ∨ i = 5 ∨ i = 6 ∨ i = 7 := by omega
      rcases hcase with rfl | rfl | rfl | rfl | rfl | rfl | rfl | rfl
      ·-- 0
       exact wp_value (exec_fieldAddr 55 7 (.tmp 6) o (opIs hi rfl) y _ _ (hI.slot 6 (by rfl) rfl) (field55_7 W b6)) (hK _ _ (fun _ _ h => h) (fun _ _ => rfl) (hM.step (by decide) (by decide) (by decide) (by decide) (by rw [dstIs hi rfl]; exact put_at (by decide)) (by rw [dstIs hi rfl]; exact put_at (by decide)) (by rw [dstIs hi rfl]; exact put_at (by decide))))
      ·-- 1
       have hB := (hM.cell (fun e => notDone hs (by decide) hnd (hC.dep 5 1 (by kernel_rfl) e)))
       exact wp_value (yields_load 29 (.tmp 102) o (opIs hi rfl) y _ (hI.got hi hd (j := 0) (by kernel_rfl) rfl) _ (run_load1 29 Tryz.isAgg29 (by rw [cell_of_heap ((hB.block b6 hb6q).trans HROW.out)]; exact delV38 _ _ _ _ _ _ _ _))) (hK _ _ (fun _ _ h => h) (fun _ _ => rfl) (hM.step (by decide) (by decide) (by decide) (by decide) (by rw [dstIs hi rfl]; exact put_at (by decide)) (by rw [dstIs hi rfl]; exact put_at (by decide)) (by rw [dstIs hi rfl]; exact put_at (by decide))))
      ·-- 2
       have hB := (hM.cell (fun e => notDone hs (by decide) hnd (hC.dep 3 2 (by kernel_rfl) (hC.dep 4 3 (by kernel_rfl) (hC.dep 5 4 (by kernel_rfl) e)))))
       exact wp_value (yields_load 48 (.tmp 9) o (opIs hi rfl) y _ (hI.slot 9 (by rfl) rfl) _ (LT.out W hB)) (hK _ _ (fun _ _ h => h) (fun _ _ => rfl) (hM.step (by decide) (by decide) (by decide) (by decide) (by rw [dstIs hi rfl]; exact put_at (by decide)) (by rw [dstIs hi rfl]; exact put_at (by decide)) (by rw [dstIs hi rfl]; exact put_at (by decide))))
      ·-- 3
       have hB := (hM.cell (fun e => notDone hs (by decide) hnd (hC.dep 4 3 (by kernel_rfl) (hC.dep 5 4 (by kernel_rfl) e))))
       have e104 : y.eval (.tmp 104) = .agg PX := hI.got hi hd (j := 2) (by kernel_rfl) rfl
       have hg : o.guard = none := (okOps_at (n := 125) (by kernel_rfl) hi).1
       refine wp_goes Tryz.func69 (by kernel_rfl) rfl #[.agg PX] hg (opIs hi rfl) (by simp only [List.map_toArray, List.map_cons, List.map_nil, e104]) ?_
       rw [HPX.out]
       refine (own69 p P1 P2 d1 d2 W (HIN.out.below (below_step OT.out.lo hB)) (by have := MP.out; omega) (by have := MP.out; omega)).mono ?_
       rintro e' W' ⟨v1, v2, rfl, r1, r2, hb'⟩
       refine ⟨_, rfl, hK _ W' (fun _ _ h => h) (fun _ _ => trivial) ⟨fun _ => below_step hB hb', fun _ _ => ⟨v1, v2, ?_, Kd.R_mono (Kd.R_lower (Kd.R_bound r1) hB.size) (fun k hk => Nat.le_trans hB.size hk.2.1), Kd.R_mono (Kd.R_lower (Kd.R_bound r2) hB.size) (fun k hk => Nat.le_trans hB.size hk.2.1)⟩, fun e => ?_, fun e => ?_, fun e => ?_⟩⟩
       ·rw [dstIs hi rfl]; exact put_same (by rw [hI.size]; show 105 < 125; decide)
       ·rw [setB (by decide)] at e; exact absurd (hC.dep 4 3 (by kernel_rfl) e) (notDone hs (by decide) hnd)
       ·rw [setB (by decide)] at e; exact absurd (hC.dep 4 3 (by kernel_rfl) (hC.dep 5 4 (by kernel_rfl) e)) (notDone hs (by decide) hnd)
       ·rw [setB (by decide)] at e; exact absurd (hC.dep 4 3 (by kernel_rfl) (hC.dep 5 4 (by kernel_rfl) (hC.dep 7 5 (by kernel_rfl) e))) (notDone hs (by decide) hnd)
      ·-- 4
       have hB := (hM.cell (fun e => notDone hs (by decide) hnd (hC.dep 5 4 (by kernel_rfl) e)))
       have h3 : l.getD 3 false = true := depB hi (by kernel_rfl) hd
       have h4 : l.getD 4 false = false := by simpa using notDone hs (by decide) hnd
       obtain ⟨x1, x2, e105, r1, r2⟩ := hM.s1 h3 h4
       have e105 : y.eval (.tmp 105) = .agg (peerV p x1 x2).toArray := e105
       refine wp_value (exec_bslice 29 1 #[(0, .tmp 105)] o (opIs hi rfl) y #[(0, .agg (peerV p x1 x2).toArray)] (by simp only [List.map_toArray, List.map_cons, List.map_nil, e105]) _ (buildP W p x1 x2)) (hK _ _ (fun _ _ h => h) (fun _ _ => trivial) ⟨fun e => ?_, fun _ e => ?_, fun _ _ => ⟨W, x1, x2, rfl, hB, ?_, r1, r2⟩, fun e => ?_, fun e => ?_⟩)
       ·rw [setS (by omega)] at e; cases e
       ·rw [setS (by omega)] at e; cases e
       ·rw [dstIs hi rfl]; exact put_same (by rw [hI.size]; show 106 < 125; decide)
       ·rw [setB (by decide)] at e; exact absurd (hC.dep 5 4 (by kernel_rfl) e) (notDone hs (by decide) hnd)
       ·rw [setB (by decide)] at e; exact absurd (hC.dep 5 4 (by kernel_rfl) (hC.dep 7 5 (by kernel_rfl) e)) (notDone hs (by decide) hnd)
      ·-- 5
       have h4 : l.getD 4 false = true := depB hi (by kernel_rfl) hd
       have h5 : l.getD 5 false = false := by simpa using notDone hs (by decide) hnd
       obtain ⟨Wp, x1, x2, rfl, hbp, e106, r1, r2⟩ := hM.s2 h4 h5
       have e103 : y.eval (.tmp 103) = vs := hI.got hi hd (j := 1) (by kernel_rfl) rfl
       have hg : o.guard = none := (okOps_at (n := 125) (by kernel_rfl) hi).1
       have hw : Region.wanted o (yielded #[] y.tmps) = true := by unfold Region.wanted; rw [hg]
       have HPM : kPeer.M Wp w5.heap.size (fun k => wT.heap.size ≤ k) p (peerV p x1 x2) := kPeer_mkM (Kd.R_lower r1 HWT.out) (Kd.R_lower r2 HWT.out)
       refine wanted_true (ops := #[]) (X := K (y.put o.dst undef) (Wp.alloc (.cells (peerV p x1 x2).toArray 48))) hg (Kd.R_append_step kPeer (w0 := wT) (W := Wp) (ops := #[]) w5.heap.size hw (.tmp 103) (.tmp 106) 29 48 (.agg zeroPeer) 96 (opIs hi rfl) Tryz.underlying29 (by kernel_rfl) (by kernel_rfl) (by decide) (by decide) vs s p (peerV p x1 x2) (fun k => w5.heap.size ≤ k) (fun k => wT.heap.size ≤ k) e103 e106 HPM (fun k hk => ⟨Nat.le_trans HWT.out hk, fun e => by have := ((Kd.R_bound HSS.out).1 k e.symm).2.2.1; omega⟩) (fun k hk => Nat.le_trans (Nat.le_trans HWT.out hbp.size) hk) (Kd.R_below HSS.out hbp) (hbp.mono HWT.out) (Nat.le_trans HWT.out hbp.size) HFEW.out ?_)
       intro v1 w11 hr1 hbel hgrow hat
       refine hK v1 w11 (fun _ _ h => h) (fun _ _ => trivial) ⟨fun e => ?_, fun _ e => ?_, fun _ e => ?_, fun _ _ => ⟨?_, hbel, grownBy_trans (grown_of_below hbp) hgrow⟩, fun e => ?_⟩
       ·rw [setB (by decide), h4] at e; cases e
       ·rw [setB (by decide), h4] at e; cases e
       ·rw [setS (by omega)] at e; cases e
       ·have e3 : (y.put o.dst v1).tmps.getD 107 undef = v1 := by rw [dstIs hi rfl]; exact put_same (by rw [hI.size]; show 107 < 125; decide)
        rw [e3]; exact hr1
       ·rw [setB (by decide)] at e; exact absurd (hC.dep 7 5 (by kernel_rfl) e) (notDone hs (by decide) hnd)
      ·-- 6
       exact wp_value (exec_fieldAddr 55 7 (.tmp 6) o (opIs hi rfl) y _ _ (hI.slot 6 (by rfl) rfl) (field55_7 W b6)) (hK _ _ (fun _ _ h => h) (fun _ _ => rfl) (hM.step (by decide) (by decide) (by decide) (by decide) (by rw [dstIs hi rfl]; exact put_at (by decide)) (by rw [dstIs hi rfl]; exact put_at (by decide)) (by rw [dstIs hi rfl]; exact put_at (by decide))))
      ·-- 7
       have h5 : l.getD 5 false = true := depB hi (by kernel_rfl) hd
       have h4 : l.getD 4 false = true := hC.dep 5 4 (by kernel_rfl) h5
       have h7 : l.getD 7 false = false := by simpa using notDone hs (by decide) hnd
       obtain ⟨hr1, hbel, hgrow⟩ := hM.s3 h5 h7
       have e108 : y.eval (.tmp 108) = .pointer (some ⟨b6, 38, none⟩) := hI.got hi hd (j := 6) (by kernel_rfl) rfl
       obtain ⟨v1, hv1⟩ : ∃ v1, v1 = y.tmps.getD 107 undef := ⟨_, rfl⟩
       rw [← hv1] at hr1
       have hrow1 : W.heap[b6]? = some (.cells (delV a.ver b.ver b.clock b.node b.key b.exp vg vs).toArray 55 (0, 0)) := (hbel.block b6 (by have := S5.out; omega)).trans HROW.out
       obtain ⟨VA, vc, hva⟩ := Kd.R_slice hr1
       have hstore := run_storeAt1 Tryz.prog W 29 Tryz.sizeOf29 b6 38 v1 (by rw [hva]; rfl) (by rw [hva]; rfl) _ (by rw [cell_of_heap hrow1]; exact delV38 _ _ _ _ _ _ _ _) (frozen_of_heap hrow1)
       refine wp_skip (runs_store 29 (.tmp 108) (.tmp 107) o (opIs hi rfl) y _ _ e108 hv1.symm _ hstore) (hK _ _ (fun _ _ h => h) (fun N hN => by rw [dstIs hi rfl] at hN; cases hN) ⟨fun e => ?_, fun _ e => ?_, fun _ e => ?_, fun _ e => ?_, fun _ => OT.out.put (by have := S5.out; have := HBB.out; omega) (by have := S5.out; omega) HROW.out HGG.out HSS.out hr1 hbel hgrow⟩)
       ·rw [setB (by decide), h4] at e; cases e
       ·rw [setB (by decide), h4] at e; cases e
       ·rw [setB (by decide), h5] at e; cases e
       ·rw [setS (by omega)] at e; cases e
     ·intro v' W hv y hns hM
      have ONN := Aside0.mk (hM.s4 (by rfl))
      clear hv hM hns
      simp only [List.map_cons, List.map_nil, putAll]
      simp only [Act.put, List.setIfInBounds_toArray, List.set_cons_zero, List.set_cons_succ]
      go_wp2_with fail
      go_roundg (b.peers.length - (kk + 1))
      case measure => have := HKK.out; omega
      case rel => exact ⟨kk + 1, q :: r, _, c', g ++ tk.map (·.node), s ++ [p], by have h1 := HKK.out; have h2 := FB.out; have h3 : wrap64 ((kk : Int) + 1) = ((kk + 1 : Nat) : Int) := (by unfold wrap64; omega); rw [h3], rfl, by have := HKK.out; omega, PA8, ⟨by have h1 := LE.out; have h3 := congrArg List.length HT.out; simp only [List.length_append, List.length_cons, List.length_nil] at h3; simp only [List.length_append, List.length_map, List.length_cons, List.length_nil]; omega⟩, ⟨by rw [List.length_append, List.length_singleton]; have := LS.out; omega⟩, ⟨by rw [DG.out, drop_pe HP.out, diff_step HT.out HT2.out (fun q2 r2 e => by cases e; have := HQP.out; omega)]; simp only; rw [if_neg HQE.out]⟩, ONN⟩
    have hqb : (q.node == p.node) = true := by simpa using hqe
    have HQE := Aside0.mk hqe
    refine region_quietC (C := fun W => Below wq.heap.size wq W) (by kernel_rfl) (by kernel_rfl) ((Below.refl _ _).drew) ?_
    repeat (first | ((with_reducible refine at_ql 3 (.tmp 88) ?_); refine wpQuiet_loadK 3 (.tmp 88) rfl _ rfl _ (by kernel_rfl) (fun W hW => LQ.out W (below_step HQ.out hW)) ?_; simp only [Act.put, List.setIfInBounds_toArray, List.set_cons_zero, List.set_cons_succ]) | ((with_reducible refine at_ql 3 (.tmp 90) ?_); refine wpQuiet_loadK 3 (.tmp 90) rfl _ rfl _ (by kernel_rfl) (fun W hW => LP.out W (below_step HQ.out hW)) ?_; simp only [Act.put, List.setIfInBounds_toArray, List.set_cons_zero, List.set_cons_succ]) | go_big_quiet_step (exact fun _ => rfl))
    refine wpQuiet_nil ?_
    rintro wu hu
    have OU := Aside0.mk ((ON9.out.grow HQ.out).grow hu)
    have NU := Aside0.mk (roomN (roomN NB9.out HQ.out) hu)
    have L14 := Aside0.mk (HLQ.out wu OU.out.lo)
    have st := Aside0.mk (fun (C : Array Value) (hc : C.size = 36) => run_storeNew Tryz.prog wu 48 36 (by kernel_rfl) C (peerCells q Q1 e1 Q2 e2).toArray hc (by simpa using peerCells_len q Q1 e1 Q2 e2) (fun u hu => peerV_one q _ _ rfl rfl u (by simpa [peerCells] using hu)))
    obtain ⟨nq, hnq⟩ : ∃ nq, nq = wu.heap.size := ⟨_, rfl⟩
    obtain ⟨w14, hw14⟩ : ∃ w14, w14 = wu.alloc (.cells (peerCells q Q1 e1 Q2 e2).toArray 48) := ⟨_, rfl⟩
    have b14 : Below wu.heap.size wu w14 := by rw [hw14]; exact (Below.refl _ wu).alloc (Nat.le_refl _) _
    have NQ := Aside0.mk (show w14.heap[nq]? = some (.cells (peerCells q Q1 e1 Q2 e2).toArray 48 (0, 0)) by rw [hw14, hnq]; exact heap_alloc_new wu _)
    have O14 := Aside0.mk (OU.out.grow b14)
    have N14 := Aside0.mk (roomN NU.out b14)
    have LA14 := Aside0.mk (run_loadAtK Tryz.prog w14 48 36 Tryz.isAgg48 Tryz.sizeOf48 nq 0 (peerCells q Q1 e1 Q2 e2) (peerCells_len _ _ _ _ _) (cells_of_heap NQ.out))
    have LB14 := Aside0.mk (run_loadAtK Tryz.prog w14 48 36 Tryz.isAgg48 Tryz.sizeOf48 nb 0 (peerCells p P1 d1 P2 d2) (peerCells_len _ _ _ _ _) (cells_of_heap N14.out))
    have EQP := Aside0.mk (equalPeer68 q p Q1 Q2 P1 P2 e1 e2 d1 d2 w14 (HINQ.out.below O14.out.lo) (HIN.out.below O14.out.lo))
    obtain ⟨QX, hQX⟩ : ∃ QX, QX = (peerCells q Q1 e1 Q2 e2).toArray := ⟨_, rfl⟩
    rw [← hQX] at L14 st hw14 LA14 EQP
    rw [← HPX.out] at LB14 EQP
    have SL := Aside0.mk (sliceAt29c (some ⟨ga, oa, none⟩) q r c' PA8.out.1 w14)
    clear hQX b14 hu LQ LP HLQ
    go_upto_region 15 with (first | ((with_reducible refine at_load 48 (.tmp 95) ?_); refine wpList_loadK rfl 48 (.tmp 95) rfl _ rfl _ L14.out ?_) | ((with_reducible refine at_store 48 (.tmp 10) (.tmp 96) ?_); refine wpList_storeK rfl 48 (.tmp 10) (.tmp 96) rfl rfl _ _ rfl rfl _ (st.out _ rfl) ?_))
    rw [← hw14, ← hnq]
    clear hw14 hnq L14 st hz hz0 hqe hqb
    obtain ⟨A9, hA9⟩ : ∃ A9, A9 = (if c' = 1 then (some (⟨ga, oa, none⟩ : Addr)) else (some (⟨ga, oa, none⟩ : Addr)).map (·.add 36)) := ⟨_, rfl⟩
    have PA9 := Aside0.mk PA8.out.tail
    rw [← hA9] at SL PA9
    clear hA9
    go_wp2_with (first | ((with_reducible refine at_slice 29 (.tmp 97) (.const (.int .i64 1)) ?_); refine wpList_valueW (by rfl) _ w14 (exec_slice1 29 (.tmp 97) (.const (.int .i64 1)) _ rfl _ _ _ rfl rfl _ SL.out) ?_) | ((with_reducible refine at_load 48 (.tmp 10) ?_); refine wpList_loadK rfl 48 (.tmp 10) rfl _ rfl _ LA14.out ?_) | ((with_reducible refine at_load 48 (.tmp 9) ?_); refine wpList_loadK rfl 48 (.tmp 9) rfl _ rfl _ LB14.out ?_))
    refine EQP.out.mono ?_
    rintro e wT ⟨rfl, hb16⟩
    have OT := Aside0.mk (O14.out.grow hb16)
    have NT := Aside0.mk (roomN N14.out hb16)
    obtain ⟨v16, hv16⟩ : ∃ v16, v16 = decide (q = p) := ⟨_, rfl⟩
    rw [← hv16]
    have HV16 := Aside0.mk hv16
    clear hv16 hb16 EQP LA14 LB14 SL
    cases v16 with
    | true =>
     have HEQ := Aside0.mk (show q = p from of_decide_eq_true HV16.out.symm)
     go_wp2_with fail
     go_roundg (b.peers.length - (kk + 1))
     case measure => have := HKK.out; omega
     case rel => exact ⟨kk + 1, r, A9, c' - 1, g ++ tk.map (·.node), s, by have h1 := HKK.out; have h2 := FB.out; have h3 : wrap64 ((kk : Int) + 1) = ((kk + 1 : Nat) : Int) := (by unfold wrap64; omega); rw [h3], rfl, by have := HKK.out; omega, PA9, ⟨by have h1 := LE.out; have h3 := congrArg List.length HT.out; simp only [List.length_append, List.length_cons] at h3; simp only [List.length_append, List.length_map]; omega⟩, ⟨by have := LS.out; omega⟩, ⟨by rw [DG.out, drop_pe HP.out, diff_step HT.out HT2.out (fun q2 r2 e => by cases e; have := HQP.out; omega)]; simp only; rw [if_pos HQE.out, if_pos HEQ.out]⟩, OT⟩
    | false =>
     have HEQ := Aside0.mk (show ¬ q = p from of_decide_eq_false HV16.out.symm)
     go_upto_region 17 with fail
     obtain ⟨vg, vs, hrow, hG, hS⟩ := OT.out.row
     have HROW := Aside0.mk hrow
     have HGG := Aside0.mk hG
     have HSS := Aside0.mk hS
     have HWT := Aside0.mk (show w5.heap.size ≤ wT.heap.size from OT.out.kp.1)
     have HFEW := Aside0.mk (show (s.length + 1) * 96 ≤ 140737488355328 by have h1 := LS.out; have h2 := FB.out; have h3 := HKK.out; omega)
     have LT := Aside0.mk (fun (W : World) (hb : Below wT.heap.size wT W) => run_loadAtK Tryz.prog W 48 36 Tryz.isAgg48 Tryz.sizeOf48 nb 0 (peerCells p P1 d1 P2 d2) (peerCells_len _ _ _ _ _) (cells_of_heap (roomN NT.out hb)))
     rw [← HPX.out] at LT
     clear hrow hG hS
     refine region_useA (G17 b6 PX vs) (M17 a b w w5 b6 (g ++ tk.map (·.node)) s p vs wT) [102, 103, 104, 105, 106, 107, 108] (by kernel_rfl) rfl (by kernel_rfl) ⟨fun _ => (Below.refl _ _).drew, fun e => by simp [Array.getD] at e, fun e => by simp [Array.getD] at e, fun e => by simp [Array.getD] at e, fun e => by simp [Array.getD] at e⟩ ?_ ?_
     ·intro i o l y W hi hs hnd hd hC hI hM K hK
      have hs : l.size = 8 := hs
      have hlt : i < 8 := (Array.getElem?_eq_some_iff.1 hi).1
      have hb6q : b6 < wT.heap.size := by have := S5.out; have := HWT.out; omega
      have hcase : i = 0 ∨ i = 1 ∨ i = 2 ∨ i = 3 ∨ i = 4 ∨ i = 5 ∨ i = 6 ∨ i = 7 := by omega
      rcases hcase with rfl | rfl | rfl | rfl | rfl | rfl | rfl | rfl
      ·-- 0
       exact wp_value (exec_fieldAddr 55 7 (.tmp 6) o (opIs hi rfl) y _ _ (hI.slot 6 (by rfl) rfl) (field55_7 W b6)) (hK _ _ (fun _ _ h => h) (fun _ _ => rfl) (hM.step (by decide) (by decide) (by decide) (by decide) (by rw [dstIs hi rfl]; exact put_at (by decide)) (by rw [dstIs hi rfl]; exact put_at (by decide)) (by rw [dstIs hi rfl]; exact put_at (by decide))))
      ·-- 1
       have hB := (hM.cell (fun e => notDone hs (by decide) hnd (hC.dep 5 1 (by kernel_rfl) e)))
       exact wp_value (yields_load 29 (.tmp 102) o (opIs hi rfl) y _ (hI.got hi hd (j := 0) (by kernel_rfl) rfl) _ (run_load1 29 Tryz.isAgg29 (by rw [cell_of_heap ((hB.block b6 hb6q).trans HROW.out)]; exact delV38 _ _ _ _ _ _ _ _))) (hK _ _ (fun _ _ h => h) (fun _ _ => rfl) (hM.step (by decide) (by decide) (by decide) (by decide) (by rw [dstIs hi rfl]; exact put_at (by decide)) (by rw [dstIs hi rfl]; exact put_at (by decide)) (by rw [dstIs hi rfl]; exact put_at (by decide))))
      ·-- 2
       have hB := (hM.cell (fun e => notDone hs (by decide) hnd (hC.dep 3 2 (by kernel_rfl) (hC.dep 4 3 (by kernel_rfl) (hC.dep 5 4 (by kernel_rfl) e)))))
       exact wp_value (yields_load 48 (.tmp 9) o (opIs hi rfl) y _ (hI.slot 9 (by rfl) rfl) _ (LT.out W hB)) (hK _ _ (fun _ _ h => h) (fun _ _ => rfl) (hM.step (by decide) (by decide) (by decide) (by decide) (by rw [dstIs hi rfl]; exact put_at (by decide)) (by rw [dstIs hi rfl]; exact put_at (by decide)) (by rw [dstIs hi rfl]; exact put_at (by decide))))
      ·-- 3
       have hB := (hM.cell (fun e => notDone hs (by decide) hnd (hC.dep 4 3 (by kernel_rfl) (hC.dep 5 4 (by kernel_rfl) e))))
       have e104 : y.eval (.tmp 104) = .agg PX := hI.got hi hd (j := 2) (by kernel_rfl) rfl
       have hg : o.guard = none := (okOps_at (n := 125) (by kernel_rfl) hi).1
       refine wp_goes Tryz.func69 (by kernel_rfl) rfl #[.agg PX] hg (opIs hi rfl) (by simp only [List.map_toArray, List.map_cons, List.map_nil, e104]) ?_
       rw [HPX.out]
       refine (own69 p P1 P2 d1 d2 W (HIN.out.below (below_step OT.out.lo hB)) (by have := MP.out; omega) (by have := MP.out; omega)).mono ?_
       rintro e' W' ⟨v1, v2, rfl, r1, r2, hb'⟩
       refine ⟨_, rfl, hK _ W' (fun _ _ h => h) (fun _ _ => trivial) ⟨fun _ => below_step hB hb', fun _ _ => ⟨v1, v2, ?_, Kd.R_mono (Kd.R_lower (Kd.R_bound r1) hB.size) (fun k hk => Nat.le_trans hB.size hk.2.1), Kd.R_mono (Kd.R_lower (Kd.R_bound r2) hB.size) (fun k hk => Nat.le_trans hB.size hk.2.1)⟩, fun e => ?_, fun e => ?_, fun e => ?_⟩⟩
       ·rw [dstIs hi rfl]; exact put_same (by rw [hI.size]; show 105 < 125; decide)
       ·rw [setB (by decide)] at e; exact absurd (hC.dep 4 3 (by kernel_rfl) e) (notDone hs (by decide) hnd)
       ·rw [setB (by decide)] at e; exact absurd (hC.dep 4 3 (by kernel_rfl) (hC.dep 5 4 (by kernel_rfl) e)) (notDone hs (by decide) hnd)
       ·rw [setB (by decide)] at e; exact absurd (hC.dep 4 3 (by kernel_rfl) (hC.dep 5 4 (by kernel_rfl) (hC.dep 7 5 (by kernel_rfl) e))) (notDone hs (by decide) hnd)
      ·-- 4
       have hB := (hM.cell (fun e => notDone hs (by decide) hnd (hC.dep 5 4 (by kernel_rfl) e)))
       have h3 : l.getD 3 false = true := depB hi (by kernel_rfl) hd
       have h4 : l.getD 4 false = false := by simpa using notDone hs (by decide) hnd
       obtain ⟨x1, x2, e105, r1, r2⟩ := hM.s1 h3 h4
       have e105 : y.eval (.tmp 105) = .agg (peerV p x1 x2).toArray := e105
       refine wp_value (exec_bslice 29 1 #[(0, .tmp 105)] o (opIs hi rfl) y #[(0, .agg (peerV p x1 x2).toArray)] (by simp only [List.map_toArray, List.map_cons, List.map_nil, e105]) _ (buildP W p x1 x2)) (hK _ _ (fun _ _ h => h) (fun _ _ => trivial) ⟨fun e => ?_, fun _ e => ?_, fun _ _ => ⟨W, x1, x2, rfl, hB, ?_, r1, r2⟩, fun e => ?_, fun e => ?_⟩)
       ·rw [setS (by omega)] at e; cases e
       ·rw [setS (by omega)] at e; cases e
       ·rw [dstIs hi rfl]; exact put_same (by rw [hI.size]; show 106 < 125; decide)
       ·rw [setB (by decide)] at e; exact absurd (hC.dep 5 4 (by kernel_rfl) e) (notDone hs (by decide) hnd)
       ·rw [setB (by decide)] at e; exact absurd (hC.dep 5 4 (by kernel_rfl) (hC.dep 7 5 (by kernel_rfl) e)) (notDone hs (by decide) hnd)
      ·-- 5
       have h4 : l.getD 4 false = true := depB hi (by kernel_rfl) hd
       have h5 : l.getD 5 false = false := by simpa using notDone hs (by decide) hnd
       obtain ⟨Wp, x1, x2, rfl, hbp, e106, r1, r2⟩ := hM.s2 h4 h5
       have e103 : y.eval (.tmp 103) = vs := hI.got hi hd (j := 1) (by kernel_rfl) rfl
       have hg : o.guard = none := (okOps_at (n := 125) (by kernel_rfl) hi).1
       have hw : Region.wanted o (yielded #[] y.tmps) = true := by unfold Region.wanted; rw [hg]
       have HPM : kPeer.M Wp w5.heap.size (fun k => wT.heap.size ≤ k) p (peerV p x1 x2) := kPeer_mkM (Kd.R_lower r1 HWT.out) (Kd.R_lower r2 HWT.out)
       refine wanted_true (ops := #[]) (X := K (y.put o.dst undef) (Wp.alloc (.cells (peerV p x1 x2).toArray 48))) hg (Kd.R_append_step kPeer (w0 := wT) (W := Wp) (ops := #[]) w5.heap.size hw (.tmp 103) (.tmp 106) 29 48 (.agg zeroPeer) 96 (opIs hi rfl) Tryz.underlying29 (by kernel_rfl) (by kernel_rfl) (by decide) (by decide) vs s p (peerV p x1 x2) (fun k => w5.heap.size ≤ k) (fun k => wT.heap.size ≤ k) e103 e106 HPM (fun k hk => ⟨Nat.le_trans HWT.out hk, fun e => by have := ((Kd.R_bound HSS.out).1 k e.symm).2.2.1; omega⟩) (fun k hk => Nat.le_trans (Nat.le_trans HWT.out hbp.size) hk) (Kd.R_below HSS.out hbp) (hbp.mono HWT.out) (Nat.le_trans HWT.out hbp.size) HFEW.out ?_)
       intro v1 w11 hr1 hbel hgrow hat
       refine hK v1 w11 (fun _ _ h => h) (fun _ _ => trivial) ⟨fun e => ?_, fun _ e => ?_, fun _ e => ?_, fun _ _ => ⟨?_, hbel, grownBy_trans (grown_of_below hbp) hgrow⟩, fun e => ?_⟩
       ·rw [setB (by decide), h4] at e; cases e
       ·rw [setB (by decide), h4] at e; cases e
       ·rw [setS (by omega)] at e; cases e
       ·have e3 : (y.put o.dst v1).tmps.getD 107 undef = v1 := by rw [dstIs hi rfl]; exact put_same (by rw [hI.size]; show 107 < 125; decide)
        rw [e3]; exact hr1
       ·rw [setB (by decide)] at e; exact absurd (hC.dep 7 5 (by kernel_rfl) e) (notDone hs (by decide) hnd)
      ·-- 6
       exact wp_value (exec_fieldAddr 55 7 (.tmp 6) o (opIs hi rfl) y _ _ (hI.slot 6 (by rfl) rfl) (field55_7 W b6)) (hK _ _ (fun _ _ h => h) (fun _ _ => rfl) (hM.step (by decide) (by decide) (by decide) (by decide) (by rw [dstIs hi rfl]; exact put_at (by decide)) (by rw [dstIs hi rfl]; exact put_at (by decide)) (by rw [dstIs hi rfl]; exact put_at (by decide))))
      ·-- 7
       have h5 : l.getD 5 false = true := depB hi (by kernel_rfl) hd
       have h4 : l.getD 4 false = true := hC.dep 5 4 (by kernel_rfl) h5
       have h7 : l.getD 7 false = false := by simpa using notDone hs (by decide) hnd
       obtain ⟨hr1, hbel, hgrow⟩ := hM.s3 h5 h7
       have e108 : y.eval (.tmp 108) = .pointer (some ⟨b6, 38, none⟩) := hI.got hi hd (j := 6) (by kernel_rfl) rfl
       obtain ⟨v1, hv1⟩ : ∃ v1, v1 = y.tmps.getD 107 undef := ⟨_, rfl⟩
       rw [← hv1] at hr1
       have hrow1 : W.heap[b6]? = some (.cells (delV a.ver b.ver b.clock b.node b.key b.exp vg vs).toArray 55 (0, 0)) := (hbel.block b6 (by have := S5.out; omega)).trans HROW.out
       obtain ⟨VA, vc, hva⟩ := Kd.R_slice hr1
       have hstore := run_storeAt1 Tryz.prog W 29 Tryz.sizeOf29 b6 38 v1 (by rw [hva]; rfl) (by rw [hva]; rfl) _ (by rw [cell_of_heap hrow1]; exact delV38 _ _ _ _ _ _ _ _) (frozen_of_heap hrow1)
       refine wp_skip (runs_store 29 (.tmp 108) (.tmp 107) o (opIs hi rfl) y _ _ e108 hv1.symm _ hstore) (hK _ _ (fun _ _ h => h) (fun N hN => by rw [dstIs hi rfl] at hN; cases hN) ⟨fun e => ?_, fun _ e => ?_, fun _ e => ?_, fun _ e => ?_, fun _ => OT.out.put (by have := S5.out; have := HBB.out; omega) (by have := S5.out; omega) HROW.out HGG.out HSS.out hr1 hbel hgrow⟩)
       ·rw [setB (by decide), h4] at e; cases e
       ·rw [setB (by decide), h4] at e; cases e
       ·rw [setB (by decide), h5] at e; cases e
       ·rw [setS (by omega)] at e; cases e
     ·intro v' W hv y hns hM
      have ONN := Aside0.mk (hM.s4 (by rfl))
      clear hv hM hns
      simp only [List.map_cons, List.map_nil, putAll]
      simp only [Act.put, List.setIfInBounds_toArray, List.set_cons_zero, List.set_cons_succ]
      go_wp2_with fail
      go_roundg (b.peers.length - (kk + 1))
      case measure => have := HKK.out; omega
      case rel => exact ⟨kk + 1, r, A9, c' - 1, g ++ tk.map (·.node), s ++ [p], by have h1 := HKK.out; have h2 := FB.out; have h3 : wrap64 ((kk : Int) + 1) = ((kk + 1 : Nat) : Int) := (by unfold wrap64; omega); rw [h3], rfl, by have := HKK.out; omega, PA9, ⟨by have h1 := LE.out; have h3 := congrArg List.length HT.out; simp only [List.length_append, List.length_cons, List.length_nil] at h3; simp only [List.length_append, List.length_map, List.length_cons, List.length_nil]; omega⟩, ⟨by rw [List.length_append, List.length_singleton]; have := LS.out; omega⟩, ⟨by rw [DG.out, drop_pe HP.out, diff_step HT.out HT2.out (fun q2 r2 e => by cases e; have := HQP.out; omega)]; simp only; rw [if_pos HQE.out, if_neg HEQ.out]⟩, ONN⟩
end Go.Proofs.YtmgbaefgcdglpaaGreatDoor.Net
end
