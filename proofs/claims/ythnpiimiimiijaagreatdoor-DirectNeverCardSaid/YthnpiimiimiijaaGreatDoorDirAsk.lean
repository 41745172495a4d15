/- The statements' ops, and what is asked for by numbers. -/
import Derived.Test.YthnpiimiimiijaaGreatDoorDirKey
namespace Go.Proofs.YthnpiimiimiijaaGreatDoor.Dir
open Go Go.RowKit Go.Proofs Go.Proofs.YthnpiimiimiijaaGreatDoorW.PrintWords Go.Proofs.YthnpiimiimiijaaGreatDoorW.PrintLast Go.Proofs.YthnpiimiimiijaaGreatDoorW.PrintMore
set_option linter.unusedVariables false
set_option linter.unusedSimpArgs false
theorem size36 : (Tryz.prog.info? 36).map (·.size) = some 37 := by kernel_rfl
def regOp (node : Int) (k : Nat) (e : Int) : Op := ⟨1, node, keyN k, e, [], 0⟩
def rotOp (node : Int) (k : Nat) (e : Int) : Op := ⟨2, node, keyN k, e, [], 0⟩
def revOp (node : Int) : Op := ⟨3, node, key0, 0, [], 0⟩
def advOp (t : Int) : Op := ⟨5, 0, key0, 0, [], t⟩

set_option maxHeartbeats 1000000 in
set_option maxRecDepth 100000 in
theorem reg_law (node : Int) (k : Nat) (hk : k < 256) (e : Int) (w : World) : Calls Tryz.prog 38 #[.int .i64 node, .int .i64 k, .int .i64 e] w fun e' w' => e' = .returned (.agg (encO ⟨1, node, keyN k, e, [], 0⟩).toArray) ∧ Below w.heap.size w w' := by
  obtain ⟨W0, hW0⟩ : ∃ W0, W0 = w.alloc (.cells zeroOp 36) := ⟨_, rfl⟩
  have hb0 : Below w.heap.size w W0 := by rw [hW0]; exact (Below.refl _ w).alloc (Nat.le_refl _) _
  have hq0 : W0.heap[w.heap.size]? = some (.cells zeroOp 36 (0, 0)) := by rw [hW0]; exact heap_alloc_new w _
  have HK := Aside0.mk (key_any k hk W0)
  have HQ := Aside0.mk (And.intro hb0 hq0)
  clear hb0 hq0
  go_enter Tryz.func38, Tryz.ntmps38
  go_upto_region 1 with fail
  change Code.wp _ _ _ _ (w.alloc (.cells zeroOp 36))
  rw [← hW0]
  clear hW0
  go_wp2_with fail
  refine HK.out.mono ?_
  rintro e' w1 ⟨rfl, hb1⟩
  have hq1 := (hb1.block _ (Array.getElem?_eq_some_iff.1 HQ.out.2).1).trans HQ.out.2
  have b1 := Aside0.mk (buildO4 w1 1 node e (keyN k))
  have st := Aside0.mk (run_storeFull Tryz.prog w1 36 37 Tryz.sizeOf36 w.heap.size (encO ⟨1, node, keyN k, e, [], 0⟩) (encO_len _) (encO_one _) _ 36 hq1 rfl)
  have hq2 := Aside0.mk (setRow_heap w1 w.heap.size _ (encO ⟨1, node, keyN k, e, [], 0⟩).toArray 36 (0, 0) hq1)
  have HB := Aside0.mk hb1
  clear hb1 hq1
  go_wp2_with (first
    | ((with_reducible refine at_build 36 #[(0, .const (.int .i64 1)), (1, .tmp 7), (2, .tmp 9), (3, .tmp 10)] ?_); refine wpList_build4 rfl 36 (.const (.int .i64 1)) (.tmp 7) (.tmp 9) (.tmp 10) rfl _ _ _ _ rfl rfl rfl rfl _ _ b1.out ?_)
    | ((with_reducible refine at_store 36 (.tmp 6) (.tmp 11) ?_); refine wpList_storeK rfl 36 (.tmp 6) (.tmp 11) rfl rfl _ _ rfl rfl _ st.out ?_))
  try simp only [Exit.inBlock, Exit.then]
  refine bodyPost_ret (results_cell_row rfl _ _ w.heap.size 36 _ (0, 0) _ rfl hq2.out Tryz.underlying36 rfl (by rw [size36]; simp [encO_len])) rfl ?_
  exact ⟨rfl, below_setRow (below_step HQ.out.1 HB.out) (Nat.le_refl _) _⟩

set_option maxHeartbeats 1000000 in
set_option maxRecDepth 100000 in
theorem rot_law (node : Int) (k : Nat) (hk : k < 256) (e : Int) (w : World) : Calls Tryz.prog 39 #[.int .i64 node, .int .i64 k, .int .i64 e] w fun e' w' => e' = .returned (.agg (encO ⟨2, node, keyN k, e, [], 0⟩).toArray) ∧ Below w.heap.size w w' := by
  obtain ⟨W0, hW0⟩ : ∃ W0, W0 = w.alloc (.cells zeroOp 36) := ⟨_, rfl⟩
  have hb0 : Below w.heap.size w W0 := by rw [hW0]; exact (Below.refl _ w).alloc (Nat.le_refl _) _
  have hq0 : W0.heap[w.heap.size]? = some (.cells zeroOp 36 (0, 0)) := by rw [hW0]; exact heap_alloc_new w _
  have HK := Aside0.mk (key_any k hk W0)
  have HQ := Aside0.mk (And.intro hb0 hq0)
  clear hb0 hq0
  go_enter Tryz.func39, Tryz.ntmps39
  go_upto_region 1 with fail
  change Code.wp _ _ _ _ (w.alloc (.cells zeroOp 36))
  rw [← hW0]
  clear hW0
  go_wp2_with fail
  refine HK.out.mono ?_
  rintro e' w1 ⟨rfl, hb1⟩
  have hq1 := (hb1.block _ (Array.getElem?_eq_some_iff.1 HQ.out.2).1).trans HQ.out.2
  have b1 := Aside0.mk (buildO4 w1 2 node e (keyN k))
  have st := Aside0.mk (run_storeFull Tryz.prog w1 36 37 Tryz.sizeOf36 w.heap.size (encO ⟨2, node, keyN k, e, [], 0⟩) (encO_len _) (encO_one _) _ 36 hq1 rfl)
  have hq2 := Aside0.mk (setRow_heap w1 w.heap.size _ (encO ⟨2, node, keyN k, e, [], 0⟩).toArray 36 (0, 0) hq1)
  have HB := Aside0.mk hb1
  clear hb1 hq1
  go_wp2_with (first
    | ((with_reducible refine at_build 36 #[(0, .const (.int .i64 2)), (1, .tmp 7), (2, .tmp 9), (3, .tmp 10)] ?_); refine wpList_build4 rfl 36 (.const (.int .i64 2)) (.tmp 7) (.tmp 9) (.tmp 10) rfl _ _ _ _ rfl rfl rfl rfl _ _ b1.out ?_)
    | ((with_reducible refine at_store 36 (.tmp 6) (.tmp 11) ?_); refine wpList_storeK rfl 36 (.tmp 6) (.tmp 11) rfl rfl _ _ rfl rfl _ st.out ?_))
  try simp only [Exit.inBlock, Exit.then]
  refine bodyPost_ret (results_cell_row rfl _ _ w.heap.size 36 _ (0, 0) _ rfl hq2.out Tryz.underlying36 rfl (by rw [size36]; simp [encO_len])) rfl ?_
  exact ⟨rfl, below_setRow (below_step HQ.out.1 HB.out) (Nat.le_refl _) _⟩

set_option maxHeartbeats 1000000 in
set_option maxRecDepth 100000 in
theorem rev_law (x : Int) (w : World) : Calls Tryz.prog 40 #[.int .i64 x] w fun e' w' => e' = .returned (.agg (encO ⟨3, x, key0, 0, [], 0⟩).toArray) ∧ Below w.heap.size w w' := by
  obtain ⟨W0, hW0⟩ : ∃ W0, W0 = w.alloc (.cells zeroOp 36) := ⟨_, rfl⟩
  have hq0 : W0.heap[w.heap.size]? = some (.cells zeroOp 36 (0, 0)) := by rw [hW0]; exact heap_alloc_new w _
  have HB := Aside0.mk (show Below w.heap.size w W0 by rw [hW0]; exact (Below.refl _ w).alloc (Nat.le_refl _) _)
  have b1 := Aside0.mk (buildO3 W0 3 x)
  have st := Aside0.mk (run_storeFull Tryz.prog W0 36 37 Tryz.sizeOf36 w.heap.size (encO ⟨3, x, key0, 0, [], 0⟩) (encO_len _) (encO_one _) _ 36 hq0 rfl)
  have hq2 := Aside0.mk (setRow_heap W0 w.heap.size _ (encO ⟨3, x, key0, 0, [], 0⟩).toArray 36 (0, 0) hq0)
  clear hq0
  go_enter Tryz.func40, Tryz.ntmps40
  go_upto_region 1 with fail
  change Code.wp _ _ _ _ (w.alloc (.cells zeroOp 36))
  rw [← hW0]
  clear hW0
  go_wp2_with (first
    | ((with_reducible refine at_build 36 #[(0, .const (.int .i64 3)), (1, .tmp 3)] ?_); refine wpList_build2 rfl 36 0 1 (.const (.int .i64 3)) (.tmp 3) rfl _ _ rfl rfl _ _ b1.out ?_)
    | ((with_reducible refine at_store 36 (.tmp 2) (.tmp 4) ?_); refine wpList_storeK rfl 36 (.tmp 2) (.tmp 4) rfl rfl _ _ rfl rfl _ st.out ?_))
  try simp only [Exit.inBlock, Exit.then]
  refine bodyPost_ret (results_cell_row rfl _ _ w.heap.size 36 _ (0, 0) _ rfl hq2.out Tryz.underlying36 rfl (by rw [size36]; simp [encO_len])) rfl ?_
  exact ⟨rfl, below_setRow HB.out (Nat.le_refl _) _⟩

set_option maxHeartbeats 1000000 in
set_option maxRecDepth 100000 in
theorem adv_law (x : Int) (w : World) : Calls Tryz.prog 41 #[.int .i64 x] w fun e' w' => e' = .returned (.agg (encO ⟨5, 0, key0, 0, [], x⟩).toArray) ∧ Below w.heap.size w w' := by
  obtain ⟨W0, hW0⟩ : ∃ W0, W0 = w.alloc (.cells zeroOp 36) := ⟨_, rfl⟩
  have hq0 : W0.heap[w.heap.size]? = some (.cells zeroOp 36 (0, 0)) := by rw [hW0]; exact heap_alloc_new w _
  have HB := Aside0.mk (show Below w.heap.size w W0 by rw [hW0]; exact (Below.refl _ w).alloc (Nat.le_refl _) _)
  have b1 := Aside0.mk (buildO5 W0 5 x)
  have st := Aside0.mk (run_storeFull Tryz.prog W0 36 37 Tryz.sizeOf36 w.heap.size (encO ⟨5, 0, key0, 0, [], x⟩) (encO_len _) (encO_one _) _ 36 hq0 rfl)
  have hq2 := Aside0.mk (setRow_heap W0 w.heap.size _ (encO ⟨5, 0, key0, 0, [], x⟩).toArray 36 (0, 0) hq0)
  clear hq0
  go_enter Tryz.func41, Tryz.ntmps41
  go_upto_region 1 with fail
  change Code.wp _ _ _ _ (w.alloc (.cells zeroOp 36))
  rw [← hW0]
  clear hW0
  go_wp2_with (first
    | ((with_reducible refine at_build 36 #[(0, .const (.int .i64 5)), (5, .tmp 3)] ?_); refine wpList_build2 rfl 36 0 5 (.const (.int .i64 5)) (.tmp 3) rfl _ _ rfl rfl _ _ b1.out ?_)
    | ((with_reducible refine at_store 36 (.tmp 2) (.tmp 4) ?_); refine wpList_storeK rfl 36 (.tmp 2) (.tmp 4) rfl rfl _ _ rfl rfl _ st.out ?_))
  try simp only [Exit.inBlock, Exit.then]
  refine bodyPost_ret (results_cell_row rfl _ _ w.heap.size 36 _ (0, 0) _ rfl hq2.out Tryz.underlying36 rfl (by rw [size36]; simp [encO_len])) rfl ?_
  exact ⟨rfl, below_setRow HB.out (Nat.le_refl _) _⟩

theorem bring_num (i n : Int) (hn : 0 < n) : (i.tmod n < 0 → i.tmod n + n = i % n) ∧ (¬ i.tmod n < 0 → i.tmod n = i % n) ∧ -n < i.tmod n ∧ i.tmod n < n := by
  have h1 := Int.tmod_lt_of_pos i hn
  have h2 : -n < i.tmod n := by
    have := Int.lt_tmod_of_pos i hn
    omega
  have h3 := Int.emod_nonneg i (show n ≠ 0 by omega)
  have h4 := Int.emod_lt_of_pos i hn
  have e := Int.mul_tdiv_add_tmod i n
  have h5 : (i.tmod n) % n = i % n := by
    rw [show i % n = (i.tmod n + n * i.tdiv n) % n by rw [Int.add_comm, e], Int.add_mul_emod_self_left]
  refine ⟨fun h => ?_, fun h => ?_, h2, h1⟩
  · rw [← h5, show i.tmod n % n = i.tmod n + n by
      rw [← Int.add_emod_right, Int.emod_eq_of_lt (by omega) (by omega)]]
  · rw [← h5, Int.emod_eq_of_lt (by omega) (by omega)]
set_option maxRecDepth 100000 in
theorem bring_any (i n : Int) (hn : 0 < n) (hb : n ≤ 1000) (w : World) : Calls Tryz.prog 28 #[.int .i64 i, .int .i64 n] w fun e w' => e = .returned (.int .i64 (i % n)) ∧ w' = w := by
  obtain ⟨b1, b2, b3, b4⟩ := bring_num i n hn
  have h1 : ¬ n ≤ 0 := by omega
  have h2 : ¬ n = 0 := by omega
  generalize i % n = r at b1 b2 ⊢
  by_cases hneg : i.tmod n < 0
  · have e1 := Aside0.mk (b1 hneg)
    have hw : wrap64 (i.tmod n + n) = i.tmod n + n := by unfold wrap64; omega
    have hw2 : IntKind.i64.wrap (i.tmod n) = i.tmod n := by rw [IntKind.wrap_i64]; omega
    clear b1 b2
    go_enter Tryz.func28, Tryz.ntmps28
    go_wp2
    go_ret
    exact ⟨by rw [← e1.out]; rfl, rfl⟩
  · have e1 := Aside0.mk (b2 hneg)
    have hw2 : IntKind.i64.wrap (i.tmod n) = i.tmod n := by rw [IntKind.wrap_i64]; omega
    clear b1 b2
    go_enter Tryz.func28, Tryz.ntmps28
    go_wp2
    go_ret
    exact ⟨by rw [← e1.out]; rfl, rfl⟩

/-- What is asked for by four numbers. -/
structure AskV where
  kind : Int
  node : Int
  key : Int
  at_ : Int
  deriving Inhabited
def askOp (a : AskV) : Op :=
  if a.kind % 6 = 0 ∨ a.kind % 6 = 1 then regOp (1 + a.node % 4) (a.key % 30).toNat (a.at_ % 200)
  else if a.kind % 6 = 2 ∨ a.kind % 6 = 3 then rotOp (1 + a.node % 4) (a.key % 30).toNat (a.at_ % 200)
  else if a.kind % 6 = 4 then revOp (1 + a.node % 4) else advOp (a.at_ % 200)
structure AskAt (W : World) (b : Nat) (x0 x1 x2 x3 : Int) : Prop where
  bx : W.heap[b]? = some (.cells #[.int .i64 x0, .int .i64 x1, .int .i64 x2, .int .i64 x3] 38 (0, 0))
theorem AskAt.drew {W : World} {b : Nat} {x0 x1 x2 x3 : Int} (h : AskAt W b x0 x1 x2 x3) : AskAt W.drew b x0 x1 x2 x3 := ⟨h.bx⟩
theorem AskAt.cells {W : World} {b : Nat} {x0 x1 x2 x3 : Int} (h : AskAt W b x0 x1 x2 x3) : W.cell? ⟨b, 0, none⟩ = some (.int .i64 x0) ∧ W.cell? ⟨b, 1, none⟩ = some (.int .i64 x1) ∧ W.cell? ⟨b, 2, none⟩ = some (.int .i64 x2) ∧ W.cell? ⟨b, 3, none⟩ = some (.int .i64 x3) := by
  have hk := h.bx
  simp [World.cell?, hk]
set_option maxHeartbeats 2000000 in
set_option maxRecDepth 100000 in
theorem op_any (x0 x1 x2 x3 : Int) (w : World) : Calls Tryz.prog 16 #[.agg #[.int .i64 x0, .int .i64 x1, .int .i64 x2, .int .i64 x3]] w fun e w' => e = .returned (.agg (encO (askOp ⟨x0, x1, x2, x3⟩)).toArray) ∧ Below w.heap.size w w' := by
  obtain ⟨W0, hW0⟩ : ∃ W0, W0 = (w.alloc (.cells #[.int .i64 x0, .int .i64 x1, .int .i64 x2, .int .i64 x3] 38)).alloc (.cells zeroOp 36) := ⟨_, rfl⟩
  have HS : Aside0 (AskAt W0 w.heap.size x0 x1 x2 x3 ∧ Below w.heap.size w W0) := ⟨by
    rw [hW0]
    exact ⟨⟨by rw [Below.heap_alloc _ _ _ (by simp)]; exact heap_alloc_new w _⟩, ((Below.refl _ w).alloc (Nat.le_refl _) _).alloc (by simp) _⟩⟩
  have hq0 : W0.heap[w.heap.size + 1]? = some (.cells zeroOp 36 (0, 0)) := by rw [hW0]; have := heap_alloc_new (w.alloc (.cells #[.int .i64 x0, .int .i64 x1, .int .i64 x2, .int .i64 x3] 38)) (.cells zeroOp 36); simpa using this
  have HQ := Aside0.mk hq0
  clear hq0
  have hn1 : wrap64 (1 + x1 % 4) = 1 + x1 % 4 := by unfold wrap64; omega
  have hn2 : IntKind.i64.wrap (1 + x1 % 4) = 1 + x1 % 4 := by rw [IntKind.wrap_i64]; omega
  go_enter Tryz.func16, Tryz.ntmps16
  go_upto_region 1 with fail
  change Code.wp _ _ _ _ ((w.alloc (.cells #[.int .i64 x0, .int .i64 x1, .int .i64 x2, .int .i64 x3] 38)).alloc (.cells zeroOp 36))
  rw [← hW0]
  clear hW0
  refine start_ (n := 13) (S := fun W => W = W0.drew) (ds := []) #[false, false, false, false, false, false, false, false, false, false, false, false, false] (by kernel_rfl) rfl rfl rfl (fun hHeld => ?_)
  skip
  refine pure_ (i := 0) (N := (some 6)) (v := ?_) (a' := ?_) #[true, false, false, false, false, false, false, false, false, false, false, false, false] rfl rfl (by kernel_rfl) (fun _ _ _ h => h) (Or.inl ⟨by rfl, ?_⟩) ?_ ?_
  rotate_left
  · intro w'
    go_simp
    with_reducible rfl
  rotate_left
  · simp only [Act.put, List.setIfInBounds_toArray, List.set_cons_zero, List.set_cons_succ, i64_w, i32_w]
    rfl
  refine pure_ (i := 4) (N := (some 10)) (v := ?_) (a' := ?_) #[true, false, false, false, true, false, false, false, false, false, false, false, false] rfl rfl (by kernel_rfl) (fun _ _ _ h => h) (Or.inl ⟨by rfl, ?_⟩) ?_ ?_
  rotate_left
  · intro w'
    go_simp
    with_reducible rfl
  rotate_left
  · simp only [Act.put, List.setIfInBounds_toArray, List.set_cons_zero, List.set_cons_succ, i64_w, i32_w]
    rfl
  refine pure_ (i := 7) (N := (some 13)) (v := ?_) (a' := ?_) #[true, false, false, false, true, false, false, true, false, false, false, false, false] rfl rfl (by kernel_rfl) (fun _ _ _ h => h) (Or.inl ⟨by rfl, ?_⟩) ?_ ?_
  rotate_left
  · intro w'
    go_simp
    with_reducible rfl
  rotate_left
  · simp only [Act.put, List.setIfInBounds_toArray, List.set_cons_zero, List.set_cons_succ, i64_w, i32_w]
    rfl
  refine take_ (i := 1) (N := (some 7)) (v := ?_) (a' := ?_) #[true, true, false, false, true, false, false, true, false, false, false, false, false] rfl rfl (by kernel_rfl) (fun _ _ _ h => h) (Or.inl ⟨by rfl, ?_⟩) hHeld ?_ ?_
  rotate_left
  · rintro w' hs
    subst hs
    obtain ⟨a0, a1, a2, a3⟩ := HS.out.1.drew.cells
    go_simp
    with_reducible rfl
  rotate_left
  · simp only [Act.put, List.setIfInBounds_toArray, List.set_cons_zero, List.set_cons_succ, i64_w, i32_w]
    rfl
  refine take_ (i := 5) (N := (some 11)) (v := ?_) (a' := ?_) #[true, true, false, false, true, true, false, true, false, false, false, false, false] rfl rfl (by kernel_rfl) (fun _ _ _ h => h) (Or.inl ⟨by rfl, ?_⟩) hHeld ?_ ?_
  rotate_left
  · rintro w' hs
    subst hs
    obtain ⟨a0, a1, a2, a3⟩ := HS.out.1.drew.cells
    go_simp
    with_reducible rfl
  rotate_left
  · simp only [Act.put, List.setIfInBounds_toArray, List.set_cons_zero, List.set_cons_succ, i64_w, i32_w]
    rfl
  refine take_ (i := 8) (N := (some 14)) (v := ?_) (a' := ?_) #[true, true, false, false, true, true, false, true, true, false, false, false, false] rfl rfl (by kernel_rfl) (fun _ _ _ h => h) (Or.inl ⟨by rfl, ?_⟩) hHeld ?_ ?_
  rotate_left
  · rintro w' hs
    subst hs
    obtain ⟨a0, a1, a2, a3⟩ := HS.out.1.drew.cells
    go_simp
    with_reducible rfl
  rotate_left
  · simp only [Act.put, List.setIfInBounds_toArray, List.set_cons_zero, List.set_cons_succ, i64_w, i32_w]
    rfl
  refine one_ (i := 2) (N := (some 8)) #[true, true, true, false, true, true, false, true, true, false, false, false, false] rfl rfl (by kernel_rfl) (by decide) (fun K hK => ?_)
  refine goes_ Tryz.func28 (by kernel_rfl) rfl #[.int .i64 x1, .int .i64 4] (by rfl) rfl rfl (by (try simp only [List.map_toArray, List.map_cons, List.map_nil]); first | done | rfl) ?_
  refine (bring_any x1 4 (by decide) (by decide) _).mono ?_
  rintro e w5c ⟨rfl, rfl⟩
  refine ⟨_, rfl, ?_⟩
  have hS_ := hHeld
  refine hK.out _ _ hS_ (fun hHeld => ?_)
  clear hK K
  refine norm_ (a' := ?_) ?_ ?_
  rotate_left
  · show Act.put _ (some 8) _ = _
    simp only [Act.put, List.setIfInBounds_toArray, List.set_cons_zero, List.set_cons_succ, i64_w, i32_w]
    rfl
  refine pure_ (i := 3) (N := (some 9)) (v := ?_) (a' := ?_) #[true, true, true, true, true, true, false, true, true, false, false, false, false] rfl rfl (by kernel_rfl) (fun _ _ _ h => h) (Or.inl ⟨by rfl, ?_⟩) ?_ ?_
  rotate_left
  · intro w'
    go_simp
    with_reducible rfl
  rotate_left
  · simp only [Act.put, List.setIfInBounds_toArray, List.set_cons_zero, List.set_cons_succ, i64_w, i32_w]
    rfl
  refine one_ (i := 6) (N := (some 12)) #[true, true, true, true, true, true, true, true, true, false, false, false, false] rfl rfl (by kernel_rfl) (by decide) (fun K hK => ?_)
  refine goes_ Tryz.func28 (by kernel_rfl) rfl #[.int .i64 x2, .int .i64 30] (by rfl) rfl rfl (by (try simp only [List.map_toArray, List.map_cons, List.map_nil]); first | done | rfl) ?_
  refine (bring_any x2 30 (by decide) (by decide) _).mono ?_
  rintro e w5c ⟨rfl, rfl⟩
  refine ⟨_, rfl, ?_⟩
  have hS_ := hHeld
  refine hK.out _ _ hS_ (fun hHeld => ?_)
  clear hK K
  refine norm_ (a' := ?_) ?_ ?_
  rotate_left
  · show Act.put _ (some 12) _ = _
    simp only [Act.put, List.setIfInBounds_toArray, List.set_cons_zero, List.set_cons_succ, i64_w, i32_w]
    rfl
  refine one_ (i := 9) (N := (some 15)) #[true, true, true, true, true, true, true, true, true, true, false, false, false] rfl rfl (by kernel_rfl) (by decide) (fun K hK => ?_)
  refine goes_ Tryz.func28 (by kernel_rfl) rfl #[.int .i64 x3, .int .i64 200] (by rfl) rfl rfl (by (try simp only [List.map_toArray, List.map_cons, List.map_nil]); first | done | rfl) ?_
  refine (bring_any x3 200 (by decide) (by decide) _).mono ?_
  rintro e w5c ⟨rfl, rfl⟩
  refine ⟨_, rfl, ?_⟩
  have hS_ := hHeld
  refine hK.out _ _ hS_ (fun hHeld => ?_)
  clear hK K
  refine norm_ (a' := ?_) ?_ ?_
  rotate_left
  · show Act.put _ (some 15) _ = _
    simp only [Act.put, List.setIfInBounds_toArray, List.set_cons_zero, List.set_cons_succ, i64_w, i32_w]
    rfl
  refine pure_ (i := 10) (N := (some 3)) (v := ?_) (a' := ?_) #[true, true, true, true, true, true, true, true, true, true, true, false, false] rfl rfl (by kernel_rfl) (fun _ _ _ h => h) (Or.inl ⟨by rfl, ?_⟩) ?_ ?_
  rotate_left
  · intro w'
    go_simp
    with_reducible rfl
  rotate_left
  · simp only [Act.put, List.setIfInBounds_toArray, List.set_cons_zero, List.set_cons_succ, i64_w, i32_w]
    rfl
  refine pure_ (i := 11) (N := (some 4)) (v := ?_) (a' := ?_) #[true, true, true, true, true, true, true, true, true, true, true, true, false] rfl rfl (by kernel_rfl) (fun _ _ _ h => h) (Or.inl ⟨by rfl, ?_⟩) ?_ ?_
  rotate_left
  · intro w'
    go_simp
    with_reducible rfl
  rotate_left
  · simp only [Act.put, List.setIfInBounds_toArray, List.set_cons_zero, List.set_cons_succ, i64_w, i32_w]
    rfl
  refine pure_ (i := 12) (N := (some 5)) (v := ?_) (a' := ?_) #[true, true, true, true, true, true, true, true, true, true, true, true, true] rfl rfl (by kernel_rfl) (fun _ _ _ h => h) (Or.inl ⟨by rfl, ?_⟩) ?_ ?_
  rotate_left
  · intro w'
    go_simp
    with_reducible rfl
  rotate_left
  · simp only [Act.put, List.setIfInBounds_toArray, List.set_cons_zero, List.set_cons_succ, i64_w, i32_w]
    rfl
  refine done_ (by kernel_rfl) ?_
  obtain ⟨w5, hw5⟩ : ∃ w5, w5 = W0.drew := ⟨_, rfl⟩
  have HS5 : Aside0 (AskAt w5 w.heap.size x0 x1 x2 x3 ∧ Below w.heap.size w w5) := ⟨by rw [hw5]; exact ⟨HS.out.1.drew, HS.out.2.drew⟩⟩
  have HQ5 : Aside0 (w5.heap[w.heap.size + 1]? = some (.cells zeroOp 36 (0, 0))) := ⟨by rw [hw5]; exact HQ.out⟩
  rw [← hw5]
  clear hw5 hHeld HS HQ
  obtain ⟨a0, -, -, -⟩ := HS5.out.1.cells
  have HBR := Aside0.mk (bring_any x0 6 (by decide) (by decide) w5)
  have hk : (((x2 % 30).toNat : Nat) : Int) = x2 % 30 := by omega
  have hk2 : (x2 % 30).toNat < 256 := by omega
  have h6 : x0 % 6 = 0 ∨ x0 % 6 = 1 ∨ x0 % 6 = 2 ∨ x0 % 6 = 3 ∨ x0 % 6 = 4 ∨ x0 % 6 = 5 := by omega
  have HO : Aside0 (askOp ⟨x0, x1, x2, x3⟩ = if x0 % 6 = 0 ∨ x0 % 6 = 1 then regOp (1 + x1 % 4) (x2 % 30).toNat (x3 % 200) else if x0 % 6 = 2 ∨ x0 % 6 = 3 then rotOp (1 + x1 % 4) (x2 % 30).toNat (x3 % 200) else if x0 % 6 = 4 then revOp (1 + x1 % 4) else advOp (x3 % 200)) := ⟨rfl⟩
  rw [← hk]
  generalize (x2 % 30).toNat = kk at hk2 HO ⊢
  clear hk
  go_wp2_with fail
  refine HBR.out.mono ?_
  rintro e' w6 ⟨rfl, rfl⟩
  rcases h6 with h6 | h6 | h6 | h6 | h6 | h6
  · rw [h6]
    have HX : Aside0 (askOp ⟨x0, x1, x2, x3⟩ = regOp (1 + x1 % 4) kk (x3 % 200)) := ⟨by rw [HO.out]; simp only [h6]; simp⟩
    have HC := Aside0.mk (reg_law (1 + x1 % 4) kk hk2 (x3 % 200) w6)
    clear h6 HO
    go_wp2_with fail
    refine HC.out.mono ?_
    rintro e' w7 ⟨rfl, hb⟩
    have hq7 := (hb.block _ (Array.getElem?_eq_some_iff.1 HQ5.out).1).trans HQ5.out
    have st := Aside0.mk (run_storeFull Tryz.prog w7 36 37 Tryz.sizeOf36 (w.heap.size + 1) (encO (regOp (1 + x1 % 4) kk (x3 % 200))) (encO_len _) (encO_one _) _ 36 hq7 rfl)
    have hq8 := Aside0.mk (setRow_heap w7 (w.heap.size + 1) _ (encO (regOp (1 + x1 % 4) kk (x3 % 200))).toArray 36 (0, 0) hq7)
    have HB := Aside0.mk hb
    clear hb hq7
    try simp only [regOp, rotOp, revOp, advOp] at st hq8 HX
    go_wp2_with ((with_reducible refine at_store 36 (.tmp 2) (.tmp 25) ?_); refine wpList_storeK rfl 36 (.tmp 2) (.tmp 25) rfl rfl _ _ rfl rfl _ st.out ?_)
    try simp only [Exit.inBlock, Exit.then]
    refine bodyPost_ret (results_cell_row rfl _ _ (w.heap.size + 1) 36 _ (0, 0) _ rfl hq8.out Tryz.underlying36 rfl (by rw [size36]; simp [encO_len])) rfl ?_
    exact ⟨by rw [HX.out], below_setRow (below_step HS5.out.2 HB.out) (by omega) _⟩
  · rw [h6]
    have HX : Aside0 (askOp ⟨x0, x1, x2, x3⟩ = regOp (1 + x1 % 4) kk (x3 % 200)) := ⟨by rw [HO.out]; simp only [h6]; simp⟩
    have HC := Aside0.mk (reg_law (1 + x1 % 4) kk hk2 (x3 % 200) w6)
    clear h6 HO
    go_wp2_with fail
    refine HC.out.mono ?_
    rintro e' w7 ⟨rfl, hb⟩
    have hq7 := (hb.block _ (Array.getElem?_eq_some_iff.1 HQ5.out).1).trans HQ5.out
    have st := Aside0.mk (run_storeFull Tryz.prog w7 36 37 Tryz.sizeOf36 (w.heap.size + 1) (encO (regOp (1 + x1 % 4) kk (x3 % 200))) (encO_len _) (encO_one _) _ 36 hq7 rfl)
    have hq8 := Aside0.mk (setRow_heap w7 (w.heap.size + 1) _ (encO (regOp (1 + x1 % 4) kk (x3 % 200))).toArray 36 (0, 0) hq7)
    have HB := Aside0.mk hb
    clear hb hq7
    try simp only [regOp, rotOp, revOp, advOp] at st hq8 HX
    go_wp2_with ((with_reducible refine at_store 36 (.tmp 2) (.tmp 25) ?_); refine wpList_storeK rfl 36 (.tmp 2) (.tmp 25) rfl rfl _ _ rfl rfl _ st.out ?_)
    try simp only [Exit.inBlock, Exit.then]
    refine bodyPost_ret (results_cell_row rfl _ _ (w.heap.size + 1) 36 _ (0, 0) _ rfl hq8.out Tryz.underlying36 rfl (by rw [size36]; simp [encO_len])) rfl ?_
    exact ⟨by rw [HX.out], below_setRow (below_step HS5.out.2 HB.out) (by omega) _⟩
  · rw [h6]
    have HX : Aside0 (askOp ⟨x0, x1, x2, x3⟩ = rotOp (1 + x1 % 4) kk (x3 % 200)) := ⟨by rw [HO.out]; simp only [h6]; simp⟩
    have HC := Aside0.mk (rot_law (1 + x1 % 4) kk hk2 (x3 % 200) w6)
    clear h6 HO
    go_wp2_with fail
    refine HC.out.mono ?_
    rintro e' w7 ⟨rfl, hb⟩
    have hq7 := (hb.block _ (Array.getElem?_eq_some_iff.1 HQ5.out).1).trans HQ5.out
    have st := Aside0.mk (run_storeFull Tryz.prog w7 36 37 Tryz.sizeOf36 (w.heap.size + 1) (encO (rotOp (1 + x1 % 4) kk (x3 % 200))) (encO_len _) (encO_one _) _ 36 hq7 rfl)
    have hq8 := Aside0.mk (setRow_heap w7 (w.heap.size + 1) _ (encO (rotOp (1 + x1 % 4) kk (x3 % 200))).toArray 36 (0, 0) hq7)
    have HB := Aside0.mk hb
    clear hb hq7
    try simp only [regOp, rotOp, revOp, advOp] at st hq8 HX
    go_wp2_with ((with_reducible refine at_store 36 (.tmp 2) (.tmp 32) ?_); refine wpList_storeK rfl 36 (.tmp 2) (.tmp 32) rfl rfl _ _ rfl rfl _ st.out ?_)
    try simp only [Exit.inBlock, Exit.then]
    refine bodyPost_ret (results_cell_row rfl _ _ (w.heap.size + 1) 36 _ (0, 0) _ rfl hq8.out Tryz.underlying36 rfl (by rw [size36]; simp [encO_len])) rfl ?_
    exact ⟨by rw [HX.out], below_setRow (below_step HS5.out.2 HB.out) (by omega) _⟩
  · rw [h6]
    have HX : Aside0 (askOp ⟨x0, x1, x2, x3⟩ = rotOp (1 + x1 % 4) kk (x3 % 200)) := ⟨by rw [HO.out]; simp only [h6]; simp⟩
    have HC := Aside0.mk (rot_law (1 + x1 % 4) kk hk2 (x3 % 200) w6)
    clear h6 HO
    go_wp2_with fail
    refine HC.out.mono ?_
    rintro e' w7 ⟨rfl, hb⟩
    have hq7 := (hb.block _ (Array.getElem?_eq_some_iff.1 HQ5.out).1).trans HQ5.out
    have st := Aside0.mk (run_storeFull Tryz.prog w7 36 37 Tryz.sizeOf36 (w.heap.size + 1) (encO (rotOp (1 + x1 % 4) kk (x3 % 200))) (encO_len _) (encO_one _) _ 36 hq7 rfl)
    have hq8 := Aside0.mk (setRow_heap w7 (w.heap.size + 1) _ (encO (rotOp (1 + x1 % 4) kk (x3 % 200))).toArray 36 (0, 0) hq7)
    have HB := Aside0.mk hb
    clear hb hq7
    try simp only [regOp, rotOp, revOp, advOp] at st hq8 HX
    go_wp2_with ((with_reducible refine at_store 36 (.tmp 2) (.tmp 32) ?_); refine wpList_storeK rfl 36 (.tmp 2) (.tmp 32) rfl rfl _ _ rfl rfl _ st.out ?_)
    try simp only [Exit.inBlock, Exit.then]
    refine bodyPost_ret (results_cell_row rfl _ _ (w.heap.size + 1) 36 _ (0, 0) _ rfl hq8.out Tryz.underlying36 rfl (by rw [size36]; simp [encO_len])) rfl ?_
    exact ⟨by rw [HX.out], below_setRow (below_step HS5.out.2 HB.out) (by omega) _⟩
  · rw [h6]
    have HX : Aside0 (askOp ⟨x0, x1, x2, x3⟩ = revOp (1 + x1 % 4)) := ⟨by rw [HO.out]; simp only [h6]; simp⟩
    have HC := Aside0.mk (rev_law (1 + x1 % 4) w6)
    clear h6 HO
    go_wp2_with fail
    refine HC.out.mono ?_
    rintro e' w7 ⟨rfl, hb⟩
    have hq7 := (hb.block _ (Array.getElem?_eq_some_iff.1 HQ5.out).1).trans HQ5.out
    have st := Aside0.mk (run_storeFull Tryz.prog w7 36 37 Tryz.sizeOf36 (w.heap.size + 1) (encO (revOp (1 + x1 % 4))) (encO_len _) (encO_one _) _ 36 hq7 rfl)
    have hq8 := Aside0.mk (setRow_heap w7 (w.heap.size + 1) _ (encO (revOp (1 + x1 % 4))).toArray 36 (0, 0) hq7)
    have HB := Aside0.mk hb
    clear hb hq7
    try simp only [regOp, rotOp, revOp, advOp] at st hq8 HX
    go_wp2_with ((with_reducible refine at_store 36 (.tmp 2) (.tmp 36) ?_); refine wpList_storeK rfl 36 (.tmp 2) (.tmp 36) rfl rfl _ _ rfl rfl _ st.out ?_)
    try simp only [Exit.inBlock, Exit.then]
    refine bodyPost_ret (results_cell_row rfl _ _ (w.heap.size + 1) 36 _ (0, 0) _ rfl hq8.out Tryz.underlying36 rfl (by rw [size36]; simp [encO_len])) rfl ?_
    exact ⟨by rw [HX.out], below_setRow (below_step HS5.out.2 HB.out) (by omega) _⟩
  · rw [h6]
    have HX : Aside0 (askOp ⟨x0, x1, x2, x3⟩ = advOp (x3 % 200)) := ⟨by rw [HO.out]; simp only [h6]; simp⟩
    have HC := Aside0.mk (adv_law (x3 % 200) w6)
    clear h6 HO
    go_wp2_with fail
    refine HC.out.mono ?_
    rintro e' w7 ⟨rfl, hb⟩
    have hq7 := (hb.block _ (Array.getElem?_eq_some_iff.1 HQ5.out).1).trans HQ5.out
    have st := Aside0.mk (run_storeFull Tryz.prog w7 36 37 Tryz.sizeOf36 (w.heap.size + 1) (encO (advOp (x3 % 200))) (encO_len _) (encO_one _) _ 36 hq7 rfl)
    have hq8 := Aside0.mk (setRow_heap w7 (w.heap.size + 1) _ (encO (advOp (x3 % 200))).toArray 36 (0, 0) hq7)
    have HB := Aside0.mk hb
    clear hb hq7
    try simp only [regOp, rotOp, revOp, advOp] at st hq8 HX
    go_wp2_with ((with_reducible refine at_store 36 (.tmp 2) (.tmp 38) ?_); refine wpList_storeK rfl 36 (.tmp 2) (.tmp 38) rfl rfl _ _ rfl rfl _ st.out ?_)
    try simp only [Exit.inBlock, Exit.then]
    refine bodyPost_ret (results_cell_row rfl _ _ (w.heap.size + 1) 36 _ (0, 0) _ rfl hq8.out Tryz.underlying36 rfl (by rw [size36]; simp [encO_len])) rfl ?_
    exact ⟨by rw [HX.out], below_setRow (below_step HS5.out.2 HB.out) (by omega) _⟩
end Go.Proofs.YthnpiimiimiijaaGreatDoor.Dir
