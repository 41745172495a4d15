/- The statements' keys and ops. -/
import Derived.Test.YthnpiimiimiijaaGreatDoorDirApply
namespace Go.Proofs.YthnpiimiimiijaaGreatDoor.Dir
open Go Go.RowKit Go.Proofs Go.Proofs.YthnpiimiimiijaaGreatDoorW.PrintWords Go.Proofs.YthnpiimiimiijaaGreatDoorW.PrintLast Go.Proofs.YthnpiimiimiijaaGreatDoorW.PrintMore
set_option linter.unusedVariables false
set_option linter.unusedSimpArgs false
def keyN (n : Nat) : Key := ⟨1 :: 0 :: 0 :: n.toUInt8 :: List.replicate 28 0, by simp⟩
theorem size34' : (Tryz.prog.info? 34).map (·.size) = some 32 := by kernel_rfl
/-! ### builds -/
section
variable {P : Program} {w : World} {ops : Array Oper} {rest : List Oper} {o : Oper} {a : Act} {Q : Exit → Act → World → Prop}
theorem wpList_build2 (hgd : o.guard = none) (t : TypeId) (i0 i1 : Nat) (x0 x1 : Operand) (ho : o.op = .build t #[(i0, x0), (i1, x1)]) (v0 v1 : Value) (h0 : a.eval x0 = v0) (h1 : a.eval x1 = v1) (r : Value) (w' : World)
  (hr : (Instr.build t #[(i0, v0), (i1, v1)]).run P w = .ok r w') (h : wpList P ops Q rest (a.put o.dst r) w') : wpList P ops Q (o :: rest) a w :=
 wpList_plain hgd fun K hK => by
  unfold Oper.wp execOp
  simp only [ho, Sem.run_bind]
  simp [h0, h1, hr]
  exact hK _ _ h
theorem wpList_build4 (hgd : o.guard = none) (t : TypeId) (x0 x1 x2 x3 : Operand) (ho : o.op = .build t #[(0, x0), (1, x1), (2, x2), (3, x3)]) (v0 v1 v2 v3 : Value) (h0 : a.eval x0 = v0) (h1 : a.eval x1 = v1) (h2 : a.eval x2 = v2) (h3 : a.eval x3 = v3) (r : Value) (w' : World)
  (hr : (Instr.build t #[(0, v0), (1, v1), (2, v2), (3, v3)]).run P w = .ok r w') (h : wpList P ops Q rest (a.put o.dst r) w') : wpList P ops Q (o :: rest) a w :=
 wpList_plain hgd fun K hK => by
  unfold Oper.wp execOp
  simp only [ho, Sem.run_bind]
  simp [h0, h1, h2, h3, hr]
  exact hK _ _ h
end
def opZ : Op := ⟨0, 0, key0, 0, [], 0⟩
def zeroOp : Array Value := #[.int .i64 0, .int .i64 0, .int .u8 0, .int .u8 0, .int .u8 0, .int .u8 0, .int .u8 0, .int .u8 0, .int .u8 0, .int .u8 0, .int .u8 0, .int .u8 0, .int .u8 0, .int .u8 0, .int .u8 0, .int .u8 0, .int .u8 0, .int .u8 0, .int .u8 0, .int .u8 0, .int .u8 0, .int .u8 0, .int .u8 0, .int .u8 0, .int .u8 0, .int .u8 0, .int .u8 0, .int .u8 0, .int .u8 0, .int .u8 0, .int .u8 0, .int .u8 0, .int .u8 0, .int .u8 0, .int .i64 0, .string ⟨#[]⟩, .int .i64 0]
theorem zeroOp_list : zeroOp.toList = encO opZ := rfl
theorem spO0 (o : Op) (k : Int) : splice (encO o) 0 [.int .i64 k] = encO { o with kind := k } := rfl
theorem spO1 (o : Op) (k : Int) : splice (encO o) 1 [.int .i64 k] = encO { o with node := k } := rfl
theorem spO2 (o : Op) (k : Key) : splice (encO o) 2 (encK k) = encO { o with key := k } := by
 unfold splice encO
 rw [encK_len]
 simp only [List.take_succ_cons, List.take_zero, Nat.reduceAdd, List.drop_succ_cons]
 rw [List.drop_append, List.drop_eq_nil_of_le (by rw [encK_len]; omega), encK_len]
 rfl
theorem spO34 (o : Op) (e : Int) : splice (encO o) 34 [.int .i64 e] = encO { o with exp := e } := by
 unfold splice encO
 simp only [List.take_succ_cons, List.length_cons, List.length_nil, Nat.reduceAdd, List.drop_succ_cons]
 rw [List.take_append_of_le_length (by rw [encK_len]; omega), List.take_of_length_le (by rw [encK_len]; omega), List.drop_append, List.drop_eq_nil_of_le (by rw [encK_len]; omega), encK_len]
 rfl
theorem spO36 (o : Op) (e : Int) : splice (encO o) 36 [.int .i64 e] = encO { o with at_ := e } := by
 unfold splice encO
 simp only [List.take_succ_cons, List.length_cons, List.length_nil, Nat.reduceAdd, List.drop_succ_cons]
 rw [List.take_append, List.take_of_length_le (by rw [encK_len]; omega), encK_len, List.drop_append, List.drop_eq_nil_of_le (by rw [encK_len]; omega), encK_len]
 simp
def placesO : Array (Nat × Nat) := #[(0, 1), (1, 1), (2, 32), (34, 1), (35, 1), (36, 1)]
theorem fillO (o : Op) (i off size : Nat) (v : Value) (cs : List Value) (o' : Op) (rest : List (Nat × Value)) (hp : placesO[i]? = some (off, size)) (hv : v.cells.toList = cs) (hl : cs.length = size) (hs : splice (encO o) off cs = encO o') (hf : off + size ≤ 37) :
  Instr.fill (placesO[·]?) (encO o).toArray ((i, v) :: rest) = Instr.fill (placesO[·]?) (encO o').toArray rest := by
 rw [fill_cons (placesO[·]?) _ i v rest off size hp (by rw [← Array.length_toList, hv, hl]) (by simp only [List.size_toArray, encO_len]; omega), hv]
 rw [show (encO o).toArray.toList = encO o from rfl, hs]
set_option maxRecDepth 100000 in
theorem run_buildO (w : World) (parts : Array (Nat × Value)) (o' : Op) (hf : Instr.fill (placesO[·]?) (encO opZ).toArray parts.toList = some (encO o').toArray) : (Instr.build 36 parts).run Tryz.prog w = .ok (.agg (encO o').toArray) w := by
 have hz : (zeroValue 36).run Tryz.prog w = .ok (.agg zeroOp) w := Tryz.zeroValue36 w
 rw [← zeroOp_list, Array.toArray_toList] at hf
 unfold placesO at hf
 generalize zeroOp = Z at hf hz
 simp only [Instr.build, Sem.run_bind, hz, Result.andThen_ok, run_underlying Tryz.underlying36, Value.cells]
 simp only [List.mapM_toArray, List.mapM_cons, List.mapM_nil, Sem.run_bind, Sem.run_map, Sem.run_pure, Result.andThen_ok, Functor.map]
 have hb : ∀ {α β : Type} (x : Sem α) (f : α → Sem β), Sem.bind x f = x >>= f := fun _ _ => rfl
 simp only [hb, Sem.run_bind, Sem.run_pure, Result.andThen_ok, Tryz.sizeOf3, Tryz.sizeOf34, Tryz.sizeOf9, Function.comp]
 change ((Result.ok (#[(0, 1), (1, 1), (2, 32), (34, 1), (35, 1), (36, 1)] : Array (Nat × Nat)) w).andThen fun a w' => _) = _
 simp only [Result.andThen_ok]
 rw [hf]
 rfl
theorem buildO4 (w : World) (kind node e : Int) (k : Key) : (Instr.build 36 #[(0, .int .i64 kind), (1, .int .i64 node), (2, .agg (encK k).toArray), (3, .int .i64 e)]).run Tryz.prog w = .ok (.agg (encO ⟨kind, node, k, e, [], 0⟩).toArray) w := by
 refine run_buildO w _ _ ?_
 show Instr.fill (placesO[·]?) (encO opZ).toArray [(0, .int .i64 kind), (1, .int .i64 node), (2, .agg (encK k).toArray), (3, .int .i64 e)] = _
 rw [fillO opZ 0 0 1 _ [.int .i64 kind] _ _ rfl rfl rfl (spO0 _ _) (by omega), fillO _ 1 1 1 _ [.int .i64 node] _ _ rfl rfl rfl (spO1 _ _) (by omega),
  fillO _ 2 2 32 _ (encK k) _ _ rfl (by simp [Value.cells]) (encK_len k) (spO2 _ _) (by omega), fillO _ 3 34 1 _ [.int .i64 e] _ _ rfl rfl rfl (spO34 _ _) (by omega)]
 rfl
theorem buildO3 (w : World) (kind node : Int) : (Instr.build 36 #[(0, .int .i64 kind), (1, .int .i64 node)]).run Tryz.prog w = .ok (.agg (encO ⟨kind, node, key0, 0, [], 0⟩).toArray) w := by
 refine run_buildO w _ _ ?_
 show Instr.fill (placesO[·]?) (encO opZ).toArray [(0, .int .i64 kind), (1, .int .i64 node)] = _
 rw [fillO opZ 0 0 1 _ [.int .i64 kind] _ _ rfl rfl rfl (spO0 _ _) (by omega), fillO _ 1 1 1 _ [.int .i64 node] _ _ rfl rfl rfl (spO1 _ _) (by omega)]
 rfl
theorem buildO5 (w : World) (kind at_ : Int) : (Instr.build 36 #[(0, .int .i64 kind), (5, .int .i64 at_)]).run Tryz.prog w = .ok (.agg (encO ⟨kind, 0, key0, 0, [], at_⟩).toArray) w := by
 refine run_buildO w _ _ ?_
 show Instr.fill (placesO[·]?) (encO opZ).toArray [(0, .int .i64 kind), (5, .int .i64 at_)] = _
 rw [fillO opZ 0 0 1 _ [.int .i64 kind] _ _ rfl rfl rfl (spO0 _ _) (by omega), fillO _ 5 36 1 _ [.int .i64 at_] _ _ rfl rfl rfl (spO36 _ _) (by omega)]
 rfl
theorem encKN (n : Nat) (hn : n < 256) : encK (keyN n) = .int .u8 1 :: .int .u8 0 :: .int .u8 0 :: .int .u8 n :: List.replicate 28 (.int .u8 0) := by
 have : byteV n.toUInt8 = .int .u8 (n : Int) := by
  unfold byteV
  have h : n.toUInt8.toNat = n := by simp; omega
  rw [h]
 show byteV 1 :: byteV 0 :: byteV 0 :: byteV n.toUInt8 :: _ = _
 rw [this]
 rfl
set_option maxRecDepth 100000 in
theorem buildKey (w : World) (n : Nat) (hn : n < 256) : (Instr.build 34 #[(0, .int .u8 1), (1, .int .u8 0), (2, .int .u8 0), (3, .int .u8 n)]).run Tryz.prog w = .ok (.agg (encK (keyN n)).toArray) w := by
 have hz : (zeroValue 34).run Tryz.prog w = .ok (.agg zeroKey) w := Tryz.zeroValue34 w
 have hf : Instr.fill (fun i => some (i * 1, 1)) zeroKey [(0, .int .u8 1), (1, .int .u8 0), (2, .int .u8 0), (3, .int .u8 n)] = some (encK (keyN n)).toArray := by
  rw [encKN n hn]
  rw [fill_cons _ _ 0 _ _ 0 1 rfl rfl (by decide)]
  rw [show splice zeroKey.toList 0 (Value.int .u8 1).cells.toList = .int .u8 1 :: List.replicate 31 (.int .u8 0) from rfl]
  rw [fill_cons _ _ 1 _ _ 1 1 rfl rfl (by simp)]
  rw [show splice (Value.int .u8 1 :: List.replicate 31 (.int .u8 0)).toArray.toList 1 (Value.int .u8 0).cells.toList = .int .u8 1 :: .int .u8 0 :: List.replicate 30 (.int .u8 0) from rfl]
  rw [fill_cons _ _ 2 _ _ 2 1 rfl rfl (by simp)]
  rw [show splice (Value.int .u8 1 :: .int .u8 0 :: List.replicate 30 (.int .u8 0)).toArray.toList 2 (Value.int .u8 0).cells.toList = .int .u8 1 :: .int .u8 0 :: .int .u8 0 :: List.replicate 29 (.int .u8 0) from rfl]
  rw [fill_cons _ _ 3 _ _ 3 1 rfl rfl (by simp)]
  rfl
 generalize zeroKey = Z at hf hz
 simp only [Instr.build, Sem.run_bind, hz, Result.andThen_ok, run_underlying Tryz.underlying34, Value.cells, Tryz.sizeOf5]
 rw [hf]
 rfl
set_option maxHeartbeats 2000000 in
set_option maxRecDepth 100000 in
theorem key_any (n : Nat) (hn : n < 256) (w : World) : Calls Tryz.prog 18 #[.int .i64 n] w fun e w' => e = .returned (.agg (encK (keyN n)).toArray) ∧ Below w.heap.size w w' := by
 have h1 : (n : Int) / 65536 = 0 := by omega
 have h2 : (n : Int) / 256 = 0 := by omega
 have h3 : IntKind.u8.wrap (n : Int) = (n : Int) := by rw [IntKind.wrap_u8]; omega
 obtain ⟨Z, hZ⟩ : ∃ Z, Z = zeroKey := ⟨_, rfl⟩
 have hzv : ∀ w, (zeroValue 34).run Tryz.prog w = .ok (.agg zeroKey) w := Tryz.zeroValue34
 obtain ⟨W0, hW0⟩ : ∃ W0, W0 = w.alloc (.cells zeroKey 34) := ⟨_, rfl⟩
 have b1 := Aside0.mk (buildKey W0 n hn)
 have st := Aside0.mk (run_storeNew Tryz.prog w 34 32 size34' zeroKey (encK (keyN n)).toArray rfl (by simpa using encK_len (keyN n)) (by simpa using encK_one (keyN n)))
 have hq := Aside0.mk (heap_alloc_new w (.cells (encK (keyN n)).toArray 34))
 rw [← hW0] at st
 clear hZ hzv
 go_enter Tryz.func18, Tryz.ntmps18
 go_upto_region 1 with fail
 change Code.wp _ _ _ _ (w.alloc (.cells zeroKey 34))
 rw [← hW0]
 clear hW0
 go_wp2_with (first
  | ((with_reducible refine at_build 34 #[(0, .const (.int .u8 1)), (1, .tmp 5), (2, .tmp 8), (3, .tmp 10)] ?_); refine wpList_build4 rfl 34 (.const (.int .u8 1)) (.tmp 5) (.tmp 8) (.tmp 10) rfl _ _ _ _ rfl rfl rfl rfl _ _ b1.out ?_)
  | ((with_reducible refine at_store 34 (.tmp 2) (.tmp 11) ?_); refine wpList_storeK rfl 34 (.tmp 2) (.tmp 11) rfl rfl _ _ rfl rfl _ st.out ?_))
 try simp only [Exit.inBlock, Exit.then]
 refine bodyPost_ret (results_cell_row rfl _ _ w.heap.size 34 _ (0, 0) _ rfl hq.out Tryz.underlying34 rfl (by rw [size34']; simp [encK_len])) rfl ?_
 exact ⟨rfl, (Below.refl _ w).alloc (Nat.le_refl _) _⟩
end Go.Proofs.YthnpiimiimiijaaGreatDoor.Dir
/- The statements' ops, and what is asked for by numbers. -/
namespace Go.Proofs.YthnpiimiimiijaaGreatDoor.Dir
open Go Go.RowKit Go.Proofs Go.Proofs.YthnpiimiimiijaaGreatDoorW.PrintWords Go.Proofs.YthnpiimiimiijaaGreatDoorW.PrintLast Go.Proofs.YthnpiimiimiijaaGreatDoorW.PrintMore
set_option linter.unusedVariables false
set_option linter.unusedSimpArgs false
theorem size36 : (Tryz.prog.info? 36).map (·.size) = some 37 := by kernel_rfl
def regOp (node : Int) (k : Nat) (e : Int) : Op := ⟨1, node, keyN k, e, [], 0⟩
def rotOp (node : Int) (k : Nat) (e : Int) : Op := ⟨2, node, keyN k, e, [], 0⟩
def revOp (node : Int) : Op := ⟨3, node, key0, 0, [], 0⟩
def advOp (t : Int) : Op := ⟨5, 0, key0, 0, [], t⟩
set_option maxHeartbeats 1000000 in
set_option maxRecDepth 100000 in
theorem reg_law (node : Int) (k : Nat) (hk : k < 256) (e : Int) (w : World) : Calls Tryz.prog 38 #[.int .i64 node, .int .i64 k, .int .i64 e] w fun e' w' => e' = .returned (.agg (encO ⟨1, node, keyN k, e, [], 0⟩).toArray) ∧ Below w.heap.size w w' := by
 obtain ⟨W0, hW0⟩ : ∃ W0, W0 = w.alloc (.cells zeroOp 36) := ⟨_, rfl⟩
 have hb0 : Below w.heap.size w W0 := by rw [hW0]; exact (Below.refl _ w).alloc (Nat.le_refl _) _
 have hq0 : W0.heap[w.heap.size]? = some (.cells zeroOp 36 (0, 0)) := by rw [hW0]; exact heap_alloc_new w _
 have HK := Aside0.mk (key_any k hk W0)
 have HQ := Aside0.mk (And.intro hb0 hq0)
 clear hb0 hq0
 go_enter Tryz.func38, Tryz.ntmps38
 go_upto_region 1 with fail
 change Code.wp _ _ _ _ (w.alloc (.cells zeroOp 36))
 rw [← hW0]
 clear hW0
 go_wp2_with fail
 refine HK.out.mono ?_
 rintro e' w1 ⟨rfl, hb1⟩
 have hq1 := (hb1.block _ (Array.getElem?_eq_some_iff.1 HQ.out.2).1).trans HQ.out.2
 have b1 := Aside0.mk (buildO4 w1 1 node e (keyN k))
 have st := Aside0.mk (run_storeFull Tryz.prog w1 36 37 Tryz.sizeOf36 w.heap.size (encO ⟨1, node, keyN k, e, [], 0⟩) (encO_len _) (encO_one _) _ 36 hq1 rfl)
 have hq2 := Aside0.mk (setRow_heap w1 w.heap.size _ (encO ⟨1, node, keyN k, e, [], 0⟩).toArray 36 (0, 0) hq1)
 have HB := Aside0.mk hb1
 clear hb1 hq1
 go_wp2_with (first
  | ((with_reducible refine at_build 36 #[(0, .const (.int .i64 1)), (1, .tmp 7), (2, .tmp 9), (3, .tmp 10)] ?_); refine wpList_build4 rfl 36 (.const (.int .i64 1)) (.tmp 7) (.tmp 9) (.tmp 10) rfl _ _ _ _ rfl rfl rfl rfl _ _ b1.out ?_)
  | ((with_reducible refine at_store 36 (.tmp 6) (.tmp 11) ?_); refine wpList_storeK rfl 36 (.tmp 6) (.tmp 11) rfl rfl _ _ rfl rfl _ st.out ?_))
 try simp only [Exit.inBlock, Exit.then]
 refine bodyPost_ret (results_cell_row rfl _ _ w.heap.size 36 _ (0, 0) _ rfl hq2.out Tryz.underlying36 rfl (by rw [size36]; simp [encO_len])) rfl ?_
 exact ⟨rfl, below_setRow (below_step HQ.out.1 HB.out) (Nat.le_refl _) _⟩
set_option maxHeartbeats 1000000 in
set_option maxRecDepth 100000 in
theorem rot_law (node : Int) (k : Nat) (hk : k < 256) (e : Int) (w : World) : Calls Tryz.prog 39 #[.int .i64 node, .int .i64 k, .int .i64 e] w fun e' w' => e' = .returned (.agg (encO ⟨2, node, keyN k, e, [], 0⟩).toArray) ∧ Below w.heap.size w w' := by
 obtain ⟨W0, hW0⟩ : ∃ W0, W0 = w.alloc (.cells zeroOp 36) := ⟨_, rfl⟩
 have hb0 : Below w.heap.size w W0 := by rw [hW0]; exact (Below.refl _ w).alloc (Nat.le_refl _) _
 have hq0 : W0.heap[w.heap.size]? = some (.cells zeroOp 36 (0, 0)) := by rw [hW0]; exact heap_alloc_new w _
 have HK := Aside0.mk (key_any k hk W0)
 have HQ := Aside0.mk (And.intro hb0 hq0)
 clear hb0 hq0
 go_enter Tryz.func39, Tryz.ntmps39
 go_upto_region 1 with fail
 change Code.wp _ _ _ _ (w.alloc (.cells zeroOp 36))
 rw [← hW0]
 clear hW0
 go_wp2_with fail
 refine HK.out.mono ?_
 rintro e' w1 ⟨rfl, hb1⟩
 have hq1 := (hb1.block _ (Array.getElem?_eq_some_iff.1 HQ.out.2).1).trans HQ.out.2
 have b1 := Aside0.mk (buildO4 w1 2 node e (keyN k))
 have st := Aside0.mk (run_storeFull Tryz.prog w1 36 37 Tryz.sizeOf36 w.heap.size (encO ⟨2, node, keyN k, e, [], 0⟩) (encO_len _) (encO_one _) _ 36 hq1 rfl)
 have hq2 := Aside0.mk (setRow_heap w1 w.heap.size _ (encO ⟨2, node, keyN k, e, [], 0⟩).toArray 36 (0, 0) hq1)
 have HB := Aside0.mk hb1
 clear hb1 hq1
 go_wp2_with (first
  | ((with_reducible refine at_build 36 #[(0, .const (.int .i64 2)), (1, .tmp 7), (2, .tmp 9), (3, .tmp 10)] ?_); refine wpList_build4 rfl 36 (.const (.int .i64 2)) (.tmp 7) (.tmp 9) (.tmp 10) rfl _ _ _ _ rfl rfl rfl rfl _ _ b1.out ?_)
  | ((with_reducible refine at_store 36 (.tmp 6) (.tmp 11) ?_); refine wpList_storeK rfl 36 (.tmp 6) (.tmp 11) rfl rfl _ _ rfl rfl _ st.out ?_))
 try simp only [Exit.inBlock, Exit.then]
 refine bodyPost_ret (results_cell_row rfl _ _ w.heap.size 36 _ (0, 0) _ rfl hq2.out Tryz.underlying36 rfl (by rw [size36]; simp [encO_len])) rfl ?_
 exact ⟨rfl, below_setRow (below_step HQ.out.1 HB.out) (Nat.le_refl _) _⟩
set_option maxHeartbeats 1000000 in
set_option maxRecDepth 100000 in
theorem rev_law (x : Int) (w : World) : Calls Tryz.prog 40 #[.int .i64 x] w fun e' w' => e' = .returned (.agg (encO ⟨3, x, key0, 0, [], 0⟩).toArray) ∧ Below w.heap.size w w' := by
 obtain ⟨W0, hW0⟩ : ∃ W0, W0 = w.alloc (.cells zeroOp 36) := ⟨_, rfl⟩
 have hq0 : W0.heap[w.heap.size]? = some (.cells zeroOp 36 (0, 0)) := by rw [hW0]; exact heap_alloc_new w _
 have HB := Aside0.mk (show Below w.heap.size w W0 by rw [hW0]; exact (Below.refl _ w).alloc (Nat.le_refl _) _)
 have b1 := Aside0.mk (buildO3 W0 3 x)
 have st := Aside0.mk (run_storeFull Tryz.prog W0 36 37 Tryz.sizeOf36 w.heap.size (encO ⟨3, x, key0, 0, [], 0⟩) (encO_len _) (encO_one _) _ 36 hq0 rfl)
 have hq2 := Aside0.mk (setRow_heap W0 w.heap.size _ (encO ⟨3, x, key0, 0, [], 0⟩).toArray 36 (0, 0) hq0)
 clear hq0
 go_enter Tryz.func40, Tryz.ntmps40
 go_upto_region 1 with fail
 change Code.wp _ _ _ _ (w.alloc (.cells zeroOp 36))
 rw [← hW0]
 clear hW0
 go_wp2_with (first
  | ((with_reducible refine at_build 36 #[(0, .const (.int .i64 3)), (1, .tmp 3)] ?_); refine wpList_build2 rfl 36 0 1 (.const (.int .i64 3)) (.tmp 3) rfl _ _ rfl rfl _ _ b1.out ?_)
  | ((with_reducible refine at_store 36 (.tmp 2) (.tmp 4) ?_); refine wpList_storeK rfl 36 (.tmp 2) (.tmp 4) rfl rfl _ _ rfl rfl _ st.out ?_))
 try simp only [Exit.inBlock, Exit.then]
 refine bodyPost_ret (results_cell_row rfl _ _ w.heap.size 36 _ (0, 0) _ rfl hq2.out Tryz.underlying36 rfl (by rw [size36]; simp [encO_len])) rfl ?_
 exact ⟨rfl, below_setRow HB.out (Nat.le_refl _) _⟩
set_option maxHeartbeats 1000000 in
set_option maxRecDepth 100000 in
theorem adv_law (x : Int) (w : World) : Calls Tryz.prog 41 #[.int .i64 x] w fun e' w' => e' = .returned (.agg (encO ⟨5, 0, key0, 0, [], x⟩).toArray) ∧ Below w.heap.size w w' := by
 obtain ⟨W0, hW0⟩ : ∃ W0, W0 = w.alloc (.cells zeroOp 36) := ⟨_, rfl⟩
 have hq0 : W0.heap[w.heap.size]? = some (.cells zeroOp 36 (0, 0)) := by rw [hW0]; exact heap_alloc_new w _
 have HB := Aside0.mk (show Below w.heap.size w W0 by rw [hW0]; exact (Below.refl _ w).alloc (Nat.le_refl _) _)
 have b1 := Aside0.mk (buildO5 W0 5 x)
 have st := Aside0.mk (run_storeFull Tryz.prog W0 36 37 Tryz.sizeOf36 w.heap.size (encO ⟨5, 0, key0, 0, [], x⟩) (encO_len _) (encO_one _) _ 36 hq0 rfl)
 have hq2 := Aside0.mk (setRow_heap W0 w.heap.size _ (encO ⟨5, 0, key0, 0, [], x⟩).toArray 36 (0, 0) hq0)
 clear hq0
 go_enter Tryz.func41, Tryz.ntmps41
 go_upto_region 1 with fail
 change Code.wp _ _ _ _ (w.alloc (.cells zeroOp 36))
 rw [← hW0]
 clear hW0
 go_wp2_with (first
  | ((with_reducible refine at_build 36 #[(0, .const (.int .i64 5)), (5, .tmp 3)] ?_); refine wpList_build2 rfl 36 0 5 (.const (.int .i64 5)) (.tmp 3) rfl _ _ rfl rfl _ _ b1.out ?_)
  | ((with_reducible refine at_store 36 (.tmp 2) (.tmp 4) ?_); refine wpList_storeK rfl 36 (.tmp 2) (.tmp 4) rfl rfl _ _ rfl rfl _ st.out ?_))
 try simp only [Exit.inBlock, Exit.then]
 refine bodyPost_ret (results_cell_row rfl _ _ w.heap.size 36 _ (0, 0) _ rfl hq2.out Tryz.underlying36 rfl (by rw [size36]; simp [encO_len])) rfl ?_
 exact ⟨rfl, below_setRow HB.out (Nat.le_refl _) _⟩
/-- What is asked for by four numbers. -/
structure AskV where
 kind : Int
 node : Int
 key : Int
 at_ : Int
 deriving Inhabited
structure AskAt (W : World) (b : Nat) (x0 x1 x2 x3 : Int) : Prop where
 bx : W.heap[b]? = some (.cells #[.int .i64 x0, .int .i64 x1, .int .i64 x2, .int .i64 x3] 38 (0, 0))
theorem AskAt.drew {W : World} {b : Nat} {x0 x1 x2 x3 : Int} (h : AskAt W b x0 x1 x2 x3) : AskAt W.drew b x0 x1 x2 x3 := ⟨h.bx⟩
theorem AskAt.cells {W : World} {b : Nat} {x0 x1 x2 x3 : Int} (h : AskAt W b x0 x1 x2 x3) : W.cell? ⟨b, 0, none⟩ = some (.int .i64 x0) ∧ W.cell? ⟨b, 1, none⟩ = some (.int .i64 x1) ∧ W.cell? ⟨b, 2, none⟩ = some (.int .i64 x2) ∧ W.cell? ⟨b, 3, none⟩ = some (.int .i64 x3) := by
 have hk := h.bx
 simp [World.cell?, hk]
end Go.Proofs.YthnpiimiimiijaaGreatDoor.Dir
/- The statements' own helpers: does, counts. -/
namespace Go.Proofs.YthnpiimiimiijaaGreatDoor.Dir
open Go Go.RowKit Go.Proofs Go.Proofs.YthnpiimiimiijaaGreatDoorW.PrintWords Go.Proofs.YthnpiimiimiijaaGreatDoorW.PrintLast Go.Proofs.YthnpiimiimiijaaGreatDoorW.PrintMore
set_option linter.unusedVariables false
set_option linter.unusedSimpArgs false
/-- A directory that was made since w. -/
structure DirSt (w W : World) (p : Nat) (B : Book) : Prop where
 at_ : DirAt W p B
 fr : Below w.heap.size w W
 new : w.heap.size ≤ p
 wf : WF B
 laid : PA.LaidW w
theorem DirSt.later {w W W' : World} {p : Nat} {B : Book} (h : DirSt w W p B) (hb : Below W.heap.size W W') : DirSt w W' p B :=
 ⟨h.at_.below hb, below_step h.fr hb, h.new, h.wf, h.laid⟩
theorem DirSt.laidW {w W : World} {p : Nat} {B : Book} (h : DirSt w W p B) : PA.LaidW W := h.laid.below h.fr
theorem DirSt.applied {w W W' : World} {p : Nat} {B : Book} (h : DirSt w W p B) (o : Op) (ha : DirAt W' p (applyOf rulesOf B o)) (hg : W.grownBy W' (some p)) : DirSt w W' p (applyOf rulesOf B o) :=
 ⟨ha, h.fr.grown hg h.fr.size (fun k hk => by have : p = k := Option.some.inj hk; have := h.new; omega), h.new, apply_wf rulesOf h.wf o, h.laid⟩
def OpIn (o : Op) : Prop := -9223372036854775808 ≤ o.node ∧ o.node ≤ 9223372036854775807
theorem apply_st (w W : World) (p : Nat) (B : Book) (o : Op) (h : DirSt w W p B) (ho : OpIn o) :
  Calls Tryz.prog 15 #[.pointer (some ⟨p, 0, none⟩), .agg (encO o).toArray] W fun e W' => e = .returned (.tuple #[.agg #[.int .i64 (errOf rulesOf B o), .int .i64 (applyOf rulesOf B o).ver], .int .i64 0]) ∧ DirSt w W' p (applyOf rulesOf B o) ∧ W.grownBy W' (some p) := by
 refine (apply_any W p B o h.at_ h.wf h.laidW ho.1 ho.2).mono ?_
 rintro e W' ⟨he, ha, hg⟩
 exact ⟨he, h.applied o ha hg, hg⟩
theorem book_st (w W : World) (p : Nat) (B : Book) (h : DirSt w W p B) :
  Calls Tryz.prog 17 #[.pointer (some ⟨p, 0, none⟩)] W fun e W' => (∃ A1 c1 A2 c2, e = .returned (.agg (bookCells B A1 c1 A2 c2).toArray) ∧ Lists W' W.heap.size B A1 c1 A2 c2) ∧ DirSt w W' p B ∧ Below W.heap.size W W' := by
 refine (book_any p B W h.at_ h.wf.few).mono ?_
 rintro e W' ⟨⟨v, rfl, A1, c1, A2, c2, rfl, hL⟩, hb⟩
 exact ⟨⟨A1, c1, A2, c2, rfl, hL⟩, h.later hb, hb⟩
theorem eqlR (e v : Int) (w : World) : (binOp .eql 30 (.agg #[.int .i64 e, .int .i64 v]) (.agg #[.int .i64 e, .int .i64 v])).run Tryz.prog w = .ok (.bool true) w := by
 have u3 := Tryz.underlying3
 have u28 := Tryz.underlying28
 have a3 := Tryz.isAgg3
 have a28 := Tryz.isAgg28
 have z3 := Tryz.sizeOf3
 have z28 := Tryz.sizeOf28
 have hS : Tryz.prog.underlying 30 = some (.struct (Tryz.prog.fieldsOf 30)) := by kernel_rfl
 have hp : Tryz.prog.stoodInHeld 30 = false := by kernel_rfl
 rw [run_eql_struct, show (10000 : Nat) = 9999 + 1 from rfl, run_equalIn_agg w 9999 30 _ _ hS hp]
 simp only [Program.fieldsOf, Tryz.underlying30]
 go_simp
theorem guardR (op : BinOp) (a b : Operand) (e v e2 v2 : Int) (w : World) : (eqGuard op 30 a b (.agg #[.int .i64 e, .int .i64 v]) (.agg #[.int .i64 e2, .int .i64 v2])).run Tryz.prog w = .ok () w := run_eqGuard_agg w op 30 a b _ _ (by kernel_rfl)
set_option maxHeartbeats 4000000 in
set_option maxRecDepth 100000 in
theorem does_st (w W : World) (p : Nat) (B : Book) (o : Op) (err ver : Int) (h : DirSt w W p B) (ho : OpIn o) (he : errOf rulesOf B o = err) (hv : (applyOf rulesOf B o).ver = ver) :
  Calls Tryz.prog 37 #[.pointer (some ⟨p, 0, none⟩), .agg (encO o).toArray, .int .i64 err, .int .i64 ver] W fun e W' => e = .returned (.bool true) ∧ DirSt w W' p (applyOf rulesOf B o) := by
 obtain ⟨W0, hW0⟩ : ∃ W0, W0 = W.alloc (.cells (encO o).toArray 36) := ⟨_, rfl⟩
 have hb0 : Below W.heap.size W W0 := by rw [hW0]; exact (Below.refl _ W).alloc (Nat.le_refl _) _
 have hbx : W0.heap[W.heap.size]? = some (.cells (encO o).toArray 36 (0, 0)) := by rw [hW0]; exact heap_alloc_new W _
 have HA := Aside0.mk (apply_st w W0 p B o (h.later hb0) ho)
 rw [he, hv] at HA
 have lo := Aside0.mk (run_loadAtK Tryz.prog W0 36 37 Tryz.isAgg36 Tryz.sizeOf36 W.heap.size 0 (encO o) (encO_len o) (cells_of_heap hbx))
 have heq := eqlR err ver
 have hgd := fun op a b w => guardR op a b err ver err ver w
 clear h ho he hv hb0 hbx
 go_enter Tryz.func37, Tryz.ntmps37
 go_upto_region 1 with fail
 rw [← hW0]
 clear hW0
 go_wp2_with ((with_reducible refine at_load 36 (.tmp 5) ?_); refine wpList_loadK rfl 36 (.tmp 5) rfl _ rfl _ lo.out ?_)
 refine HA.out.mono ?_
 rintro e w1 ⟨rfl, hs, -⟩
 have HS := Aside0.mk hs
 clear hs
 go_wp2_with fail
 go_ret
 refine ⟨rfl, ?_⟩
 exact HS.out.later ((Below.refl _ w1).alloc (Nat.le_refl _) _)
set_option maxHeartbeats 4000000 in
set_option maxRecDepth 100000 in
theorem counts_st (w W : World) (p : Nat) (B : Book) (k : Nat) (hk : k < 256) (now node : Int) (h : DirSt w W p B) (r : Bool) (hr : decide (validOf B (keyN k) now = some node) = r) :
  Calls Tryz.prog 42 #[.pointer (some ⟨p, 0, none⟩), .int .i64 k, .int .i64 now, .int .i64 node] W fun e W' => e = .returned (.bool r) ∧ DirSt w W' p B := by
 have HB := Aside0.mk (book_st w W p B h)
 have HR := Aside0.mk hr
 have HH := Aside0.mk h
 clear h hr
 go_enter Tryz.func42, Tryz.ntmps42
 go_wp2_with fail
 refine HB.out.mono ?_
 rintro e w1 ⟨⟨A1, c1, A2, c2, rfl, hL⟩, hs, hb⟩
 have HS := Aside0.mk (And.intro hL hs)
 have HK := Aside0.mk (key_any k hk w1)
 clear hL hs hb
 go_wp2_with fail
 refine HK.out.mono ?_
 rintro e w2 ⟨rfl, hb2⟩
 have HS2 := Aside0.mk (HS.out.2.later hb2)
 have HV := Aside0.mk (valid_any B (keyN k) now _ W.heap.size w2 ⟨A1, c1, A2, c2, rfl, HS.out.1.below hb2⟩ HH.out.wf.few)
 clear hb2
 cases hv : validOf B (keyN k) now with
 | none =>
  have hf : r = false := by rw [← HR.out, hv]; rfl
  rw [hv] at HV
  subst hf
  clear hv
  go_wp2_with fail
  refine HV.out.mono ?_
  rintro e w3 ⟨rfl, hb3⟩
  have HS3 := Aside0.mk (HS2.out.later hb3)
  clear hb3
  unfold validRes
  go_wp2_with fail
  go_ret
  exact ⟨rfl, HS3.out⟩
 | some m =>
  have hf : r = decide (m = node) := by rw [← HR.out, hv]; simp
  rw [hv] at HV
  clear hv
  have HF := Aside0.mk hf
  clear hf
  go_wp2_with fail
  refine HV.out.mono ?_
  rintro e w3 ⟨rfl, hb3⟩
  have HS3 := Aside0.mk (HS2.out.later hb3)
  clear hb3
  unfold validRes
  go_wp2_with fail
  go_ret
  refine ⟨?_, HS3.out⟩
  rw [HF.out]
  first | rfl | (simp [beq_iff_eq]; done)
end Go.Proofs.YthnpiimiimiijaaGreatDoor.Dir
