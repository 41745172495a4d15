/- The statements' keys and ops. -/
import Derived.Test.YthnpiimiimiijaaGreatDoorDirApply
namespace Go.Proofs.YthnpiimiimiijaaGreatDoor.Dir
open Go Go.RowKit Go.Proofs Go.Proofs.YthnpiimiimiijaaGreatDoorW.PrintWords Go.Proofs.YthnpiimiimiijaaGreatDoorW.PrintLast Go.Proofs.YthnpiimiimiijaaGreatDoorW.PrintMore
set_option linter.unusedVariables false
set_option linter.unusedSimpArgs false
def keyN (n : Nat) : Key := ⟨1 :: 0 :: 0 :: n.toUInt8 :: List.replicate 28 0, by simp⟩
theorem keyN_inj {i j : Nat} (hi : i < 256) (hj : j < 256) (h : keyN i = keyN j) : i = j := by
  have h1 := congrArg (fun k : Key => k.1[3]?) h
  have h2 : some i.toUInt8 = some j.toUInt8 := h1
  have h3 := congrArg (fun o : Option UInt8 => o.map UInt8.toNat) h2
  simp at h3
  omega
theorem size34' : (Tryz.prog.info? 34).map (·.size) = some 32 := by kernel_rfl
/-! ### builds -/
section
variable {P : Program} {w : World} {ops : Array Oper} {rest : List Oper} {o : Oper} {a : Act} {Q : Exit → Act → World → Prop}
theorem wpList_build2 (hgd : o.guard = none) (t : TypeId) (i0 i1 : Nat) (x0 x1 : Operand) (ho : o.op = .build t #[(i0, x0), (i1, x1)]) (v0 v1 : Value) (h0 : a.eval x0 = v0) (h1 : a.eval x1 = v1) (r : Value) (w' : World)
    (hr : (Instr.build t #[(i0, v0), (i1, v1)]).run P w = .ok r w') (h : wpList P ops Q rest (a.put o.dst r) w') : wpList P ops Q (o :: rest) a w :=
  wpList_plain hgd fun K hK => by
    unfold Oper.wp execOp
    simp only [ho, Sem.run_bind]
    simp [h0, h1, hr]
    exact hK _ _ h
theorem wpList_build4 (hgd : o.guard = none) (t : TypeId) (x0 x1 x2 x3 : Operand) (ho : o.op = .build t #[(0, x0), (1, x1), (2, x2), (3, x3)]) (v0 v1 v2 v3 : Value) (h0 : a.eval x0 = v0) (h1 : a.eval x1 = v1) (h2 : a.eval x2 = v2) (h3 : a.eval x3 = v3) (r : Value) (w' : World)
    (hr : (Instr.build t #[(0, v0), (1, v1), (2, v2), (3, v3)]).run P w = .ok r w') (h : wpList P ops Q rest (a.put o.dst r) w') : wpList P ops Q (o :: rest) a w :=
  wpList_plain hgd fun K hK => by
    unfold Oper.wp execOp
    simp only [ho, Sem.run_bind]
    simp [h0, h1, h2, h3, hr]
    exact hK _ _ h
end
def opZ : Op := ⟨0, 0, key0, 0, [], 0⟩
def zeroOp : Array Value := #[.int .i64 0, .int .i64 0, .int .u8 0, .int .u8 0, .int .u8 0, .int .u8 0, .int .u8 0, .int .u8 0, .int .u8 0, .int .u8 0, .int .u8 0, .int .u8 0, .int .u8 0, .int .u8 0, .int .u8 0, .int .u8 0, .int .u8 0, .int .u8 0, .int .u8 0, .int .u8 0, .int .u8 0, .int .u8 0, .int .u8 0, .int .u8 0, .int .u8 0, .int .u8 0, .int .u8 0, .int .u8 0, .int .u8 0, .int .u8 0, .int .u8 0, .int .u8 0, .int .u8 0, .int .u8 0, .int .i64 0, .string ⟨#[]⟩, .int .i64 0]
theorem zeroOp_list : zeroOp.toList = encO opZ := rfl
theorem spO0 (o : Op) (k : Int) : splice (encO o) 0 [.int .i64 k] = encO { o with kind := k } := rfl
theorem spO1 (o : Op) (k : Int) : splice (encO o) 1 [.int .i64 k] = encO { o with node := k } := rfl
theorem spO2 (o : Op) (k : Key) : splice (encO o) 2 (encK k) = encO { o with key := k } := by
  unfold splice encO
  rw [encK_len]
  simp only [List.take_succ_cons, List.take_zero, Nat.reduceAdd, List.drop_succ_cons]
  rw [List.drop_append, List.drop_eq_nil_of_le (by rw [encK_len]; omega), encK_len]
  rfl
theorem spO34 (o : Op) (e : Int) : splice (encO o) 34 [.int .i64 e] = encO { o with exp := e } := by
  unfold splice encO
  simp only [List.take_succ_cons, List.length_cons, List.length_nil, Nat.reduceAdd, List.drop_succ_cons]
  rw [List.take_append_of_le_length (by rw [encK_len]; omega), List.take_of_length_le (by rw [encK_len]; omega), List.drop_append, List.drop_eq_nil_of_le (by rw [encK_len]; omega), encK_len]
  rfl
theorem spO36 (o : Op) (e : Int) : splice (encO o) 36 [.int .i64 e] = encO { o with at_ := e } := by
  unfold splice encO
  simp only [List.take_succ_cons, List.length_cons, List.length_nil, Nat.reduceAdd, List.drop_succ_cons]
  rw [List.take_append, List.take_of_length_le (by rw [encK_len]; omega), encK_len, List.drop_append, List.drop_eq_nil_of_le (by rw [encK_len]; omega), encK_len]
  simp
def placesO : Array (Nat × Nat) := #[(0, 1), (1, 1), (2, 32), (34, 1), (35, 1), (36, 1)]
theorem fillO (o : Op) (i off size : Nat) (v : Value) (cs : List Value) (o' : Op) (rest : List (Nat × Value)) (hp : placesO[i]? = some (off, size)) (hv : v.cells.toList = cs) (hl : cs.length = size) (hs : splice (encO o) off cs = encO o') (hf : off + size ≤ 37) :
    Instr.fill (placesO[·]?) (encO o).toArray ((i, v) :: rest) = Instr.fill (placesO[·]?) (encO o').toArray rest := by
  rw [fill_cons (placesO[·]?) _ i v rest off size hp (by rw [← Array.length_toList, hv, hl]) (by simp only [List.size_toArray, encO_len]; omega), hv]
  rw [show (encO o).toArray.toList = encO o from rfl, hs]
set_option maxRecDepth 100000 in
theorem run_buildO (w : World) (parts : Array (Nat × Value)) (o' : Op) (hf : Instr.fill (placesO[·]?) (encO opZ).toArray parts.toList = some (encO o').toArray) : (Instr.build 36 parts).run Tryz.prog w = .ok (.agg (encO o').toArray) w := by
  have hz : (zeroValue 36).run Tryz.prog w = .ok (.agg zeroOp) w := Tryz.zeroValue36 w
  rw [← zeroOp_list, Array.toArray_toList] at hf
  unfold placesO at hf
  generalize zeroOp = Z at hf hz
  simp only [Instr.build, Sem.run_bind, hz, Result.andThen_ok, run_underlying Tryz.underlying36, Value.cells]
  simp only [List.mapM_toArray, List.mapM_cons, List.mapM_nil, Sem.run_bind, Sem.run_map, Sem.run_pure, Result.andThen_ok, Functor.map]
  have hb : ∀ {α β : Type} (x : Sem α) (f : α → Sem β), Sem.bind x f = x >>= f := fun _ _ => rfl
  simp only [hb, Sem.run_bind, Sem.run_pure, Result.andThen_ok, Tryz.sizeOf3, Tryz.sizeOf34, Tryz.sizeOf9, Function.comp]
  change ((Result.ok (#[(0, 1), (1, 1), (2, 32), (34, 1), (35, 1), (36, 1)] : Array (Nat × Nat)) w).andThen fun a w' => _) = _
  simp only [Result.andThen_ok]
  rw [hf]
  rfl
theorem buildO4 (w : World) (kind node e : Int) (k : Key) : (Instr.build 36 #[(0, .int .i64 kind), (1, .int .i64 node), (2, .agg (encK k).toArray), (3, .int .i64 e)]).run Tryz.prog w = .ok (.agg (encO ⟨kind, node, k, e, [], 0⟩).toArray) w := by
  refine run_buildO w _ _ ?_
  show Instr.fill (placesO[·]?) (encO opZ).toArray [(0, .int .i64 kind), (1, .int .i64 node), (2, .agg (encK k).toArray), (3, .int .i64 e)] = _
  rw [fillO opZ 0 0 1 _ [.int .i64 kind] _ _ rfl rfl rfl (spO0 _ _) (by omega), fillO _ 1 1 1 _ [.int .i64 node] _ _ rfl rfl rfl (spO1 _ _) (by omega),
    fillO _ 2 2 32 _ (encK k) _ _ rfl (by simp [Value.cells]) (encK_len k) (spO2 _ _) (by omega), fillO _ 3 34 1 _ [.int .i64 e] _ _ rfl rfl rfl (spO34 _ _) (by omega)]
  rfl
theorem buildO3 (w : World) (kind node : Int) : (Instr.build 36 #[(0, .int .i64 kind), (1, .int .i64 node)]).run Tryz.prog w = .ok (.agg (encO ⟨kind, node, key0, 0, [], 0⟩).toArray) w := by
  refine run_buildO w _ _ ?_
  show Instr.fill (placesO[·]?) (encO opZ).toArray [(0, .int .i64 kind), (1, .int .i64 node)] = _
  rw [fillO opZ 0 0 1 _ [.int .i64 kind] _ _ rfl rfl rfl (spO0 _ _) (by omega), fillO _ 1 1 1 _ [.int .i64 node] _ _ rfl rfl rfl (spO1 _ _) (by omega)]
  rfl
theorem buildO5 (w : World) (kind at_ : Int) : (Instr.build 36 #[(0, .int .i64 kind), (5, .int .i64 at_)]).run Tryz.prog w = .ok (.agg (encO ⟨kind, 0, key0, 0, [], at_⟩).toArray) w := by
  refine run_buildO w _ _ ?_
  show Instr.fill (placesO[·]?) (encO opZ).toArray [(0, .int .i64 kind), (5, .int .i64 at_)] = _
  rw [fillO opZ 0 0 1 _ [.int .i64 kind] _ _ rfl rfl rfl (spO0 _ _) (by omega), fillO _ 5 36 1 _ [.int .i64 at_] _ _ rfl rfl rfl (spO36 _ _) (by omega)]
  rfl
theorem encKN (n : Nat) (hn : n < 256) : encK (keyN n) = .int .u8 1 :: .int .u8 0 :: .int .u8 0 :: .int .u8 n :: List.replicate 28 (.int .u8 0) := by
  have : byteV n.toUInt8 = .int .u8 (n : Int) := by
    unfold byteV
    have h : n.toUInt8.toNat = n := by simp; omega
    rw [h]
  show byteV 1 :: byteV 0 :: byteV 0 :: byteV n.toUInt8 :: _ = _
  rw [this]
  rfl
set_option maxRecDepth 100000 in
theorem buildKey (w : World) (n : Nat) (hn : n < 256) : (Instr.build 34 #[(0, .int .u8 1), (1, .int .u8 0), (2, .int .u8 0), (3, .int .u8 n)]).run Tryz.prog w = .ok (.agg (encK (keyN n)).toArray) w := by
  have hz : (zeroValue 34).run Tryz.prog w = .ok (.agg zeroKey) w := Tryz.zeroValue34 w
  have hf : Instr.fill (fun i => some (i * 1, 1)) zeroKey [(0, .int .u8 1), (1, .int .u8 0), (2, .int .u8 0), (3, .int .u8 n)] = some (encK (keyN n)).toArray := by
    rw [encKN n hn]
    rw [fill_cons _ _ 0 _ _ 0 1 rfl rfl (by decide)]
    rw [show splice zeroKey.toList 0 (Value.int .u8 1).cells.toList = .int .u8 1 :: List.replicate 31 (.int .u8 0) from rfl]
    rw [fill_cons _ _ 1 _ _ 1 1 rfl rfl (by simp)]
    rw [show splice (Value.int .u8 1 :: List.replicate 31 (.int .u8 0)).toArray.toList 1 (Value.int .u8 0).cells.toList = .int .u8 1 :: .int .u8 0 :: List.replicate 30 (.int .u8 0) from rfl]
    rw [fill_cons _ _ 2 _ _ 2 1 rfl rfl (by simp)]
    rw [show splice (Value.int .u8 1 :: .int .u8 0 :: List.replicate 30 (.int .u8 0)).toArray.toList 2 (Value.int .u8 0).cells.toList = .int .u8 1 :: .int .u8 0 :: .int .u8 0 :: List.replicate 29 (.int .u8 0) from rfl]
    rw [fill_cons _ _ 3 _ _ 3 1 rfl rfl (by simp)]
    rfl
  generalize zeroKey = Z at hf hz
  simp only [Instr.build, Sem.run_bind, hz, Result.andThen_ok, run_underlying Tryz.underlying34, Value.cells, Tryz.sizeOf5]
  rw [hf]
  rfl
set_option maxHeartbeats 2000000 in
set_option maxRecDepth 100000 in
theorem key_any (n : Nat) (hn : n < 256) (w : World) : Calls Tryz.prog 18 #[.int .i64 n] w fun e w' => e = .returned (.agg (encK (keyN n)).toArray) ∧ Below w.heap.size w w' := by
  have h1 : (n : Int) / 65536 = 0 := by omega
  have h2 : (n : Int) / 256 = 0 := by omega
  have h3 : IntKind.u8.wrap (n : Int) = (n : Int) := by rw [IntKind.wrap_u8]; omega
  obtain ⟨Z, hZ⟩ : ∃ Z, Z = zeroKey := ⟨_, rfl⟩
  have hzv : ∀ w, (zeroValue 34).run Tryz.prog w = .ok (.agg zeroKey) w := Tryz.zeroValue34
  obtain ⟨W0, hW0⟩ : ∃ W0, W0 = w.alloc (.cells zeroKey 34) := ⟨_, rfl⟩
  have b1 := Aside0.mk (buildKey W0 n hn)
  have st := Aside0.mk (run_storeNew Tryz.prog w 34 32 size34' zeroKey (encK (keyN n)).toArray rfl (by simpa using encK_len (keyN n)) (by simpa using encK_one (keyN n)))
  have hq := Aside0.mk (heap_alloc_new w (.cells (encK (keyN n)).toArray 34))
  rw [← hW0] at st
  clear hZ hzv
  go_enter Tryz.func18, Tryz.ntmps18
  go_upto_region 1 with fail
  change Code.wp _ _ _ _ (w.alloc (.cells zeroKey 34))
  rw [← hW0]
  clear hW0
  go_wp2_with (first
    | ((with_reducible refine at_build 34 #[(0, .const (.int .u8 1)), (1, .tmp 5), (2, .tmp 8), (3, .tmp 10)] ?_); refine wpList_build4 rfl 34 (.const (.int .u8 1)) (.tmp 5) (.tmp 8) (.tmp 10) rfl _ _ _ _ rfl rfl rfl rfl _ _ b1.out ?_)
    | ((with_reducible refine at_store 34 (.tmp 2) (.tmp 11) ?_); refine wpList_storeK rfl 34 (.tmp 2) (.tmp 11) rfl rfl _ _ rfl rfl _ st.out ?_))
  try simp only [Exit.inBlock, Exit.then]
  refine bodyPost_ret (results_cell_row rfl _ _ w.heap.size 34 _ (0, 0) _ rfl hq.out Tryz.underlying34 rfl (by rw [size34']; simp [encK_len])) rfl ?_
  exact ⟨rfl, (Below.refl _ w).alloc (Nat.le_refl _) _⟩
end Go.Proofs.YthnpiimiimiijaaGreatDoor.Dir
