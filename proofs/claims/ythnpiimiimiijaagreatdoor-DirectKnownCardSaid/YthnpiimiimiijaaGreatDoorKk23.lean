/- Known: plain facts, small calls. Known: what the books become. A region that draws its order and makes memory: what holds of each value, in every order. Known: rows, books and devices built from parts; the sixteen books. Known: the region that builds the sixteen books. -/
import Derived.Test.YthnpiimiimiijaaGreatDoorKk22
import Derived.Great.BuildSlice
section
namespace Go.Proofs.YthnpiimiimiijaaGreatDoor.Dir
open Go Go.RowKit Go.Proofs Go.Proofs.YthnpiimiimiijaaGreatDoorW.PrintWords Go.Proofs.YthnpiimiimiijaaGreatDoorW.PrintLast Go.Proofs.YthnpiimiimiijaaGreatDoorW.PrintMore
set_option linter.unusedVariables false
set_option linter.unusedSimpArgs false
section
variable {P : Program}
theorem wpList_valueW {ops : Array Oper} {rest : List Oper} {o : Oper} {a : Act} {w : World} {Q : Exit → Act → World → Prop} (hw : Region.wanted o (yielded ops a.tmps) = true) (v : Value) (w' : World)
  (hr : (execOp a.eval o).run P w = .ok (.value v) w') (h : wpList P ops Q rest (a.put o.dst v) w') : wpList P ops Q (o :: rest) a w :=
 wpList_step fun K hK => by rw [if_pos hw]; unfold Oper.wp; rw [hr]; exact hK _ _ h
theorem exec_build {w w' : World} (t : TypeId) (fs : Array (Nat × Operand)) (o : Oper) (ho : o.op = .build t fs) (a : Act) (vs : Array (Nat × Value)) (he : (fs.map fun (i, x) => (i, a.eval x)) = vs) (r : Value)
  (hr : (Instr.build t vs).run P w = .ok r w') : (execOp a.eval o).run P w = .ok (.value r) w' := by
 subst he
 unfold execOp
 simp only [ho, Sem.run_bind]
 rw [hr]
 rfl
theorem exec_make {w w' : World} (t : TypeId) (x y : Operand) (o : Oper) (ho : o.op = .makeSlice t x y) (a : Act) (u v : Value) (hx : a.eval x = u) (hy : a.eval y = v) (r : Value)
  (hr : (Instr.makeSlice t u v).run P w = .ok r w') : (execOp a.eval o).run P w = .ok (.value r) w' := by
 subst hx hy
 unfold execOp
 simp only [ho, Sem.run_bind]
 rw [hr]
 rfl
end
theorem spO35 (o : Op) (t : List UInt8) : splice (encO o) 35 [.string (str t)] = encO { o with text := t } := by
 unfold splice encO
 simp only [List.take_succ_cons, List.length_cons, List.length_nil, Nat.reduceAdd, List.drop_succ_cons]
 rw [List.take_append, List.take_of_length_le (by rw [encK_len]; omega), encK_len, List.drop_append, List.drop_eq_nil_of_le (by rw [encK_len]; omega), encK_len]
 simp [str]
theorem buildOz (w : World) : (Instr.build 36 #[]).run Tryz.prog w = .ok (.agg (encO ⟨0, 0, key0, 0, [], 0⟩).toArray) w := run_buildO w _ _ rfl
theorem buildOk (w : World) (k : Int) : (Instr.build 36 #[(0, .int .i64 k)]).run Tryz.prog w = .ok (.agg (encO ⟨k, 0, key0, 0, [], 0⟩).toArray) w := by
 refine run_buildO w _ _ ?_
 show Instr.fill (placesO[·]?) (encO opZ).toArray [(0, .int .i64 k)] = _
 rw [fillO opZ 0 0 1 _ [.int .i64 k] _ _ rfl rfl rfl (spO0 _ _) (by omega)]
 rfl
theorem buildOe (w : World) (kind node e : Int) : (Instr.build 36 #[(0, .int .i64 kind), (1, .int .i64 node), (3, .int .i64 e)]).run Tryz.prog w = .ok (.agg (encO ⟨kind, node, key0, e, [], 0⟩).toArray) w := by
 refine run_buildO w _ _ ?_
 show Instr.fill (placesO[·]?) (encO opZ).toArray [(0, .int .i64 kind), (1, .int .i64 node), (3, .int .i64 e)] = _
 rw [fillO opZ 0 0 1 _ [.int .i64 kind] _ _ rfl rfl rfl (spO0 _ _) (by omega), fillO _ 1 1 1 _ [.int .i64 node] _ _ rfl rfl rfl (spO1 _ _) (by omega), fillO _ 3 34 1 _ [.int .i64 e] _ _ rfl rfl rfl (spO34 _ _) (by omega)]
 rfl
theorem buildOt (w : World) (kind : Int) (t : List UInt8) : (Instr.build 36 #[(0, .int .i64 kind), (4, .string (str t))]).run Tryz.prog w = .ok (.agg (encO ⟨kind, 0, key0, 0, t, 0⟩).toArray) w := by
 refine run_buildO w _ _ ?_
 show Instr.fill (placesO[·]?) (encO opZ).toArray [(0, .int .i64 kind), (4, .string (str t))] = _
 rw [fillO opZ 0 0 1 _ [.int .i64 kind] _ _ rfl rfl rfl (spO0 _ _) (by omega), fillO _ 4 35 1 _ [.string (str t)] _ _ rfl rfl rfl (spO35 _ _) (by omega)]
 rfl
theorem info5w : (Tryz.prog.info? 5).map (fun i => (i.zero, i.size, i.bytes)) = some (some (.int .u8 0), 1, 1) := by kernel_rfl
theorem made_bytes (W : World) (n : Nat) (hn : n ≤ 100000) : ∃ W', (Instr.makeSlice 67 (.int .i64 n) (.int .i64 n)).run Tryz.prog W = .ok (.slice (some ⟨W.heap.size, 0, none⟩) n n) W' ∧ OwnB W' W.heap.size (some ⟨W.heap.size, 0, none⟩) n (List.replicate n 0) ∧ Below W.heap.size W W' := by
 have hi := info5w
 obtain ⟨i0, hi0⟩ : ∃ i0, Tryz.prog.info? 5 = some i0 := by
  cases h : Tryz.prog.info? 5 with
  | some i => exact ⟨i, rfl⟩
  | none => rw [h] at hi; cases hi
 rw [hi0] at hi
 simp only [Option.map_some, Option.some.injEq, Prod.mk.injEq] at hi
 obtain ⟨e1, e2, e3⟩ := hi
 obtain ⟨W', h1, h2, h3⟩ := run_makeSlice_full (P := Tryz.prog) (w := W) W.heap.size 67 5 i0 (.int .u8 0) 1 Tryz.underlying67 hi0 e1 e2 .i64 .i64 n (by omega) (by rw [e3]; omega) (by unfold maxLen; omega) (Nat.le_refl _)
 refine ⟨W', h1, ?_, below_grownBy h3⟩
 unfold OwnB
 rw [List.length_replicate]
 have e : (madeCells (Value.int .u8 0).cells (n * 1)).toList = (List.replicate n (0 : UInt8)).map byteV := by
  rw [List.map_replicate]
  simp only [madeCells, Value.cells, byteV, Nat.mul_one]
  rw [List.eq_replicate_iff]
  refine ⟨by simp, fun b hb => ?_⟩
  simp [Nat.mod_one] at hb
  exact hb.2.symm
 rw [e] at h2
 exact h2
set_option maxHeartbeats 1000000 in
set_option maxRecDepth 100000 in
theorem apply_nil (o : Op) (w : World) : Calls Tryz.prog 15 #[.pointer none, .agg (encO o).toArray] w fun e w' => e = .returned (.tuple #[.agg #[.int .i64 0, .int .i64 0], .int .i64 1]) ∧ Below w.heap.size w w' := by
 obtain ⟨W0, hW0⟩ : ∃ W0, W0 = (w.alloc (.cells (encO o).toArray 36)).alloc (.cells #[.int .i64 0, .int .i64 0] 30) := ⟨_, rfl⟩
 have hb0 : Below w.heap.size w W0 := by rw [hW0]; exact ((Below.refl _ w).alloc (Nat.le_refl _) _).alloc (by simp) _
 have hr0 : W0.heap[w.heap.size + 1]? = some (.cells #[.int .i64 0, .int .i64 0] 30 (0, 0)) := by rw [hW0]; have := heap_alloc_new (w.alloc (.cells (encO o).toArray 36)) (.cells #[.int .i64 0, .int .i64 0] 30); simpa using this
 have st := Aside0.mk (run_storeFull Tryz.prog W0 30 2 Tryz.sizeOf30 (w.heap.size + 1) [.int .i64 0, .int .i64 0] rfl (by intro v hv; simp at hv; subst hv; rfl) _ 30 hr0 rfl)
 have HF := Aside0.mk (And.intro (setRow_heap W0 (w.heap.size + 1) _ #[.int .i64 0, .int .i64 0] 30 (0, 0) hr0) (below_setRow hb0 (Nat.le_succ _) #[.int .i64 0, .int .i64 0]))
 clear hb0 hr0
 go_enter Tryz.func15, Tryz.ntmps15
 go_upto_region 1 with fail
 rw [← hW0]
 clear hW0
 go_wp2_with ((with_reducible refine at_store 30 (.tmp 4) (.tmp 19) ?_); refine wpList_storeK rfl 30 (.tmp 4) (.tmp 19) rfl rfl _ _ rfl rfl _ st.out ?_)
 try simp only [Exit.inBlock, Exit.then]
 refine bodyPost_ret (results_ct rfl _ _ (w.heap.size + 1) 30 _ (0, 0) _ rfl HF.out.1 Tryz.underlying30 rfl (by kernel_rfl)) rfl ?_
 exact ⟨rfl, HF.out.2⟩
set_option maxHeartbeats 1000000 in
set_option maxRecDepth 100000 in
theorem apply_off (p : Nat) (o : Op) (w : World) (h : w.cell? ⟨p, 0, none⟩ = some (.bool false)) : Calls Tryz.prog 15 #[.pointer (some ⟨p, 0, none⟩), .agg (encO o).toArray] w fun e w' => e = .returned (.tuple #[.agg #[.int .i64 0, .int .i64 0], .int .i64 1]) ∧ Below w.heap.size w w' := by
 obtain ⟨W0, hW0⟩ : ∃ W0, W0 = (w.alloc (.cells (encO o).toArray 36)).alloc (.cells #[.int .i64 0, .int .i64 0] 30) := ⟨_, rfl⟩
 have hb0 : Below w.heap.size w W0 := by rw [hW0]; exact ((Below.refl _ w).alloc (Nat.le_refl _) _).alloc (by simp) _
 have hr0 : W0.heap[w.heap.size + 1]? = some (.cells #[.int .i64 0, .int .i64 0] 30 (0, 0)) := by rw [hW0]; have := heap_alloc_new (w.alloc (.cells (encO o).toArray 36)) (.cells #[.int .i64 0, .int .i64 0] 30); simpa using this
 have st := Aside0.mk (run_storeFull Tryz.prog W0 30 2 Tryz.sizeOf30 (w.heap.size + 1) [.int .i64 0, .int .i64 0] rfl (by intro v hv; simp at hv; subst hv; rfl) _ 30 hr0 rfl)
 have HF := Aside0.mk (And.intro (setRow_heap W0 (w.heap.size + 1) _ #[.int .i64 0, .int .i64 0] 30 (0, 0) hr0) (below_setRow hb0 (Nat.le_succ _) #[.int .i64 0, .int .i64 0]))
 have kb : W0.cell? ⟨p, 0, none⟩ = some (.bool false) := (hb0.cell (World.block_lt_of_cell? w _ h)).trans h
 clear hb0 hr0
 go_enter Tryz.func15, Tryz.ntmps15
 go_upto_region 1 with fail
 rw [← hW0]
 clear hW0
 go_wp2_with ((with_reducible refine at_store 30 (.tmp 4) (.tmp 19) ?_); refine wpList_storeK rfl 30 (.tmp 4) (.tmp 19) rfl rfl _ _ rfl rfl _ st.out ?_)
 try simp only [Exit.inBlock, Exit.then]
 refine bodyPost_ret (results_ct rfl _ _ (w.heap.size + 1) 30 _ (0, 0) _ rfl HF.out.1 Tryz.underlying30 rfl (by kernel_rfl)) rfl ?_
 exact ⟨rfl, HF.out.2⟩
set_option maxHeartbeats 1000000 in
set_option maxRecDepth 100000 in
theorem book_nil (w : World) : Calls Tryz.prog 17 #[.pointer none] w fun e w' => e = .returned (.agg (bookCells book0 none 0 none 0).toArray) ∧ Below w.heap.size w w' := by
 obtain ⟨W0, hW0⟩ : ∃ W0, W0 = w.alloc (.cells #[.int .i64 0, .int .i64 0, .slice none 0 0, .slice none 0 0, .string ⟨#[]⟩] 43) := ⟨_, rfl⟩
 have hb0 : Below w.heap.size w W0 := by rw [hW0]; exact (Below.refl _ w).alloc (Nat.le_refl _) _
 have hr0 : W0.heap[w.heap.size]? = some (.cells (bookCells book0 none 0 none 0).toArray 43 (0, 0)) := by rw [hW0]; exact heap_alloc_new w _
 have st := Aside0.mk (store_full W0 43 5 w.heap.size Tryz.sizeOf43 _ (bookCells book0 none 0 none 0) hr0 rfl rfl (book_one book0 none none 0 0))
 have HF := Aside0.mk (And.intro (setRow_heap W0 w.heap.size _ (bookCells book0 none 0 none 0).toArray 43 (0, 0) hr0) (below_setRow hb0 (Nat.le_refl _) (bookCells book0 none 0 none 0).toArray))
 have HBZ := Aside0.mk run_build43
 obtain ⟨BZ, hBZ⟩ : ∃ BZ, BZ = (bookCells book0 none 0 none 0).toArray := ⟨_, rfl⟩
 rw [← hBZ] at st HF HBZ
 have HBE := Aside0.mk hBZ
 rw [← hBZ]
 clear hb0 hr0 hBZ
 go_enter Tryz.func17, Tryz.ntmps17
 go_upto_region 1 with fail
 rw [← hW0]
 clear hW0
 go_wp2_with (first | ((with_reducible refine at_build 43 #[] ?_); refine wpList_build0 rfl 43 rfl _ _ (HBZ.out _) ?_) | ((with_reducible refine at_store 43 (.tmp 2) (.tmp 5) ?_); refine wpList_storeK rfl 43 (.tmp 2) (.tmp 5) rfl rfl _ _ rfl rfl _ st.out ?_))
 try simp only [Exit.inBlock, Exit.then]
 refine bodyPost_ret (results_cell_row rfl _ _ w.heap.size 43 _ (0, 0) _ rfl HF.out.1 Tryz.underlying43 rfl (by rw [HBE.out]; kernel_rfl)) rfl ?_
 exact ⟨rfl, HF.out.2⟩
set_option maxHeartbeats 1000000 in
set_option maxRecDepth 100000 in
theorem book_none (p : Nat) (w : World) (h : w.heap[p]? = some (.cells (.bool false :: bookCells book0 none 0 none 0).toArray 83 (0, 0))) :
  Calls Tryz.prog 17 #[.pointer (some ⟨p, 0, none⟩)] w fun e w' => (∃ v, e = .returned v ∧ BookIs w' w.heap.size book0 v) ∧ Below w.heap.size w w' := by
 have hlt := (Array.getElem?_eq_some_iff.1 h).1
 have hh := h
 have hL : Lists w 0 book0 none 0 none 0 := ⟨World.ownsRow_nil _ _ _ _, World.ownsRow_nil _ _ _ _, fun k hk => by cases hk⟩
 have hf : Few book0 := book0_wf.few
 obtain ⟨s1, s2⟩ := hL.src
 obtain ⟨W0, hW0⟩ : ∃ W0, W0 = w.alloc (.cells #[.int .i64 0, .int .i64 0, .slice none 0 0, .slice none 0 0, .string ⟨#[]⟩] 43) := ⟨_, rfl⟩
 have hb0 : Below w.heap.size w W0 := by rw [hW0]; exact (Below.refl _ w).alloc (Nat.le_refl _) _
 have hq : W0.heap[w.heap.size]? = some (.cells #[.int .i64 0, .int .i64 0, .slice none 0 0, .slice none 0 0, .string ⟨#[]⟩] 43 (0, 0)) := by rw [hW0]; exact heap_alloc_new w _
 have hown := Aside0.mk (own_book book0 none none 0 0 W0 (s1.grown hb0) (s2.grown hb0) hf)
 have hh0 : W0.heap[p]? = some (.cells (.bool false :: bookCells book0 none 0 none 0).toArray 83 (0, 0)) := (hb0.block _ hlt).trans hh
 have l1 := Aside0.mk (run_loadAtK Tryz.prog W0 43 5 Tryz.isAgg43 Tryz.sizeOf43 p 1 (bookCells book0 none 0 none 0) rfl (fun j v hj => by rw [cell_of_heap hh0, Nat.add_comm]; exact hj))
 have hB0 := Aside0.mk hb0
 have hQ := Aside0.mk hq
 have hQlt : w.heap.size < W0.heap.size := (Array.getElem?_eq_some_iff.1 hq).1
 clear h hh hh0 hL s1 s2 hb0 hq hf
 go_enter Tryz.func17, Tryz.ntmps17
 go_wp2_with (first | fail | (rw [← hW0]; refine wpList_loadK rfl 43 _ rfl _ rfl _ l1.out ?_))
 rw [← hW0]
 clear hW0
 refine hown.out.mono ?_
 rintro e w1 ⟨A1', c1', A2', c2', rfl, hL, -, -, hb⟩
 have hq1 := (hb.block _ (Array.getElem?_eq_some_iff.1 hQ.out).1).trans hQ.out
 have st := Aside0.mk (run_storeFull Tryz.prog w1 43 5 Tryz.sizeOf43 w.heap.size (bookCells book0 A1' c1' A2' c2') rfl (book_one _ _ _ _ _) _ 43 hq1 rfl)
 have hq2 := Aside0.mk (setRow_heap w1 w.heap.size _ (bookCells book0 A1' c1' A2' c2').toArray 43 (0, 0) hq1)
 have HL := Aside0.mk hL
 have HB := Aside0.mk hb
 clear hL hb hq1 hown hQ l1
 go_wp2_with (first | (refine wpList_storeK rfl 43 _ _ rfl rfl _ _ rfl rfl _ st.out ?_))
 try simp only [Exit.inBlock, Exit.then]
 refine bodyPost_ret (results_cell_row rfl _ _ w.heap.size 43 _ (0, 0) _ rfl hq2.out Tryz.underlying43 rfl (by kernel_rfl)) rfl ?_
 have hg := grownBy_setRow w1 w.heap.size (bookCells book0 A1' c1' A2' c2').toArray
 have hs0 := hB0.out.size
 have hlt0 := (Array.getElem?_eq_some_iff.1 hq2.out).1
 have hsz : w.heap.size < W0.heap.size := hQlt
 refine ⟨⟨_, rfl, A1', c1', A2', c2', rfl, (HL.out.lower hB0.out.size).kept hg ?_ ?_⟩, below_setRow (below_step hB0.out HB.out) (Nat.le_refl _) _⟩
 ·cases hk : (Value.slice A1' book0.devs.length c1').ownBlock with
  | none => exact .inl rfl
  | some k => exact .inr (by have := (HL.out.1.lt k hk).1; simp; omega)
 ·cases hk : (Value.slice A2' book0.spent.length c2').ownBlock with
  | none => exact .inl rfl
  | some k => exact .inr (by have := (HL.out.2.1.lt k hk).1; simp; omega)
end Go.Proofs.YthnpiimiimiijaaGreatDoor.Dir
end
section
namespace Go.Proofs.YthnpiimiimiijaaGreatDoor.Dir
open Go Go.RowKit Go.Proofs
set_option linter.unusedVariables false
def kt1 : List UInt8 := [97, 108, 108, 111, 119, 32, 49, 32, 62, 32, 50, 32, 42]
def kt2 : List UInt8 := List.replicate 1025 0
def ktx : List UInt8 := [120]
def rawE : Op := ⟨1, 1, key0, 9, [], 0⟩
def rawZ : Op := ⟨0, 0, key0, 0, [], 0⟩
def rawK : Op := ⟨6, 0, key0, 0, [], 0⟩
def rawX : Op := ⟨4, 0, key0, 0, ktx, 0⟩
def rawL : Op := ⟨4, 0, key0, 0, kt2, 0⟩
def rawT : Op := ⟨4, 0, key0, 0, kt1, 0⟩
def kdb0 : Book := book0
def kdo0 : Op := regOp 0 1 9
theorem kde0 : errOf rulesOf kdb0 kdo0 = 220 := by kernel_rfl
theorem kdv0 : (applyOf rulesOf kdb0 kdo0).ver = 0 := by kernel_rfl
theorem kds0 : applyOf rulesOf kdb0 kdo0 = kdb0 := by kernel_rfl
def kdo1 : Op := regOp 9 1 9
theorem kde1 : errOf rulesOf kdb0 kdo1 = 220 := by kernel_rfl
theorem kdv1 : (applyOf rulesOf kdb0 kdo1).ver = 0 := by kernel_rfl
theorem kds1 : applyOf rulesOf kdb0 kdo1 = kdb0 := by kernel_rfl
def kdo2 : Op := rawE
theorem kde2 : errOf rulesOf kdb0 kdo2 = 221 := by kernel_rfl
theorem kdv2 : (applyOf rulesOf kdb0 kdo2).ver = 0 := by kernel_rfl
theorem kds2 : applyOf rulesOf kdb0 kdo2 = kdb0 := by kernel_rfl
def kdo3 : Op := regOp 1 1 9007199254740992
theorem kde3 : errOf rulesOf kdb0 kdo3 = 9 := by kernel_rfl
theorem kdv3 : (applyOf rulesOf kdb0 kdo3).ver = 0 := by kernel_rfl
theorem kds3 : applyOf rulesOf kdb0 kdo3 = kdb0 := by kernel_rfl
def kdo4 : Op := regOp 1 1 (-1)
theorem kde4 : errOf rulesOf kdb0 kdo4 = 9 := by kernel_rfl
theorem kdv4 : (applyOf rulesOf kdb0 kdo4).ver = 0 := by kernel_rfl
theorem kds4 : applyOf rulesOf kdb0 kdo4 = kdb0 := by kernel_rfl
def kdo5 : Op := rotOp 1 1 9
theorem kde5 : errOf rulesOf kdb0 kdo5 = 220 := by kernel_rfl
theorem kdv5 : (applyOf rulesOf kdb0 kdo5).ver = 0 := by kernel_rfl
theorem kds5 : applyOf rulesOf kdb0 kdo5 = kdb0 := by kernel_rfl
def kdo6 : Op := revOp 1
theorem kde6 : errOf rulesOf kdb0 kdo6 = 220 := by kernel_rfl
theorem kdv6 : (applyOf rulesOf kdb0 kdo6).ver = 0 := by kernel_rfl
theorem kds6 : applyOf rulesOf kdb0 kdo6 = kdb0 := by kernel_rfl
def kdo7 : Op := rawZ
theorem kde7 : errOf rulesOf kdb0 kdo7 = 2 := by kernel_rfl
theorem kdv7 : (applyOf rulesOf kdb0 kdo7).ver = 0 := by kernel_rfl
theorem kds7 : applyOf rulesOf kdb0 kdo7 = kdb0 := by kernel_rfl
def kdo8 : Op := rawK
theorem kde8 : errOf rulesOf kdb0 kdo8 = 2 := by kernel_rfl
theorem kdv8 : (applyOf rulesOf kdb0 kdo8).ver = 0 := by kernel_rfl
theorem kds8 : applyOf rulesOf kdb0 kdo8 = kdb0 := by kernel_rfl
def kdo9 : Op := advOp 0
theorem kde9 : errOf rulesOf kdb0 kdo9 = 9 := by kernel_rfl
theorem kdv9 : (applyOf rulesOf kdb0 kdo9).ver = 0 := by kernel_rfl
theorem kds9 : applyOf rulesOf kdb0 kdo9 = kdb0 := by kernel_rfl
def kdo10 : Op := advOp 9007199254740992
theorem kde10 : errOf rulesOf kdb0 kdo10 = 9 := by kernel_rfl
theorem kdv10 : (applyOf rulesOf kdb0 kdo10).ver = 0 := by kernel_rfl
theorem kds10 : applyOf rulesOf kdb0 kdo10 = kdb0 := by kernel_rfl
def kdo11 : Op := rawX
theorem kde11 : errOf rulesOf kdb0 kdo11 = 210 := by kernel_rfl
theorem kdv11 : (applyOf rulesOf kdb0 kdo11).ver = 0 := by kernel_rfl
theorem kds11 : applyOf rulesOf kdb0 kdo11 = kdb0 := by kernel_rfl
def kdo12 : Op := rawL
theorem kde12 : errOf rulesOf kdb0 kdo12 = 5 := by kernel_rfl
theorem kdv12 : (applyOf rulesOf kdb0 kdo12).ver = 0 := by kernel_rfl
theorem kds12 : applyOf rulesOf kdb0 kdo12 = kdb0 := by kernel_rfl
def kdo13 : Op := regOp 8 1 9007199254740991
theorem kde13 : errOf rulesOf kdb0 kdo13 = 0 := by kernel_rfl
theorem kdv13 : (applyOf rulesOf kdb0 kdo13).ver = 1 := by kernel_rfl
def kdb1 : Book := applyOf rulesOf kdb0 kdo13
def kdo14 : Op := regOp 2 2 9
theorem kde14 : errOf rulesOf kdb1 kdo14 = 0 := by kernel_rfl
theorem kdv14 : (applyOf rulesOf kdb1 kdo14).ver = 2 := by kernel_rfl
def kdb2 : Book := applyOf rulesOf kdb1 kdo14
def kdo15 : Op := rawT
theorem kde15 : errOf rulesOf kdb2 kdo15 = 0 := by kernel_rfl
theorem kdv15 : (applyOf rulesOf kdb2 kdo15).ver = 3 := by kernel_rfl
def kdb3 : Book := applyOf rulesOf kdb2 kdo15
def kdo16 : Op := advOp 8
theorem kde16 : errOf rulesOf kdb3 kdo16 = 0 := by kernel_rfl
theorem kdv16 : (applyOf rulesOf kdb3 kdo16).ver = 4 := by kernel_rfl
def kdb4 : Book := applyOf rulesOf kdb3 kdo16
def kdo17 : Op := advOp 8
theorem kde17 : errOf rulesOf kdb4 kdo17 = 9 := by kernel_rfl
theorem kdv17 : (applyOf rulesOf kdb4 kdo17).ver = 4 := by kernel_rfl
theorem kds17 : applyOf rulesOf kdb4 kdo17 = kdb4 := by kernel_rfl
def kdo18 : Op := regOp 3 3 8
theorem kde18 : errOf rulesOf kdb4 kdo18 = 9 := by kernel_rfl
theorem kdv18 : (applyOf rulesOf kdb4 kdo18).ver = 4 := by kernel_rfl
theorem kds18 : applyOf rulesOf kdb4 kdo18 = kdb4 := by kernel_rfl
def kdo19 : Op := regOp 3 3 9
theorem kde19 : errOf rulesOf kdb4 kdo19 = 0 := by kernel_rfl
theorem kdv19 : (applyOf rulesOf kdb4 kdo19).ver = 5 := by kernel_rfl
def kdb5 : Book := applyOf rulesOf kdb4 kdo19
def kdo20 : Op := rotOp 2 2 10
theorem kde20 : errOf rulesOf kdb5 kdo20 = 221 := by kernel_rfl
theorem kdv20 : (applyOf rulesOf kdb5 kdo20).ver = 5 := by kernel_rfl
theorem kds20 : applyOf rulesOf kdb5 kdo20 = kdb5 := by kernel_rfl
def kdo21 : Op := rotOp 2 3 10
theorem kde21 : errOf rulesOf kdb5 kdo21 = 221 := by kernel_rfl
theorem kdv21 : (applyOf rulesOf kdb5 kdo21).ver = 5 := by kernel_rfl
theorem kds21 : applyOf rulesOf kdb5 kdo21 = kdb5 := by kernel_rfl
def kdo22 : Op := rotOp 2 9 8
theorem kde22 : errOf rulesOf kdb5 kdo22 = 9 := by kernel_rfl
theorem kdv22 : (applyOf rulesOf kdb5 kdo22).ver = 5 := by kernel_rfl
theorem kds22 : applyOf rulesOf kdb5 kdo22 = kdb5 := by kernel_rfl
def kdo23 : Op := revOp 2
theorem kde23 : errOf rulesOf kdb5 kdo23 = 0 := by kernel_rfl
theorem kdv23 : (applyOf rulesOf kdb5 kdo23).ver = 6 := by kernel_rfl
def kdb6 : Book := applyOf rulesOf kdb5 kdo23
def kdo24 : Op := revOp 2
theorem kde24 : errOf rulesOf kdb6 kdo24 = 222 := by kernel_rfl
theorem kdv24 : (applyOf rulesOf kdb6 kdo24).ver = 6 := by kernel_rfl
theorem kds24 : applyOf rulesOf kdb6 kdo24 = kdb6 := by kernel_rfl
def kdo25 : Op := regOp 2 2 10
theorem kde25 : errOf rulesOf kdb6 kdo25 = 221 := by kernel_rfl
theorem kdv25 : (applyOf rulesOf kdb6 kdo25).ver = 6 := by kernel_rfl
theorem kds25 : applyOf rulesOf kdb6 kdo25 = kdb6 := by kernel_rfl
theorem kd_acl : kdb6.acl = kt1 := by kernel_rfl
theorem kd_clock : kdb6.clock = 8 := by kernel_rfl
theorem kc0 : decide (validOf kdb6 (keyN 3) 8 = some 3) = true := by kernel_rfl
theorem kc1 : decide (validOf kdb6 (keyN 2) 0 = some 2) = false := by kernel_rfl
theorem kc2 : decide (validOf kdb6 (keyN 1) 9007199254740990 = some 8) = true := by kernel_rfl
theorem kc3 : decide (validOf kdb6 (keyN 1) 9007199254740991 = some 8) = false := by kernel_rfl
def keb0 : Book := book0
def keo0 : Op := regOp 1 1 9
theorem kee0 : errOf rulesOf keb0 keo0 = 0 := by kernel_rfl
theorem kev0 : (applyOf rulesOf keb0 keo0).ver = 1 := by kernel_rfl
def keb1 : Book := applyOf rulesOf keb0 keo0
def keo1 : Op := advOp 9
theorem kee1 : errOf rulesOf keb1 keo1 = 0 := by kernel_rfl
theorem kev1 : (applyOf rulesOf keb1 keo1).ver = 2 := by kernel_rfl
def keb2 : Book := applyOf rulesOf keb1 keo1
def keo2 : Op := regOp 1 2 20
theorem kee2 : errOf rulesOf keb2 keo2 = 220 := by kernel_rfl
theorem kev2 : (applyOf rulesOf keb2 keo2).ver = 2 := by kernel_rfl
theorem kes2 : applyOf rulesOf keb2 keo2 = keb2 := by kernel_rfl
def kfb0 : Book := book0
def kfo0 : Op := regOp 1 100 9
theorem kfe0 : errOf rulesOf kfb0 kfo0 = 0 := by kernel_rfl
theorem kfv0 : (applyOf rulesOf kfb0 kfo0).ver = 1 := by kernel_rfl
def kfb1 : Book := applyOf rulesOf kfb0 kfo0
def fullC (k : Nat) : Book := ⟨(k + 1 : Nat), 0, [⟨1, keyN (100 + k), 9, false⟩], (List.range k).map (fun i => keyN (100 + i)), []⟩
theorem full_zero : kfb1 = fullC 0 := by kernel_rfl
theorem full_all : (List.range 64).all (fun k => decide (errOf rulesOf (fullC k) (rotOp 1 (101 + k) 9) = 0 ∧ applyOf rulesOf (fullC k) (rotOp 1 (101 + k) 9) = fullC (k + 1))) = true := by kernel_rfl
theorem full_step (k : Nat) (h : k < 64) : errOf rulesOf (fullC k) (rotOp 1 (101 + k) 9) = 0 ∧ applyOf rulesOf (fullC k) (rotOp 1 (101 + k) 9) = fullC (k + 1) := of_decide_eq_true (List.all_eq_true.1 full_all k (List.mem_range.2 h))
theorem full_spent : (fullC 64).spent.length = 64 := by simp [fullC]
def kgb0 : Book := fullC 64
def kgo0 : Op := rotOp 1 1 9
theorem kge0 : errOf rulesOf kgb0 kgo0 = 5 := by kernel_rfl
theorem kgv0 : (applyOf rulesOf kgb0 kgo0).ver = 65 := by kernel_rfl
theorem kgs0 : applyOf rulesOf kgb0 kgo0 = kgb0 := by kernel_rfl
def kgo1 : Op := rotOp 1 100 9
theorem kge1 : errOf rulesOf kgb0 kgo1 = 221 := by kernel_rfl
theorem kgv1 : (applyOf rulesOf kgb0 kgo1).ver = 65 := by kernel_rfl
theorem kgs1 : applyOf rulesOf kgb0 kgo1 = kgb0 := by kernel_rfl
def kgo2 : Op := regOp 2 1 9
theorem kge2 : errOf rulesOf kgb0 kgo2 = 0 := by kernel_rfl
theorem kgv2 : (applyOf rulesOf kgb0 kgo2).ver = 66 := by kernel_rfl
def kgb1 : Book := applyOf rulesOf kgb0 kgo2
def kgo3 : Op := revOp 2
theorem kge3 : errOf rulesOf kgb1 kgo3 = 0 := by kernel_rfl
theorem kgv3 : (applyOf rulesOf kgb1 kgo3).ver = 67 := by kernel_rfl
def kgb2 : Book := applyOf rulesOf kgb1 kgo3
def kgo4 : Op := regOp 2 2 9
theorem kge4 : errOf rulesOf kgb2 kgo4 = 5 := by kernel_rfl
theorem kgv4 : (applyOf rulesOf kgb2 kgo4).ver = 67 := by kernel_rfl
theorem kgs4 : applyOf rulesOf kgb2 kgo4 = kgb2 := by kernel_rfl
def kgo5 : Op := regOp 3 2 9
theorem kge5 : errOf rulesOf kgb2 kgo5 = 0 := by kernel_rfl
theorem kgv5 : (applyOf rulesOf kgb2 kgo5).ver = 68 := by kernel_rfl
def kgb3 : Book := applyOf rulesOf kgb2 kgo5
def klb0 : Book := ⟨9007199254740991, 0, [], [], []⟩
def klo0 : Op := regOp 1 1 9
theorem kle0 : errOf rulesOf klb0 klo0 = 5 := by kernel_rfl
theorem klv0 : (applyOf rulesOf klb0 klo0).ver = 9007199254740991 := by kernel_rfl
theorem kls0 : applyOf rulesOf klb0 klo0 = klb0 := by kernel_rfl
def klo1 : Op := regOp 0 1 9
theorem kle1 : errOf rulesOf klb0 klo1 = 220 := by kernel_rfl
theorem klv1 : (applyOf rulesOf klb0 klo1).ver = 9007199254740991 := by kernel_rfl
theorem kls1 : applyOf rulesOf klb0 klo1 = klb0 := by kernel_rfl
end Go.Proofs.YthnpiimiimiijaaGreatDoor.Dir
end
section
namespace Go.Proofs.YthnpiimiimiijaaGreatDoor.Dir
open Go Go.RowKit Go.Proofs Go.Proofs.YthnpiimiimiijaaGreatDoorW.PrintWords Go.Proofs.YthnpiimiimiijaaGreatDoorW.PrintLast Go.Proofs.YthnpiimiimiijaaGreatDoorW.PrintMore
set_option linter.unusedVariables false
set_option linter.unusedSimpArgs false
section
variable {P : Program} {ops : Array Oper} {Q : Exit → Act → World → Prop}
structure OnWay (ops : Array Oper) (a0 : Act) (w0 : World) (G : Nat → Value → World → Prop) (l : Array Bool) (a : Act) (w : World) : Prop where
 defers : a.defers = a0.defers
 size : a.tmps.size = a0.tmps.size
 frame : ∀ t : Nat, (∀ (i : Nat) (o : Oper), ops[i]? = some o → o.dst ≠ some t) → a.tmps[t]? = a0.tmps[t]?
 good : ∀ (i : Nat) (o : Oper) (N : Nat), ops[i]? = some o → o.dst = some N → l.getD i false = true → G i (a.tmps.getD N undef) w
 fr : Below w0.heap.size w0 w
theorem OnWay.step {a0 : Act} {w0 : World} {G : Nat → Value → World → Prop} (hG : ∀ i v w w', G i v w → Below w.heap.size w w' → G i v w')
  (hd : ∀ (i j : Nat) (o o' : Oper) (N : Nat), ops[i]? = some o → ops[j]? = some o' → o.dst = some N → o'.dst = some N → i = j)
  {l : Array Bool} {a : Act} {w w' : World} {i : Nat} {o : Oper} {N : Nat} {v : Value} (h : OnWay ops a0 w0 G l a w) (hi : ops[i]? = some o) (hN : o.dst = some N) (hlt : N < a0.tmps.size) (hb : Below w.heap.size w w') (hv : G i v w') :
  OnWay ops a0 w0 G (l.setIfInBounds i true) (a.put o.dst v) w' := by
 rw [hN]
 refine ⟨h.defers, by simp [Act.put, h.size], fun t ht => ?_, fun j o' N' hj hN' hl => ?_, below_step h.fr hb⟩
 ·rw [← h.frame t ht]
  have hne : N ≠ t := fun e => ht i o hi (by rw [hN, e])
  simp [Act.put, hne]
 ·by_cases hij : j = i
  ·subst hij
   rw [hi] at hj
   cases hj
   rw [hN] at hN'
   cases hN'
   have : (a.put (some N) v).tmps.getD N undef = v := by
    simp [Act.put, Array.getD, h.size, hlt]
   rw [this]
   exact hv
  ·have hne : N ≠ N' := fun e => hij (hd j i o' o N' hj hi hN' (by rw [hN, e]))
   have e1 : (a.put (some N) v).tmps.getD N' undef = a.tmps.getD N' undef := by
    rw [Array.getD_eq_getD_getElem?, Array.getD_eq_getD_getElem?]
    simp [Act.put, hne]
   rw [e1]
   have e2 : l.getD j false = true := by
    rw [Array.getD_eq_getD_getElem?] at hl ⊢
    rw [Array.getElem?_setIfInBounds_ne (Ne.symm hij)] at hl
    exact hl
   exact hG _ _ _ _ (h.good j o' N' hj hN' e2) hb
theorem region_way {id : Nat} {a0 : Act} {w0 : World} {G : Nat → Value → World → Prop} (hm : P.follows .mixedOrders = true)
  (hG : ∀ i v w w', G i v w → Below w.heap.size w w' → G i v w')
  (hd : ∀ (i j : Nat) (o o' : Oper) (N : Nat), ops[i]? = some o → ops[j]? = some o' → o.dst = some N → o'.dst = some N → i = j)
  (hN : ∀ (i : Nat) (o : Oper), ops[i]? = some o → ∃ N, o.dst = some N ∧ N < a0.tmps.size)
  (hguard : ∀ (i : Nat) (o : Oper), ops[i]? = some o → o.guard = none)
  (hlow : ∀ (i : Nat) (o : Oper), ops[i]? = some o → ∀ e ∈ o.after, e.on < i)
  (hop : ∀ (i : Nat) (o : Oper) (l : Array Bool) (a : Act) (w : World), ops[i]? = some o → (∀ e ∈ o.after, Region.binds .any e = true → l.getD e.on false = true) → OnWay ops a0 w0 G l a w →
   ∀ K : Act → World → Prop, (∀ v w', Below w.heap.size w w' → G i v w' → K (a.put o.dst v) w') → o.wp P a w K Q)
  (hend : ∀ a w, OnWay ops a0 w0 G (Array.replicate ops.size true) a w → Q .normal a w) : (Code.region id ops true).wp P Q a0 w0 := by
 refine wp_region_any hm ?_
 suffices main : ∀ (fuel : Nat) (l : Array Bool) (a : Act) (w : World), l.size = ops.size → l.toList.count false ≤ fuel → OnWay ops a0 w0 G l a w → wpAny P .any ops Q fuel l a w by
  refine main ops.size _ a0 w0.drew (by simp) (by simp) ⟨rfl, rfl, fun _ _ => rfl, fun i o N hi _ hl => ?_, (Below.refl _ w0).drew⟩
  rw [Array.getD_eq_getD_getElem?] at hl
  simp [Array.getElem?_replicate] at hl
  split at hl <;> simp at hl
 have hdone : ∀ (l : Array Bool) (a : Act) (w : World), l.size = ops.size → OnWay ops a0 w0 G l a w → Region.ready .any ops l = [] → Q .normal a w := by
  intro l a w hs hI hr
  have all : ∀ i, i < ops.size → l[i]? = some true := by
   intro i
   induction i using Nat.strongRecOn with
   | _ i ih =>
    intro hi
    have hil : i < l.size := by omega
    cases hb : l[i] with
    | true => rw [Array.getElem?_eq_getElem hil, hb]
    | false =>
     have : i ∈ Region.ready .any ops l := by
      rw [mem_ready]
      refine ⟨by simp [Array.getD, hil, hb], ops[i], Array.getElem?_eq_getElem hi, fun e he _ => ?_⟩
      have h1 := hlow i ops[i] (Array.getElem?_eq_getElem hi) e he
      rw [Array.getD_eq_getD_getElem?, ih e.on h1 (by omega)]
      rfl
     rw [hr] at this
     cases this
  have e : l = Array.replicate ops.size true := by
   apply Array.ext_getElem?
   intro i
   by_cases hi : i < ops.size
   ·rw [all i hi]; simp [hi]
   ·rw [Array.getElem?_eq_none (by omega)]; simp [hi]
  rw [e] at hI
  exact hend a w hI
 intro fuel
 induction fuel with
 | zero =>
  intro l a w hs hc hI
  have hr : Region.ready .any ops l = [] := by
   cases h : Region.ready .any ops l with
   | nil => rfl
   | cons i r =>
    exfalso
    have hi : i ∈ Region.ready .any ops l := by rw [h]; simp
    rw [mem_ready] at hi
    obtain ⟨h1, o, ho, -⟩ := hi
    have hil : i < l.size := by rw [hs]; exact (Array.getElem?_eq_some_iff.1 ho).1
    have h2 : l[i] = false := by simpa [Array.getD, hil] using h1
    have : false ∈ l.toList := by rw [← h2]; simp
    have := List.count_pos_iff.2 this
    omega
  exact ⟨hr, hdone l a w hs hI hr⟩
 | succ fuel ih =>
  intro l a w hs hc hI
  refine ⟨hdone l a w hs hI, fun i hi => ?_⟩
  have hi0 := hi
  rw [mem_ready] at hi
  obtain ⟨h1, o, ho, hall⟩ := hi
  have hil : i < l.size := by rw [hs]; exact (Array.getElem?_eq_some_iff.1 ho).1
  have h2 : l[i] = false := by simpa [Array.getD, hil] using h1
  unfold wpOp
  rw [ho]
  simp only
  rw [if_pos (by unfold Region.wanted; rw [hguard i o ho])]
  refine .inl (hop i o l a w ho hall hI _ fun v w' hb hv => ?_)
  obtain ⟨N, hdst, hlt⟩ := hN i o ho
  refine ih _ _ _ (by simp [hs]) ?_ (hI.step hG hd ho hdst hlt hb hv)
  have hcnt : (l.setIfInBounds i true).toList.count false + 1 = l.toList.count false := by
   rw [Array.toList_setIfInBounds]
   have hlen : i < l.toList.length := by simpa using hil
   have e0 : l.toList[i] = false := by simpa using h2
   have hs : l.toList = l.toList.take i ++ l.toList[i] :: l.toList.drop (i + 1) := by
    rw [List.getElem_cons_drop, List.take_append_drop]
   rw [List.set_eq_take_append_cons_drop, if_pos hlen]
   conv => rhs; rw [hs, e0]
   simp [List.count_append, List.count_cons]
   omega
  omega
theorem wp_value {o : Oper} {a : Act} {w w1 : World} {K : Act → World → Prop} {v : Value} (hrun : (execOp a.eval o).run P w = .ok (.value v) w1) (h : K (a.put o.dst v) w1) : o.wp P a w K Q := by
 unfold Oper.wp
 rw [hrun]
 exact h
theorem wp_goes {o : Oper} {a : Act} {w : World} {K : Act → World → Prop} {f : FuncId} {fn : Func} {ax : Array Operand} {ts : Array TypeId} (hf : P.funcs[f]? = some fn) (hname : (fn.name == "runtime.NumGoroutine") = false) (hb : fn.body.isSome = true) (args : Array Value)
  (hop : o.op = .call { callee := .value (.func f), args := ax, argTypes := ts }) (hg : o.guard = none) (hargs : ax.map a.eval = args)
  (h : Calls P f args w fun e w' => ∃ v, e = .returned v ∧ K (a.put o.dst v) w') : o.wp P a w K Q := by
 have hw : Region.wanted o (yielded (#[] : Array Oper) a.tmps) = true := by unfold Region.wanted; rw [hg]
 have := goes_ (ops := (#[] : Array Oper)) (Q := Q) hf hname hb args hw rfl hop hargs h
 rw [if_pos hw] at this
 exact this
theorem putAll_defers : ∀ (ns : List (Tmp × Value)) (a : Act), (putAll a ns).defers = a.defers
 | [], a => rfl
 | (n, v) :: r, a => by
  show (putAll (a.put (some n) v) r).defers = _
  rw [putAll_defers r]
  rfl
theorem putAll_other : ∀ (ns : List (Tmp × Value)) (a : Act) (t : Nat), (∀ n ∈ ns, n.1 ≠ t) → (putAll a ns).tmps[t]? = a.tmps[t]?
 | [], a, t, _ => rfl
 | (n, v) :: r, a, t, h => by
  show (putAll (a.put (some n) v) r).tmps[t]? = _
  rw [putAll_other r _ t (fun m hm => h m (by simp [hm]))]
  have : n ≠ t := h (n, v) (by simp)
  simp [Act.put, this]
theorem putAll_same (f : Nat → Value) : ∀ (ns : List Tmp) (a : Act) (t : Nat), t ∈ ns → t < a.tmps.size → (putAll a (ns.map fun n => (n, f n))).tmps[t]? = some (f t)
 | [], a, t, h, _ => by cases h
 | n :: r, a, t, h, hl => by
  show (putAll (a.put (some n) (f n)) (r.map fun n => (n, f n))).tmps[t]? = _
  by_cases ht : t ∈ r
  ·exact putAll_same f r _ t ht (by simpa [Act.put] using hl)
  ·have e : t = n := by rcases List.mem_cons.1 h with h | h; exact h; exact absurd h ht
   subst e
   rw [putAll_other _ _ _ (fun m hm => by
    obtain ⟨x, hx, rfl⟩ := List.mem_map.1 hm
    exact fun e => ht (e ▸ hx))]
   simp [Act.put, hl]
theorem OnWay.act {a0 a : Act} {w0 w : World} {G : Nat → Value → World → Prop} {l : Array Bool} (h : OnWay ops a0 w0 G l a w) (ns : List Tmp) (hns : ∀ n ∈ ns, n < a0.tmps.size) (hout : ∀ t, t ∉ ns → ∀ (i : Nat) (o : Oper), ops[i]? = some o → o.dst ≠ some t) :
  a = putAll a0 (ns.map fun n => (n, a.tmps.getD n undef)) := by
 have e1 : a.tmps = (putAll a0 (ns.map fun n => (n, a.tmps.getD n undef))).tmps := by
  apply Array.ext_getElem?
  intro t
  by_cases ht : t ∈ ns
  ·rw [putAll_same _ _ _ _ ht (hns t ht), Array.getD_eq_getD_getElem?]
   have : t < a.tmps.size := by rw [h.size]; exact hns t ht
   rw [Array.getElem?_eq_getElem this]
   rfl
  ·rw [putAll_other _ _ _ (fun m hm => by
    obtain ⟨x, hx, rfl⟩ := List.mem_map.1 hm
    exact fun e => ht (e ▸ hx))]
   exact h.frame t (hout t ht)
 have e2 : a.defers = (putAll a0 (ns.map fun n => (n, a.tmps.getD n undef))).defers := by rw [putAll_defers]; exact h.defers
 generalize putAll a0 (ns.map fun n => (n, a.tmps.getD n undef)) = b at e1 e2
 cases a; cases b
 simp only at e1 e2
 rw [e1, e2]
end
end Go.Proofs.YthnpiimiimiijaaGreatDoor.Dir
end
section
namespace Go.Proofs.YthnpiimiimiijaaGreatDoor.Dir
open Go Go.RowKit Go.Proofs Go.Proofs.YthnpiimiimiijaaGreatDoorW.PrintWords Go.Proofs.YthnpiimiimiijaaGreatDoorW.PrintLast Go.Proofs.YthnpiimiimiijaaGreatDoorW.PrintMore
set_option linter.unusedVariables false
set_option linter.unusedSimpArgs false
def partsFrom : Nat → List Value → List (Nat × Value)
 | _, [] => []
 | m, v :: vs => (m, v) :: partsFrom (m + 1) vs
def rowOf (vs : List Value) : List Value := vs.flatMap (fun v => v.cells.toList)
theorem fill_row (k : Nat) : ∀ (vs : List Value) (m : Nat) (pre suf : List Value), pre.length = m * k → suf.length = vs.length * k → (∀ v ∈ vs, v.cells.size = k) →
  Instr.fill (fun i => some (i * k, k)) (pre ++ suf).toArray (partsFrom m vs) = some (pre ++ rowOf vs).toArray
 | [], m, pre, suf, h1, h2, _ => by
  have : suf = [] := List.eq_nil_of_length_eq_zero (by simpa using h2)
  subst this
  simp [partsFrom, rowOf, Instr.fill]
 | v :: vs, m, pre, suf, h1, h2, h3 => by
  have hv := h3 v (by simp)
  have hlen : suf.length = k + vs.length * k := by rw [h2, List.length_cons, Nat.add_mul, Nat.one_mul, Nat.add_comm]
  unfold partsFrom
  rw [fill_cons (fun i => some (i * k, k)) _ m v _ (m * k) k rfl hv (by simp only [List.size_toArray, List.length_append]; omega)]
  have e : splice (pre ++ suf).toArray.toList (m * k) v.cells.toList = (pre ++ v.cells.toList) ++ suf.drop k := by
   unfold splice
   have hvl : v.cells.toList.length = k := (Array.length_toList).trans hv
   show (pre ++ suf).take (m * k) ++ (v.cells.toList ++ (pre ++ suf).drop (m * k + v.cells.toList.length)) = _
   rw [hvl, ← h1, List.take_left, List.drop_append, List.drop_eq_nil_of_le (by omega), Nat.add_sub_cancel_left]
   simp
  rw [e, fill_row k vs (m + 1) _ _ (by have hvl : v.cells.toList.length = k := (Array.length_toList).trans hv; rw [List.length_append, hvl, h1, Nat.add_mul, Nat.one_mul]) (by rw [List.length_drop]; omega) (fun u hu => h3 u (by simp [hu]))]
  simp [rowOf]
theorem run_row (w : World) (t e : TypeId) (n k : Nat) (vs : List Value) (hu : Tryz.prog.underlying t = some (.slice e)) (hi : (Tryz.prog.info? e).map (fun i => (i.size, i.zero.isSome)) = some (k, true)) (hn : vs.length = n) (hs : ¬ n * k > 2 ^ 24) (hp : ¬ n * k = 0) (hk : ∀ v ∈ vs, v.cells.size = k) :
  (Instr.buildSlice t n (partsFrom 0 vs).toArray).run Tryz.prog w = .ok (.slice (some ⟨w.heap.size, 0, none⟩) n n) (w.alloc (.cells (rowOf vs).toArray e)) := by
 cases hie : Tryz.prog.info? e with
 | none => rw [hie] at hi; cases hi
 | some ie =>
  rw [hie] at hi
  simp only [Option.map_some, Option.some.injEq, Prod.mk.injEq] at hi
  obtain ⟨h1, h2⟩ := hi
  obtain ⟨z, hz⟩ := Option.isSome_iff_exists.1 h2
  refine run_buildSlice w t e n _ _ ie z hu hie hz (by rw [h1]; exact hs) (by rw [h1]; exact hp) ?_
  rw [h1]
  have := fill_row k vs 0 [] ((Array.range (n * k)).map (z.cells[· % z.cells.size]!)).toList (by simp) (by simp [hn]) hk
  rw [List.nil_append, Array.toArray_toList, List.nil_append] at this
  exact this
theorem src_row {w : World} {T : TypeId} {n size : Nat} {cs : List Value} {b : Nat} (h : w.heap[b]? = some (.cells cs.toArray T (0, 0))) (hl : cs.length = n * size) (hn : 0 < n) : SrcAt w (some ⟨b, 0, none⟩) n size cs :=
 ⟨hl, fun e => (by cases e), fun a ha j u hj => (by cases ha; rw [add_at, Nat.zero_add, cell_of_heap h]; exact hj)⟩
def placesB : Array (Nat × Nat) := #[(0, 1), (1, 1), (2, 1), (3, 1), (4, 1)]
theorem run_buildB (w : World) (parts : Array (Nat × Value)) (cs : Array Value) (hf : Instr.fill (placesB[·]?) #[.int .i64 0, .int .i64 0, .slice none 0 0, .slice none 0 0, .string ⟨#[]⟩] parts.toList = some cs) : (Instr.build 43 parts).run Tryz.prog w = .ok (.agg cs) w := by
 have hz := Tryz.zeroValue43 w
 unfold placesB at hf
 simp only [Instr.build, Sem.run_bind, hz, Result.andThen_ok, run_underlying Tryz.underlying43, Value.cells]
 simp only [List.mapM_toArray, List.mapM_cons, List.mapM_nil, Sem.run_bind, Sem.run_map, Sem.run_pure, Result.andThen_ok, Functor.map]
 have hb : ∀ {α β : Type} (x : Sem α) (f : α → Sem β), Sem.bind x f = x >>= f := fun _ _ => rfl
 simp only [hb, Sem.run_bind, Sem.run_pure, Result.andThen_ok, Tryz.sizeOf3, Tryz.sizeOf40, Tryz.sizeOf41, Tryz.sizeOf9, Function.comp]
 change ((Result.ok (#[(0, 1), (1, 1), (2, 1), (3, 1), (4, 1)] : Array (Nat × Nat)) w).andThen fun a w' => _) = _
 simp only [Result.andThen_ok]
 rw [hf]
 rfl
theorem book_b0 (w : World) (v : Int) : (Instr.build 43 #[(0, .int .i64 v)]).run Tryz.prog w = .ok (.agg (bookCells ⟨v, 0, [], [], []⟩ none 0 none 0).toArray) w := run_buildB w _ _ rfl
theorem book_b1 (w : World) (v : Int) : (Instr.build 43 #[(1, .int .i64 v)]).run Tryz.prog w = .ok (.agg (bookCells ⟨0, v, [], [], []⟩ none 0 none 0).toArray) w := run_buildB w _ _ rfl
theorem book_b4 (w : World) (t : List UInt8) : (Instr.build 43 #[(4, .string (str t))]).run Tryz.prog w = .ok (.agg (bookCells ⟨0, 0, [], [], t⟩ none 0 none 0).toArray) w := run_buildB w _ _ rfl
theorem book_b3 (w : World) (ks : List Key) (n : Nat) (hn : ks.length = n) (A : Option Addr) (c : Nat) : (Instr.build 43 #[(3, .slice A n c)]).run Tryz.prog w = .ok (.agg (bookCells ⟨0, 0, [], ks, []⟩ none 0 A c).toArray) w := by
 subst hn; exact run_buildB w _ _ rfl
theorem book_b2 (w : World) (ds : List Dev) (n : Nat) (hn : ds.length = n) (A : Option Addr) (c : Nat) : (Instr.build 43 #[(2, .slice A n c)]).run Tryz.prog w = .ok (.agg (bookCells ⟨0, 0, ds, [], []⟩ A c none 0).toArray) w := by
 subst hn; exact run_buildB w _ _ rfl
theorem book_b23 (w : World) (ds : List Dev) (n : Nat) (hn : ds.length = n) (A : Option Addr) (c : Nat) (ks : List Key) (m : Nat) (hm : ks.length = m) (A2 : Option Addr) (c2 : Nat) : (Instr.build 43 #[(2, .slice A n c), (3, .slice A2 m c2)]).run Tryz.prog w = .ok (.agg (bookCells ⟨0, 0, ds, ks, []⟩ A c A2 c2).toArray) w := by
 subst hn; subst hm; exact run_buildB w _ _ rfl
def placesD : Array (Nat × Nat) := #[(0, 1), (1, 32), (33, 1), (34, 1)]
theorem spD0 (d : Dev) (n : Int) : splice (encD d) 0 [.int .i64 n] = encD { d with node := n } := rfl
theorem spD1 (d : Dev) (k : Key) : splice (encD d) 1 (encK k) = encD { d with key := k } := by
 unfold splice encD
 rw [encK_len]
 simp only [List.take_succ_cons, List.take_zero, Nat.reduceAdd, List.drop_succ_cons]
 rw [List.drop_append, List.drop_eq_nil_of_le (by rw [encK_len]; omega), encK_len]
 rfl
theorem spD33 (d : Dev) (e : Int) : splice (encD d) 33 [.int .i64 e] = encD { d with exp := e } := by
 unfold splice encD
 simp only [List.take_succ_cons, List.length_cons, List.length_nil, Nat.reduceAdd, List.drop_succ_cons]
 rw [List.take_append_of_le_length (by rw [encK_len]; omega), List.take_of_length_le (by rw [encK_len]; omega), List.drop_append, List.drop_eq_nil_of_le (by rw [encK_len]; omega), encK_len]
 rfl
theorem fillD (d : Dev) (i off size : Nat) (v : Value) (cs : List Value) (d' : Dev) (rest : List (Nat × Value)) (hp : placesD[i]? = some (off, size)) (hv : v.cells.toList = cs) (hl : cs.length = size) (hs : splice (encD d) off cs = encD d') (hf : off + size ≤ 35) :
  Instr.fill (placesD[·]?) (encD d).toArray ((i, v) :: rest) = Instr.fill (placesD[·]?) (encD d').toArray rest := by
 rw [fill_cons (placesD[·]?) _ i v rest off size hp (by rw [← Array.length_toList, hv, hl]) (by simp only [List.size_toArray, encD_len]; omega), hv]
 rw [show (encD d).toArray.toList = encD d from rfl, hs]
def dev0 : Dev := ⟨0, key0, 0, false⟩
set_option maxRecDepth 100000 in
theorem zeroDev_list : zeroDev.toList = encD dev0 := by first | rfl | kernel_rfl
set_option maxRecDepth 100000 in
theorem run_buildD (w : World) (parts : Array (Nat × Value)) (d' : Dev) (hf : Instr.fill (placesD[·]?) (encD dev0).toArray parts.toList = some (encD d').toArray) : (Instr.build 46 parts).run Tryz.prog w = .ok (.agg (encD d').toArray) w := by
 have hz : (zeroValue 46).run Tryz.prog w = .ok (.agg zeroDev) w := Tryz.zeroValue46 w
 rw [← zeroDev_list, Array.toArray_toList] at hf
 unfold placesD at hf
 generalize zeroDev = Z at hf hz
 simp only [Instr.build, Sem.run_bind, hz, Result.andThen_ok, run_underlying Tryz.underlying46, Value.cells]
 simp only [List.mapM_toArray, List.mapM_cons, List.mapM_nil, Sem.run_bind, Sem.run_map, Sem.run_pure, Result.andThen_ok, Tryz.sizeOf3, Tryz.sizeOf34, Tryz.sizeOf4, Functor.map]
 have hb : ∀ {α β : Type} (x : Sem α) (f : α → Sem β), Sem.bind x f = x >>= f := fun _ _ => rfl
 simp only [hb, Sem.run_bind, Sem.run_pure, Result.andThen_ok, Tryz.sizeOf3, Tryz.sizeOf34, Tryz.sizeOf4, Function.comp]
 change ((Result.ok (#[(0, 1), (1, 32), (33, 1), (34, 1)] : Array (Nat × Nat)) w).andThen fun a w' => _) = _
 simp only [Result.andThen_ok]
 rw [hf]
 rfl
theorem dev_b02 (w : World) (n e : Int) : (Instr.build 46 #[(0, .int .i64 n), (2, .int .i64 e)]).run Tryz.prog w = .ok (.agg (encD ⟨n, key0, e, false⟩).toArray) w := by
 refine run_buildD w _ _ ?_
 show Instr.fill (placesD[·]?) (encD dev0).toArray [(0, .int .i64 n), (2, .int .i64 e)] = _
 rw [fillD dev0 0 0 1 _ [.int .i64 n] _ _ rfl rfl rfl (spD0 _ _) (by omega), fillD _ 2 33 1 _ [.int .i64 e] _ _ rfl rfl rfl (spD33 _ _) (by omega)]
 rfl
theorem dev_b01 (w : World) (n : Int) (k : Key) : (Instr.build 46 #[(0, .int .i64 n), (1, .agg (encK k).toArray)]).run Tryz.prog w = .ok (.agg (encD ⟨n, k, 0, false⟩).toArray) w := by
 refine run_buildD w _ _ ?_
 show Instr.fill (placesD[·]?) (encD dev0).toArray [(0, .int .i64 n), (1, .agg (encK k).toArray)] = _
 rw [fillD dev0 0 0 1 _ [.int .i64 n] _ _ rfl rfl rfl (spD0 _ _) (by omega), fillD _ 1 1 32 _ (encK k) _ _ rfl (by simp [Value.cells]) (encK_len k) (spD1 _ _) (by omega)]
 rfl
def GK (ks : List Key) (v : Value) (w : World) : Prop := ∃ A c, v = .slice A ks.length c ∧ SrcAt w A ks.length 32 (flatK ks)
def GD (ds : List Dev) (v : Value) (w : World) : Prop := ∃ A c, v = .slice A ds.length c ∧ SrcAt w A ds.length 35 (flatD ds) ∧ Bare A
def GB (B : Book) (v : Value) (w : World) : Prop := ∃ A1 c1 A2 c2, v = .agg (bookCells B A1 c1 A2 c2).toArray ∧ SrcB w B A1 A2 ∧ Bare A1
theorem GK.later {ks : List Key} {v : Value} {w w' : World} (h : GK ks v w) (hb : Below w.heap.size w w') : GK ks v w' := by
 obtain ⟨A, c, rfl, h⟩ := h; exact ⟨A, c, rfl, h.grown hb⟩
theorem GD.later {ds : List Dev} {v : Value} {w w' : World} (h : GD ds v w) (hb : Below w.heap.size w w') : GD ds v w' := by
 obtain ⟨A, c, rfl, h, h2⟩ := h; exact ⟨A, c, rfl, h.grown hb, h2⟩
theorem GB.later {B : Book} {v : Value} {w w' : World} (h : GB B v w) (hb : Below w.heap.size w w') : GB B v w' := by
 obtain ⟨A1, c1, A2, c2, rfl, h, h2⟩ := h; exact ⟨A1, c1, A2, c2, rfl, h.later hb, h2⟩
theorem bare_none : Bare none := fun a h => by cases h
theorem bare_at (g o : Nat) : Bare (some ⟨g, o, none⟩) := fun a h => by cases h; exact ⟨g, o, rfl⟩
theorem row_keys (ks : List Key) : rowOf (ks.map fun k => .agg (encK k).toArray) = flatK ks := by
 unfold rowOf flatK
 rw [List.flatMap_map]
 simp [Value.cells]
theorem row_devs (ds : List Dev) : rowOf (ds.map fun d => .agg (encD d).toArray) = flatD ds := by
 unfold rowOf flatD
 rw [List.flatMap_map]
 simp [Value.cells]
theorem rowK (w : World) (ks : List Key) (n : Nat) (hn : ks.length = n) (h0 : 0 < n) (h1 : n < 100) :
  ∃ w', (Instr.buildSlice 41 n (partsFrom 0 (ks.map fun k => .agg (encK k).toArray)).toArray).run Tryz.prog w = .ok (.slice (some ⟨w.heap.size, 0, none⟩) n n) w' ∧ Below w.heap.size w w' ∧ GK ks (.slice (some ⟨w.heap.size, 0, none⟩) n n) w' := by
 subst hn
 have := run_row w 41 34 ks.length 32 (ks.map fun k => .agg (encK k).toArray) Tryz.underlying41 (by kernel_rfl) (by simp) (by omega) (by omega) (fun v hv => by obtain ⟨k, -, rfl⟩ := List.mem_map.1 hv; simp [Value.cells, encK_len])
 rw [row_keys] at this
 exact ⟨_, this, (Below.refl _ w).alloc (Nat.le_refl _) _, _, _, rfl, src_row (heap_alloc_new w _) (flatK_len ks) h0⟩
theorem rowD (w : World) (ds : List Dev) (n : Nat) (hn : ds.length = n) (h0 : 0 < n) (h1 : n < 100) :
  ∃ w', (Instr.buildSlice 40 n (partsFrom 0 (ds.map fun d => .agg (encD d).toArray)).toArray).run Tryz.prog w = .ok (.slice (some ⟨w.heap.size, 0, none⟩) n n) w' ∧ Below w.heap.size w w' ∧ GD ds (.slice (some ⟨w.heap.size, 0, none⟩) n n) w' := by
 subst hn
 have := run_row w 40 46 ds.length 35 (ds.map fun d => .agg (encD d).toArray) Tryz.underlying40 (by kernel_rfl) (by simp) (by omega) (by omega) (fun v hv => by obtain ⟨k, -, rfl⟩ := List.mem_map.1 hv; simp [Value.cells, encD_len])
 rw [row_devs] at this
 exact ⟨_, this, (Below.refl _ w).alloc (Nat.le_refl _) _, _, _, rfl, src_row (heap_alloc_new w _) (flatD_len ds) h0, bare_at _ _⟩
end Go.Proofs.YthnpiimiimiijaaGreatDoor.Dir
end
section
namespace Go.Proofs.YthnpiimiimiijaaGreatDoor.Dir
open Go Go.RowKit Go.Proofs Go.Proofs.YthnpiimiimiijaaGreatDoorW.PrintWords Go.Proofs.YthnpiimiimiijaaGreatDoorW.PrintLast Go.Proofs.YthnpiimiimiijaaGreatDoorW.PrintMore
set_option linter.unusedVariables false
set_option linter.unusedSimpArgs false
def devOne : Dev := ⟨1, keyN 1, 1, false⟩
def badB : Nat → Book
 | 0 => ⟨-1, 0, [], [], []⟩
 | 1 => ⟨9007199254740992, 0, [], [], []⟩
 | 2 => ⟨0, -1, [], [], []⟩
 | 3 => ⟨0, 9007199254740992, [], [], []⟩
 | 4 => ⟨0, 0, [], [], ktx⟩
 | 5 => ⟨0, 0, [], [key0], []⟩
 | 6 => ⟨0, 0, [], [keyN 2, keyN 1], []⟩
 | 7 => ⟨0, 0, [], [keyN 1, keyN 1], []⟩
 | 8 => ⟨0, 0, [devOne], [keyN 1], []⟩
 | 9 => ⟨0, 0, [devOne, ⟨2, keyN 1, 1, false⟩], [], []⟩
 | 10 => ⟨0, 0, [devOne, ⟨1, keyN 2, 1, false⟩], [], []⟩
 | 11 => ⟨0, 0, [⟨9, keyN 1, 1, false⟩], [], []⟩
 | 12 => ⟨0, 0, [⟨1, key0, 1, false⟩], [], []⟩
 | 13 => ⟨0, 0, [⟨1, keyN 1, 0, false⟩], [], []⟩
 | 14 => ⟨0, 0, List.replicate 9 dev0, [], []⟩
 | _ => ⟨0, 0, [], List.replicate 65 key0, []⟩
def regionOps (id : Nat) : Code → Option (Array Oper)
 | .region k ops _ => if k = id then some ops else none
 | .seq a b => (regionOps id a).orElse fun _ => regionOps id b
 | .cond _ a b => (regionOps id a).orElse fun _ => regionOps id b
 | .block _ a => regionOps id a
 | .loop a => regionOps id a
 | _ => none
noncomputable def ops20 : Array Oper := ((Tryz.f12.body.bind (regionOps 20)).getD #[])
theorem ops20_size : ops20.size = 48 := by kernel_rfl
theorem ops20_all : ((List.range 48).all fun i => match ops20[i]? with | some o => (o.dst == some (293 + i)) && o.guard.isNone && o.after.all (fun e => decide (e.on < i)) | none => false) = true := by kernel_rfl
theorem ops20_one {i : Nat} {o : Oper} (h : ops20[i]? = some o) : i < 48 ∧ o.dst = some (293 + i) ∧ o.guard = none ∧ ∀ e ∈ o.after, e.on < i := by
 have hi : i < 48 := by have := (Array.getElem?_eq_some_iff.1 h).1; rw [ops20_size] at this; exact this
 have := List.all_eq_true.1 ops20_all i (List.mem_range.2 hi)
 rw [h] at this
 simp only [Bool.and_eq_true, beq_iff_eq, Option.isNone_iff_eq_none] at this
 obtain ⟨⟨h1, h2⟩, h3⟩ := this
 refine ⟨hi, h1, h2, fun e he => ?_⟩
 rw [Array.all_eq_true'] at h3
 exact of_decide_eq_true (h3 e he)
theorem dep20 {i j : Nat} {o : Oper} {l : Array Bool} (hi : ops20[i]? = some o) (hc : (ops20[i]?.map fun o => o.after.any (fun e => e.on == j && Region.binds .any e)) = some true) (hd : ∀ e ∈ o.after, Region.binds .any e = true → l.getD e.on false = true) : l.getD j false = true := by
 rw [hi] at hc
 simp only [Option.map_some, Option.some.injEq] at hc
 rw [Array.any_eq_true'] at hc
 obtain ⟨e, he, h⟩ := hc
 simp only [Bool.and_eq_true, beq_iff_eq] at h
 rw [← h.1]
 exact hd e he h.2
section
variable {P : Program}
theorem exec_bslice {w w' : World} (t : TypeId) (n : Nat) (fs : Array (Nat × Operand)) (o : Oper) (ho : o.op = .buildSlice t n fs) (a : Act) (vs : Array (Nat × Value)) (he : (fs.map fun (i, x) => (i, a.eval x)) = vs) (r : Value)
  (hr : (Instr.buildSlice t n vs).run P w = .ok r w') : (execOp a.eval o).run P w = .ok (.value r) w' := by
 subst he
 unfold execOp
 simp only [ho, Sem.run_bind]
 rw [hr]
 rfl
set_option maxRecDepth 100000 in
theorem exec_len81 {w : World} (x : Operand) (o : Oper) (ho : o.op = .call { callee := .builtin .len, args := #[x], argTypes := #[81] }) (a : Act) (A : Option Addr) (c : Nat) (hx : a.eval x = .slice A 16 c) : (execOp a.eval o).run Tryz.prog w = .ok (.value (.int .i64 16)) w := by
 have hl := run_len_slice (P := Tryz.prog) (w := w) 81 o.type A 16 c (by kernel_rfl)
 unfold execOp
 simp [ho, resolve, hx, invoke]
 show (do pure (Next.value (← Builtin.len_ #[81] o.type #[Value.slice A 16 c])) : Sem Next).run Tryz.prog w = _
 simp only [Sem.run_bind, hl]
 rfl
end
theorem info34w : (Tryz.prog.info? 34).map (fun i => (i.zero, i.size, i.bytes)) = some (some (.agg zeroKey), 32, 32) := by kernel_rfl
theorem info46w : (Tryz.prog.info? 46).map (fun i => (i.zero, i.size)) = some (some (.agg zeroDev), 35) ∧ (Tryz.prog.info? 46).map (fun i => decide (i.bytes ≤ 1000)) = some true := by constructor <;> kernel_rfl
theorem made_zero (n : Nat) : (madeCells zeroKey (n * 32)).toList = flatK (List.replicate n key0) := by
 have h2 : flatK (List.replicate n key0) = List.replicate (n * 32) (.int .u8 0) := by
  rw [List.eq_replicate_iff]
  refine ⟨by rw [flatK_len, List.length_replicate], fun b hb => ?_⟩
  unfold flatK at hb
  rw [List.mem_flatMap] at hb
  obtain ⟨k, hk, hb⟩ := hb
  rw [List.mem_replicate] at hk
  rw [hk.2, show encK key0 = List.replicate 32 (.int .u8 0) from rfl, List.mem_replicate] at hb
  exact hb.2
 have hz : zeroKey = (List.replicate 32 (Value.int .u8 0)).toArray := rfl
 rw [h2, List.eq_replicate_iff, hz]
 refine ⟨by simp [madeCells], fun b hb => ?_⟩
 simp [madeCells] at hb
 obtain ⟨x, -, rfl⟩ := hb
 have : x % 32 < 32 := Nat.mod_lt _ (by decide)
 simp [this]
 exact List.getElem_replicate (n := 32) (a := Value.int .u8 0) (i := x % 32) (by simpa using this)
theorem madeK (W : World) (n : Nat) (h0 : 0 < n) (hn : n ≤ 100) : ∃ W', (Instr.makeSlice 41 (.int .i64 n) (.int .i64 n)).run Tryz.prog W = .ok (.slice (some ⟨W.heap.size, 0, none⟩) n n) W' ∧ Below W.heap.size W W' ∧ GK (List.replicate n key0) (.slice (some ⟨W.heap.size, 0, none⟩) n n) W' := by
 have hi := info34w
 obtain ⟨i0, hi0⟩ : ∃ i0, Tryz.prog.info? 34 = some i0 := by
  cases h : Tryz.prog.info? 34 with
  | some i => exact ⟨i, rfl⟩
  | none => rw [h] at hi; cases hi
 rw [hi0] at hi
 simp only [Option.map_some, Option.some.injEq, Prod.mk.injEq] at hi
 obtain ⟨e1, e2, e3⟩ := hi
 obtain ⟨W', h1, h2, h3⟩ := run_makeSlice_full (P := Tryz.prog) (w := W) W.heap.size 41 34 i0 (.agg zeroKey) 32 Tryz.underlying41 hi0 e1 e2 .i64 .i64 n (by omega) (by rw [e3]; omega) (by unfold maxLen; omega) (Nat.le_refl _)
 refine ⟨W', h1, below_grownBy h3, some ⟨W.heap.size, 0, none⟩, n, by rw [List.length_replicate], ?_⟩
 have e : (madeCells (Value.agg zeroKey).cells (n * 32)).toList = flatK (List.replicate n key0) := made_zero n
 rw [e] at h2
 rw [List.length_replicate]
 have h3 : OwnK W' W.heap.size (some ⟨W.heap.size, 0, none⟩) n (List.replicate n key0) := by unfold OwnK; rw [List.length_replicate]; exact h2
 have := h3.src
 rw [List.length_replicate] at this
 exact this
theorem madeD (W : World) : ∃ W', (Instr.makeSlice 40 (.int .i64 9) (.int .i64 9)).run Tryz.prog W = .ok (.slice (some ⟨W.heap.size, 0, none⟩) 9 9) W' ∧ Below W.heap.size W W' ∧ GD (List.replicate 9 dev0) (.slice (some ⟨W.heap.size, 0, none⟩) 9 9) W' := by
 obtain ⟨hi, hj⟩ := info46w
 obtain ⟨i0, hi0⟩ : ∃ i0, Tryz.prog.info? 46 = some i0 := by
  cases h : Tryz.prog.info? 46 with
  | some i => exact ⟨i, rfl⟩
  | none => rw [h] at hi; cases hi
 rw [hi0] at hi hj
 simp only [Option.map_some, Option.some.injEq, Prod.mk.injEq, decide_eq_true_eq] at hi hj
 obtain ⟨e1, e2⟩ := hi
 obtain ⟨W', h1, h2, h3⟩ := run_makeSlice_full (P := Tryz.prog) (w := W) W.heap.size 40 46 i0 (.agg zeroDev) 35 Tryz.underlying40 hi0 e1 e2 .i64 .i64 9 (by omega) (by omega) (by unfold maxLen; omega) (Nat.le_refl _)
 refine ⟨W', h1, below_grownBy h3, some ⟨W.heap.size, 0, none⟩, 9, rfl, ?_, bare_at _ _⟩
 have e : (madeCells (Value.agg zeroDev).cells (9 * 35)).toList = flatD (List.replicate 9 dev0) := by kernel_rfl
 rw [e] at h2
 exact OwnD.src (c := 9) (l := List.replicate 9 dev0) h2
def GAll (v : Value) (w : World) : Prop := ∃ g, v = .slice (some ⟨g, 0, none⟩) 16 16 ∧ ∀ i, i < 16 → ∃ A1 c1 A2 c2, (∀ j u, (bookCells (badB i) A1 c1 A2 c2)[j]? = some u → w.cell? ⟨g, i * 5 + j, none⟩ = some u) ∧ SrcB w (badB i) A1 A2 ∧ Bare A1
theorem GAll.later {v : Value} {w w' : World} (h : GAll v w) (hb : Below w.heap.size w w') : GAll v w' := by
 obtain ⟨g, rfl, h⟩ := h
 refine ⟨g, rfl, fun i hi => ?_⟩
 obtain ⟨A1, c1, A2, c2, h1, h2, h3⟩ := h i hi
 exact ⟨A1, c1, A2, c2, fun j u hj => (hb.cell (World.block_lt_of_cell? w _ (h1 j u hj))).trans (h1 j u hj), h2.later hb, h3⟩
abbrev BkX := Book × Option Addr × Nat × Option Addr × Nat
def bkC (x : BkX) : List Value := bookCells x.1 x.2.1 x.2.2.1 x.2.2.2.1 x.2.2.2.2
theorem rowAll (w : World) (Xs : List BkX) (hl : Xs.length = 16) (hX : ∀ i, i < 16 → ∃ x, Xs[i]? = some x ∧ x.1 = badB i ∧ SrcB w x.1 x.2.1 x.2.2.2.1 ∧ Bare x.2.1) :
  ∃ w', (Instr.buildSlice 81 16 (partsFrom 0 (Xs.map fun x => .agg (bkC x).toArray)).toArray).run Tryz.prog w = .ok (.slice (some ⟨w.heap.size, 0, none⟩) 16 16) w' ∧ Below w.heap.size w w' ∧ GAll (.slice (some ⟨w.heap.size, 0, none⟩) 16 16) w' := by
 have := run_row w 81 43 16 5 (Xs.map fun x => .agg (bkC x).toArray) Tryz.underlying81 (by kernel_rfl) (by simp [hl]) (by omega) (by omega) (fun v hv => by obtain ⟨k, -, rfl⟩ := List.mem_map.1 hv; simp [Value.cells, bkC, bookCells])
 have e : rowOf (Xs.map fun x => .agg (bkC x).toArray) = Xs.flatMap bkC := by
  unfold rowOf
  rw [List.flatMap_map]
  simp [Value.cells]
 rw [e] at this
 have hb := (Below.refl _ w).alloc (Nat.le_refl _) (.cells (Xs.flatMap bkC).toArray 43)
 refine ⟨_, this, hb, _, rfl, fun i hi => ?_⟩
 obtain ⟨x, h1, h2, h3, h4⟩ := hX i hi
 refine ⟨x.2.1, x.2.2.1, x.2.2.2.1, x.2.2.2.2, fun j u hj => ?_, by rw [← h2]; exact h3.later hb, h4⟩
 rw [cell_of_heap (heap_alloc_new w _)]
 have := flatMap_at bkC 5 (fun x => by simp [bkC, bookCells]) Xs i x h1 j u (by unfold bkC; rw [h2]; exact hj)
 simpa using this
theorem src_zb {w : World} (B : Book) (h1 : B.devs = []) (h2 : B.spent = []) : SrcB w B none none := by
 refine ⟨?_, ?_, by rw [h1]; simp, by rw [h2]; simp⟩
 ·rw [h1]; exact src_none
 ·rw [h2]; exact src_none
theorem GB.plain {w : World} (B : Book) (h1 : B.devs = []) (h2 : B.spent = []) : GB B (.agg (bookCells B none 0 none 0).toArray) w := ⟨none, 0, none, 0, rfl, src_zb B h1 h2, bare_none⟩
theorem GB.ofK {w : World} (ks : List Key) (h : ks.length ≤ 100) (A : Option Addr) (c : Nat) (hs : SrcAt w A ks.length 32 (flatK ks)) : GB ⟨0, 0, [], ks, []⟩ (.agg (bookCells ⟨0, 0, [], ks, []⟩ none 0 A c).toArray) w :=
 ⟨none, 0, A, c, rfl, ⟨src_none, hs, by simp, by show ks.length ≤ _; omega⟩, bare_none⟩
theorem GB.ofD {w : World} (ds : List Dev) (h : ds.length ≤ 100) (A : Option Addr) (c : Nat) (hs : SrcAt w A ds.length 35 (flatD ds)) (hb : Bare A) : GB ⟨0, 0, ds, [], []⟩ (.agg (bookCells ⟨0, 0, ds, [], []⟩ A c none 0).toArray) w :=
 ⟨A, c, none, 0, rfl, ⟨hs, src_none, by show ds.length ≤ _; omega, by simp⟩, hb⟩
theorem GB.ofDK {w : World} (ds : List Dev) (h : ds.length ≤ 100) (A : Option Addr) (c : Nat) (hs : SrcAt w A ds.length 35 (flatD ds)) (hb : Bare A) (ks : List Key) (hk : ks.length ≤ 100) (A2 : Option Addr) (c2 : Nat) (hs2 : SrcAt w A2 ks.length 32 (flatK ks)) : GB ⟨0, 0, ds, ks, []⟩ (.agg (bookCells ⟨0, 0, ds, ks, []⟩ A c A2 c2).toArray) w :=
 ⟨A, c, A2, c2, rfl, ⟨hs, hs2, by show ds.length ≤ _; omega, by show ks.length ≤ _; omega⟩, hb⟩
end Go.Proofs.YthnpiimiimiijaaGreatDoor.Dir
end
