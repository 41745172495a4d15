/- Loads and stores of values of many cells, as one step of a walk: no program's text in sight. -/
import Derived.Test.YthnpiimiimiijaaGreatDoorDirCopy
import Derived.Deep.WholeRow
import Derived.Laws.Externs
import Derived.Test.YthnpiimiimiijaaGreatDoorWRest
set_option linter.unusedVariables false
set_option linter.unusedSimpArgs false
namespace Go.Proofs.YthnpiimiimiijaaGreatDoor.Dir
open Go Go.RowKit Go.Proofs.YthnpiimiimiijaaGreatDoorW.PrintWords Go.Proofs.YthnpiimiimiijaaGreatDoorW.PrintLast Go.Proofs.YthnpiimiimiijaaGreatDoorW.PrintMore
variable {P : Program} {w : World}

theorem add_at (b o j : Nat) : (⟨b, o, none⟩ : Addr).add j = ⟨b, o + j, none⟩ := by unfold Addr.add; split <;> simp_all
theorem run_loadK (P : Program) (W : World) (a : Addr) (cs : List Value) (k : Nat) (hk : cs.length = k) (h : ∀ j v, cs[j]? = some v → W.cell? (a.add j) = some v) :
    Sem.run P (loadCellsFrom a 0 k #[]) W = .ok cs.toArray W := by
  have := run_loadCells_list (P := P) (w := W) a cs h
  rw [hk] at this
  simpa [loadCells] using this
/-- A value of k cells is loaded. -/
theorem run_loadAtK (P : Program) (w : World) (t : TypeId) (k : Nat) (hA : ∀ w, (isAgg t).run P w = .ok true w) (hz : ∀ w, (Go.sizeOf t).run P w = .ok k w) (b o : Nat) (cs : List Value) (hk : cs.length = k)
    (h : ∀ j v, cs[j]? = some v → w.cell? ⟨b, o + j, none⟩ = some v) : (Instr.loadAt t (.pointer (some ⟨b, o, none⟩))).run P w = .ok (.agg cs.toArray) w := by
  have := run_loadCells_list (P := P) (w := w) ⟨b, o, none⟩ cs (fun j v hj => by rw [add_at]; exact h j v hj)
  rw [hk] at this
  simp only [Instr.loadAt, Instr.sureAddr, loadVar, Sem.run_bind, Sem.run_pure, Result.andThen_ok, hA, hz, if_true, this]
theorem execOp_load (t : TypeId) (x : Operand) (o : Oper) (ho : o.op = .load t x) (a : Act) : (execOp a.eval o).run P w = ((Instr.loadAt t (a.eval x)).run P w).andThen fun v w' => .ok (.value v) w' := by
  unfold execOp
  simp only [ho, Sem.run_bind, Sem.run_pure]
theorem execOp_store (t : TypeId) (x v : Operand) (o : Oper) (ho : o.op = .store t x v) (a : Act) : (execOp a.eval o).run P w = ((Instr.storeAt t (a.eval x) (a.eval v)).run P w).andThen fun _ w' => .ok .skip w' := by
  unfold execOp
  simp only [ho, Sem.run_bind, Sem.run_pure]
theorem wp_loadK {o : Oper} {a : Act} {K : Act → World → Prop} {Q : Exit → Act → World → Prop} (t : TypeId) (x : Operand) (ho : o.op = .load t x) (p : Value) (hx : a.eval x = p) (v : Value)
    (hr : (Instr.loadAt t p).run P w = .ok v w) (h : K (a.put o.dst v) w) : o.wp P a w K Q := by
  unfold Oper.wp
  rw [execOp_load t x o ho, hx, hr]
  exact h
theorem wpList_loadK {ops : Array Oper} {rest : List Oper} {o : Oper} {a : Act} {Q : Exit → Act → World → Prop} (hgd : o.guard = none) (t : TypeId) (x : Operand) (ho : o.op = .load t x) (p : Value) (hx : a.eval x = p) (v : Value)
    (hr : (Instr.loadAt t p).run P w = .ok v w) (h : wpList P ops Q rest (a.put o.dst v) w) : wpList P ops Q (o :: rest) a w :=
  wpList_plain hgd fun K hK => wp_loadK t x ho p hx v hr (hK _ _ h)
/-- The same where the operation has a guard that lets it be. -/
theorem wpList_loadW {ops : Array Oper} {rest : List Oper} {o : Oper} {a : Act} {Q : Exit → Act → World → Prop} (hw : Region.wanted o (yielded ops a.tmps) = true) (t : TypeId) (x : Operand) (ho : o.op = .load t x) (p : Value) (hx : a.eval x = p) (v : Value)
    (hr : (Instr.loadAt t p).run P w = .ok v w) (h : wpList P ops Q rest (a.put o.dst v) w) : wpList P ops Q (o :: rest) a w := by
  exact wpList_step fun K hK => by rw [if_pos hw]; exact wp_loadK t x ho p hx v hr (hK _ _ h)
/-- A value of k cells is stored: the block's cells behind it. -/
theorem run_storeAtK (P : Program) (w : World) (t : TypeId) (k : Nat) (hz : ∀ w, (Go.sizeOf t).run P w = .ok k w) (g off : Nat) (cs : List Value) (hk : cs.length = k) (h1 : ∀ v ∈ cs, v.oneCell' = true)
    (cur : List Value) (T : TypeId) (hg : w.heap[g]? = some (.cells cur.toArray T (0, 0))) (hfit : off + k ≤ cur.length) :
    (Instr.storeAt t (.pointer (some ⟨g, off, none⟩)) (.agg cs.toArray)).run P w = .ok () (w.setRow g (splice cur off cs).toArray) := by
  have hst := run_storeCells_at P g off T cs 0 cur.toArray w hg (by simp; omega) h1
  simp only [Instr.storeAt, Instr.sureAddr, storeVar, Sem.run_bind, Sem.run_pure, Result.andThen_ok, hz, Value.cells, List.size_toArray, hk]
  simp only [ne_eq, not_true_eq_false, if_false, Sem.run_pure, Result.andThen_ok]
  simpa [splice] using hst
theorem wp_storeK {o : Oper} {a : Act} {K : Act → World → Prop} {Q : Exit → Act → World → Prop} (t : TypeId) (x y : Operand) (ho : o.op = .store t x y) (hd : o.dst = none) (p v : Value) (hx : a.eval x = p) (hy : a.eval y = v) (w' : World)
    (hr : (Instr.storeAt t p v).run P w = .ok () w') (h : K a w') : o.wp P a w K Q := by
  unfold Oper.wp
  rw [execOp_store t x y o ho, hx, hy, hr]
  show K (a.put o.dst undef) w'
  rw [hd]
  exact h
theorem wpList_storeK {ops : Array Oper} {rest : List Oper} {o : Oper} {a : Act} {Q : Exit → Act → World → Prop} (hgd : o.guard = none) (t : TypeId) (x y : Operand) (ho : o.op = .store t x y) (hd : o.dst = none) (p v : Value) (hx : a.eval x = p) (hy : a.eval y = v) (w' : World)
    (hr : (Instr.storeAt t p v).run P w = .ok () w') (h : wpList P ops Q rest a w') : wpList P ops Q (o :: rest) a w :=
  wpList_plain hgd fun K hK => wp_storeK t x y ho hd p v hx hy w' hr (hK _ _ h)
/-- A value is stored into a variable that was made just now. -/
theorem run_storeNew (P : Program) (w : World) (t : TypeId) (k : Nat) (hi : (P.info? t).map (·.size) = some k) (c c' : Array Value) (hc : c.size = k) (hc' : c'.size = k) (h1 : ∀ v ∈ c'.toList, v.oneCell' = true) :
    (Instr.storeAt t (.pointer (some ⟨w.heap.size, 0, none⟩)) (.agg c')).run P (w.alloc (.cells c t)) = .ok () (w.alloc (.cells c' t)) :=
  run_storeAt_new w t c c' (by rw [hi, hc']) (by rw [hc, hc']) (by rw [Array.all_eq_true_iff_forall_mem]; intro v hv; exact h1 v (by simpa using hv))
/-- A value is boxed: it lies in a block of its own. -/
theorem held_new (w : World) (cs : List Value) (t : TypeId) : (w.alloc (.cells cs.toArray t)).heap[w.heap.size]? = some (.cells cs.toArray t (0, 0)) := heap_alloc_new w _
theorem cells_of_heap {b : Nat} {cs : List Value} {T : TypeId} {fr : Nat × Nat} (h : w.heap[b]? = some (.cells cs.toArray T fr)) : ∀ j v, cs[j]? = some v → w.cell? ⟨b, 0 + j, none⟩ = some v := fun j v hj => by
  rw [Nat.zero_add, cell_of_heap h]; exact hj

/-! ### regions that draw their order -/
theorem yields_load (t : TypeId) (x : Operand) (o : Oper) (ho : o.op = .load t x) (a : Act) (p : Value) (hx : a.eval x = p) (v : Value) (hr : (Instr.loadAt t p).run P w = .ok v w) : (execOp a.eval o).run P w = .ok (.value v) w := by
  rw [execOp_load t x o ho, hx, hr]
  rfl
theorem runs_store (t : TypeId) (x y : Operand) (o : Oper) (ho : o.op = .store t x y) (a : Act) (p v : Value) (hx : a.eval x = p) (hy : a.eval y = v) (w' : World) (hr : (Instr.storeAt t p v).run P w = .ok () w') : (execOp a.eval o).run P w = .ok .skip w' := by
  rw [execOp_store t x y o ho, hx, hy, hr]
  rfl
theorem goesv_ {ops : Array Oper} {oi : Oper} {N : Option Tmp} {a : Act} {w : World} {K : Act → World → Prop} {Q : Exit → Act → World → Prop} {f : FuncId} {fn : Func} {as : Array Operand} {ts : Array TypeId} {cx : Operand} (hf : P.funcs[f]? = some fn) (hname : (fn.name == "runtime.NumGoroutine") = false) (hb : fn.body.isSome = true) (args : Array Value)
    (hw : Region.wanted oi (yielded ops a.tmps) = true) (hN : oi.dst = N) (hop : oi.op = .call { callee := .value cx, args := as, argTypes := ts }) (hcx : a.eval cx = .func (.func f) #[] #[]) (hargs : as.map a.eval = args)
    (h : Calls P f args w fun e w' => ∃ v, e = .returned v ∧ K (a.put N v) w') : if Region.wanted oi (yielded ops a.tmps) = true then Oper.wp P oi a w K Q else K (a.put N undef) w := by
  refine call_ f args hw hN ?_ h
  have he := enters_ hf hname hb args w
  unfold execOp
  simp [hop, hcx, resolve, Deferred.ofValue, invoke, hargs, he]
theorem store_ {ops : Array Oper} {oi : Oper} {N : Option Tmp} {a : Act} {w w1 : World} {K : Act → World → Prop} {Q : Exit → Act → World → Prop} (hw : Region.wanted oi (yielded ops a.tmps) = true) (hN : oi.dst = N) (hrun : (execOp a.eval oi).run P w = .ok .skip w1)
    (h : K (a.put N undef) w1) : if Region.wanted oi (yielded ops a.tmps) = true then Oper.wp P oi a w K Q else K (a.put N undef) w := by
  rw [if_pos hw]
  subst hN
  unfold Oper.wp
  rw [hrun]
  exact h
end Go.Proofs.YthnpiimiimiijaaGreatDoor.Dir
