/- Values that are built: a slice of one value of many cells, a device. -/
import Derived.Test.YthnpiimiimiijaaGreatDoorDirOps
namespace Go.Proofs.YthnpiimiimiijaaGreatDoor.Dir
open Go Go.RowKit Go.Proofs Go.Proofs.YthnpiimiimiijaaGreatDoorW.PrintWords Go.Proofs.YthnpiimiimiijaaGreatDoorW.PrintLast Go.Proofs.YthnpiimiimiijaaGreatDoorW.PrintMore
set_option linter.unusedVariables false
set_option linter.unusedSimpArgs false

/-! Guards: the operation at hand, by looking. -/
section
variable {P : Program} {ops : Array Oper} {Q : Exit → Act → World → Prop} {rest : List Oper} {a : Act} {w : World} {dst : Option Tmp} {ty : TypeId} {pos : String} {after : Array Edge} {g : Option (Nat × Bool)}
theorem at_load (t : TypeId) (x : Operand) (h : wpList P ops Q (⟨dst, .load t x, ty, pos, after, g⟩ :: rest) a w) : wpList P ops Q (⟨dst, .load t x, ty, pos, after, g⟩ :: rest) a w := h
theorem at_store (t : TypeId) (x y : Operand) (h : wpList P ops Q (⟨dst, .store t x y, ty, pos, after, g⟩ :: rest) a w) : wpList P ops Q (⟨dst, .store t x y, ty, pos, after, g⟩ :: rest) a w := h
theorem at_bslice (t : TypeId) (x : Operand) (h : wpList P ops Q (⟨dst, .buildSlice t 1 #[(0, x)], ty, pos, after, g⟩ :: rest) a w) : wpList P ops Q (⟨dst, .buildSlice t 1 #[(0, x)], ty, pos, after, g⟩ :: rest) a w := h
end
theorem foldl_set (off : Nat) : ∀ (cs : List Value) (s : Nat) (cells : Array Value), off + s + cs.length ≤ cells.size →
    (cs.zipIdx s).foldl (fun (a : Array Value) (p : Value × Nat) => a.setIfInBounds (off + p.2) p.1) cells = (cells.toList.take (off + s) ++ cs ++ cells.toList.drop (off + s + cs.length)).toArray
  | [], s, cells, _ => by simp
  | c :: cs, s, cells, h => by
    have hl : off + s + (cs.length + 1) ≤ cells.toList.length := by simpa using h
    rw [List.zipIdx_cons, List.foldl_cons, foldl_set off cs (s + 1) _ (by simp at h ⊢; omega)]
    have e := list_seg_step cells.toList (off + s) c cs hl
    simp only [Array.toList_setIfInBounds]
    rw [show off + (s + 1) = off + s + 1 by omega, e]
    rfl
theorem fill_cons (place : Nat → Option (Nat × Nat)) (cells : Array Value) (i : Nat) (v : Value) (rest : List (Nat × Value)) (off size : Nat) (hp : place i = some (off, size)) (hv : v.cells.size = size) (hf : off + size ≤ cells.size) :
    Instr.fill place cells ((i, v) :: rest) = Instr.fill place (splice cells.toList off v.cells.toList).toArray rest := by
  have h0 : (v.cells.zipIdx.foldl (fun cs (x : Value × Nat) => cs.setIfInBounds (off + x.2) x.1) cells) = (splice cells.toList off v.cells.toList).toArray := by
    rw [← Array.foldl_toList, Array.toList_zipIdx]
    have := foldl_set off v.cells.toList 0 cells (by simp [hv]; omega)
    simp only [Nat.add_zero] at this
    rw [this]
    simp [splice]
  simp only [Instr.fill, hp]
  rw [if_neg (by simp [hv]; omega)]
  exact congrArg (fun a => Instr.fill place a rest) h0
theorem splice_whole (cur cs : List Value) (h : cur.length = cs.length) : splice cur 0 cs = cs := by
  unfold splice
  rw [List.take_zero, List.drop_eq_nil_of_le (by omega)]
  simp
/-- A slice of one value. -/
theorem run_buildSlice1 (P : Program) (w : World) (t elem : TypeId) (k : Nat) (Z : Array Value) (ht : P.underlying t = some (.slice elem)) (hz : ∀ w, (Go.sizeOf elem).run P w = .ok k w) (hv : ∀ w, (zeroValue elem).run P w = .ok (.agg Z) w) (hk : 0 < k) (hk2 : k ≤ 1000) (cs : List Value) (hl : cs.length = k) :
    (Instr.buildSlice t 1 #[(0, .agg cs.toArray)]).run P w = .ok (.slice (some ⟨w.heap.size, 0, none⟩) 1 1) (w.alloc (.cells cs.toArray elem)) := by
  have hfill : Instr.fill (fun i => some (i * k, k)) ((Array.range (1 * k)).map (Z[· % Z.size]!)) [(0, .agg cs.toArray)] = some cs.toArray := by
    rw [fill_cons _ _ 0 _ _ (0 * k) k rfl (by simpa [Value.cells] using hl) (by simp)]
    simp only [Instr.fill, Nat.zero_mul]
    rw [splice_whole _ _ (by simp [Value.cells, hl])]
    simp [Value.cells]
  have h1 : ¬ (1 * k > 2 ^ 24) := by omega
  have h2 : ¬ (1 * k = 0) := by omega
  simp only [Instr.buildSlice, Sem.run_bind, run_underlying ht, Result.andThen_ok, hz, h1, h2, if_false, Sem.run_pure, hv, Value.cells]
  rw [hfill]
  simp [newRow, newObj]
  rfl
theorem execOp_buildSlice (P : Program) (w : World) (t : TypeId) (x : Operand) (o : Oper) (ho : o.op = .buildSlice t 1 #[(0, x)]) (a : Act) (v : Value) (hx : a.eval x = v) (r : Value) (w' : World) (hr : (Instr.buildSlice t 1 #[(0, v)]).run P w = .ok r w') : (execOp a.eval o).run P w = .ok (.value r) w' := by
  unfold execOp
  simp only [ho, Sem.run_bind]
  simp [hx, hr]
theorem wpList_buildSlice1 {P : Program} {w : World} {ops : Array Oper} {rest : List Oper} {o : Oper} {a : Act} {Q : Exit → Act → World → Prop} (hgd : o.guard = none) (t : TypeId) (x : Operand) (ho : o.op = .buildSlice t 1 #[(0, x)]) (v : Value) (hx : a.eval x = v) (r : Value) (w' : World)
    (hr : (Instr.buildSlice t 1 #[(0, v)]).run P w = .ok r w') (h : wpList P ops Q rest (a.put o.dst r) w') : wpList P ops Q (o :: rest) a w :=
  wpList_plain hgd fun K hK => by
    unfold Oper.wp
    rw [execOp_buildSlice P w t x o ho a v hx r w' hr]
    exact hK _ _ h
theorem buildK (w : World) (k : Key) : (Instr.buildSlice 41 1 #[(0, .agg (encK k).toArray)]).run Tryz.prog w = .ok (.slice (some ⟨w.heap.size, 0, none⟩) 1 1) (w.alloc (.cells (encK k).toArray 34)) :=
  run_buildSlice1 Tryz.prog w 41 34 32 _ Tryz.underlying41 Tryz.sizeOf34 Tryz.zeroValue34 (by decide) (by decide) _ (encK_len k)
theorem buildD (w : World) (d : Dev) : (Instr.buildSlice 40 1 #[(0, .agg (encD d).toArray)]).run Tryz.prog w = .ok (.slice (some ⟨w.heap.size, 0, none⟩) 1 1) (w.alloc (.cells (encD d).toArray 46)) :=
  run_buildSlice1 Tryz.prog w 40 46 35 _ Tryz.underlying40 Tryz.sizeOf46 Tryz.zeroValue46 (by decide) (by decide) _ (encD_len d)
end Go.Proofs.YthnpiimiimiijaaGreatDoor.Dir
