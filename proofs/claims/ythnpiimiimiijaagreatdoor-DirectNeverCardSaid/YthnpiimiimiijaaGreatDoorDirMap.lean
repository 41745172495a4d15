/- The map of ops, and what is looked up there. -/
import Derived.Test.YthnpiimiimiijaaGreatDoorDirOps3
import Derived.MapKept
namespace Go.Proofs.YthnpiimiimiijaaGreatDoor.Dir
open Go Go.MapKept Go.RowKit Go.Proofs Go.Proofs.YthnpiimiimiijaaGreatDoorW.PrintWords Go.Proofs.YthnpiimiimiijaaGreatDoorW.PrintLast Go.Proofs.YthnpiimiimiijaaGreatDoorW.PrintMore
set_option linter.unusedVariables false
set_option linter.unusedSimpArgs false

/-- A world in which a block was laid anew. -/
def mset (w : World) (m : Nat) (o : Obj) : World := { w with heap := w.heap.setIfInBounds m o }
theorem mset_at {w : World} {m : Nat} {o o' : Obj} (h : w.heap[m]? = some o) : (mset w m o').heap[m]? = some o' := (heap_set h).1
theorem below_mset {w W : World} {m B : Nat} (h : Below B w W) (hm : B ≤ m) (o : Obj) : Below B w (mset W m o) :=
  ⟨h.os, h.tape, h.output, by simpa [mset] using h.size, fun k hk => by
    rw [← h.block k hk]
    simp [mset, Array.getElem?_setIfInBounds, show ¬ m = k by omega]⟩
theorem run_insert1 (P : Program) (w : World) (t kt et : TypeId) (m clock : Nat) (es : Array MapEntry) (n : Int) (v : Value) (ht : P.underlying t = some (.map kt et)) (hk : P.underlying kt = some (.int .i64)) (hm : w.heap[m]? = some (.map es clock)) (hn : Instr.findNow (.int .i64) (.int .i64 n) es.toList 0 = some none) :
    (Instr.mapUpdate t (.map (some m)) (.int .i64 n) v).run P w = .ok () (mset w m (.map (es.push { key := .int .i64 n, val := v, born := clock }) (clock + 1))) := by
  have h1 := run_checkKey (w := w) (k := .int .i64 n) hk rfl false 9999
  have h2 := run_findKey (w := w) (k := .int .i64 n) hk hn
  have h3 := run_setObj_map (P := P) (.map (es.push { key := .int .i64 n, val := v, born := clock }) (clock + 1)) hm
  have hg : (getObj m).run P w = .ok (.map es clock) w := by simp [getObj, Sem.run, hm]
  simp only [Instr.mapUpdate, Sem.run_bind, run_underlying ht, Result.andThen_ok, hg, h1, h2, h3]
  rfl
theorem wpList_insertK {P : Program} {w : World} {ops : Array Oper} {rest : List Oper} {o : Oper} {a : Act} {Q : Exit → Act → World → Prop} (hgd : o.guard = none) (t : TypeId) (x k v : Operand) (ho : o.op = .insert t x k v) (hd : o.dst = none) (vx vk vv : Value) (hx : a.eval x = vx) (hk : a.eval k = vk) (hv : a.eval v = vv) (w' : World)
    (hr : (Instr.mapUpdate t vx vk vv).run P w = .ok () w') (h : wpList P ops Q rest a w') : wpList P ops Q (o :: rest) a w :=
  wpList_plain hgd fun K hK => by
    unfold Oper.wp execOp
    simp only [ho, Sem.run_bind, Sem.run_pure, hx, hk, hv, hr]
    show K (a.put o.dst undef) w'
    rw [hd]
    exact hK _ _ h
theorem at_insert {P : Program} {ops : Array Oper} {Q : Exit → Act → World → Prop} {rest : List Oper} {a : Act} {w : World} {dst : Option Tmp} {ty : TypeId} {pos : String} {after : Array Edge} {g : Option (Nat × Bool)} (t : TypeId) (x k v : Operand) (h : wpList P ops Q (⟨dst, .insert t x k v, ty, pos, after, g⟩ :: rest) a w) : wpList P ops Q (⟨dst, .insert t x k v, ty, pos, after, g⟩ :: rest) a w := h
def opFn (n : Nat) : Value := .func (.func n) #[] #[]
def opsMap : Array MapEntry := #[⟨.int .i64 1, opFn 80, 0⟩, ⟨.int .i64 2, opFn 81, 1⟩, ⟨.int .i64 3, opFn 82, 2⟩, ⟨.int .i64 4, opFn 83, 3⟩, ⟨.int .i64 5, opFn 84, 4⟩]
set_option maxHeartbeats 2000000 in
set_option maxRecDepth 100000 in
theorem ops_any (w : World) : Calls Tryz.prog 44 #[] w fun e w' => e = .returned (.map (some w.heap.size)) ∧ Below w.heap.size w w' ∧ w'.heap[w.heap.size]? = some (.map opsMap 5) := by
  have hmk : (Instr.makeMap 86 none).run Tryz.prog w = .ok (.map (some w.heap.size)) (w.alloc (.map #[] 0)) := rfl
  have b0 := (Below.refl w.heap.size w).alloc (Nat.le_refl _) (.map #[] 0)
  have h0 := heap_alloc_new w (.map #[] 0)
  obtain ⟨W0, hW0⟩ : ∃ W0, W0 = w.alloc (.map #[] 0) := ⟨_, rfl⟩
  rw [← hW0] at hmk b0 h0
  have r1 := Aside0.mk (run_insert1 Tryz.prog W0 86 3 _ w.heap.size 0 _ 1 (opFn 80) Tryz.underlying86 Tryz.underlying3 h0 rfl)
  have h1 := mset_at (o' := .map (#[].push { key := .int .i64 1, val := opFn 80, born := 0 }) (0 + 1)) h0
  have b1 := below_mset b0 (Nat.le_refl _) (.map (#[].push { key := .int .i64 1, val := opFn 80, born := 0 }) (0 + 1))
  obtain ⟨W1, hW1⟩ : ∃ W1, W1 = mset W0 w.heap.size (.map (#[].push { key := .int .i64 1, val := opFn 80, born := 0 }) (0 + 1)) := ⟨_, rfl⟩
  rw [← hW1] at r1 h1 b1
  have r2 := Aside0.mk (run_insert1 Tryz.prog W1 86 3 _ w.heap.size 1 _ 2 (opFn 81) Tryz.underlying86 Tryz.underlying3 h1 rfl)
  have h2 := mset_at (o' := .map (#[⟨.int .i64 1, opFn 80, 0⟩, ⟨.int .i64 2, opFn 81, 1⟩]) 2) h1
  have b2 := below_mset b1 (Nat.le_refl _) (.map (#[⟨.int .i64 1, opFn 80, 0⟩, ⟨.int .i64 2, opFn 81, 1⟩]) 2)
  obtain ⟨W2, hW2⟩ : ∃ W2, W2 = mset W1 w.heap.size (.map (#[⟨.int .i64 1, opFn 80, 0⟩, ⟨.int .i64 2, opFn 81, 1⟩]) 2) := ⟨_, rfl⟩
  have r2' : (Instr.mapUpdate 86 (.map (some w.heap.size)) (.int .i64 2) (opFn 81)).run Tryz.prog W1 = .ok () W2 := by rw [hW2]; exact r2.out
  rw [← hW2] at h2 b2
  have r3 := run_insert1 Tryz.prog W2 86 3 _ w.heap.size 2 _ 3 (opFn 82) Tryz.underlying86 Tryz.underlying3 h2 rfl
  have h3 := mset_at (o' := .map (#[⟨.int .i64 1, opFn 80, 0⟩, ⟨.int .i64 2, opFn 81, 1⟩, ⟨.int .i64 3, opFn 82, 2⟩]) 3) h2
  have b3 := below_mset b2 (Nat.le_refl _) (.map (#[⟨.int .i64 1, opFn 80, 0⟩, ⟨.int .i64 2, opFn 81, 1⟩, ⟨.int .i64 3, opFn 82, 2⟩]) 3)
  obtain ⟨W3, hW3⟩ : ∃ W3, W3 = mset W2 w.heap.size (.map (#[⟨.int .i64 1, opFn 80, 0⟩, ⟨.int .i64 2, opFn 81, 1⟩, ⟨.int .i64 3, opFn 82, 2⟩]) 3) := ⟨_, rfl⟩
  have r3' : (Instr.mapUpdate 86 (.map (some w.heap.size)) (.int .i64 3) (opFn 82)).run Tryz.prog W2 = .ok () W3 := by rw [hW3]; exact r3
  rw [← hW3] at h3 b3
  have r4 := run_insert1 Tryz.prog W3 86 3 _ w.heap.size 3 _ 4 (opFn 83) Tryz.underlying86 Tryz.underlying3 h3 rfl
  have h4 := mset_at (o' := .map (#[⟨.int .i64 1, opFn 80, 0⟩, ⟨.int .i64 2, opFn 81, 1⟩, ⟨.int .i64 3, opFn 82, 2⟩, ⟨.int .i64 4, opFn 83, 3⟩]) 4) h3
  have b4 := below_mset b3 (Nat.le_refl _) (.map (#[⟨.int .i64 1, opFn 80, 0⟩, ⟨.int .i64 2, opFn 81, 1⟩, ⟨.int .i64 3, opFn 82, 2⟩, ⟨.int .i64 4, opFn 83, 3⟩]) 4)
  obtain ⟨W4, hW4⟩ : ∃ W4, W4 = mset W3 w.heap.size (.map (#[⟨.int .i64 1, opFn 80, 0⟩, ⟨.int .i64 2, opFn 81, 1⟩, ⟨.int .i64 3, opFn 82, 2⟩, ⟨.int .i64 4, opFn 83, 3⟩]) 4) := ⟨_, rfl⟩
  have r4' : (Instr.mapUpdate 86 (.map (some w.heap.size)) (.int .i64 4) (opFn 83)).run Tryz.prog W3 = .ok () W4 := by rw [hW4]; exact r4
  rw [← hW4] at h4 b4
  have r5 := run_insert1 Tryz.prog W4 86 3 _ w.heap.size 4 _ 5 (opFn 84) Tryz.underlying86 Tryz.underlying3 h4 rfl
  have h5 := mset_at (o' := .map opsMap 5) h4
  have b5 := below_mset b4 (Nat.le_refl _) (.map opsMap 5)
  obtain ⟨W5, hW5⟩ : ∃ W5, W5 = mset W4 w.heap.size (.map opsMap 5) := ⟨_, rfl⟩
  have r5' : (Instr.mapUpdate 86 (.map (some w.heap.size)) (.int .i64 5) (opFn 84)).run Tryz.prog W4 = .ok () W5 := by rw [hW5]; exact r5
  rw [← hW5] at h5 b5
  have R2 := Aside0.mk r2'
  have R3 := Aside0.mk r3'
  have R4 := Aside0.mk r4'
  have R5 := Aside0.mk r5'
  have H5 := Aside0.mk (And.intro b5 h5)
  clear r2 r2' r3 r3' r4 r4' r5 r5' h0 h1 h2 h3 h4 h5 b0 b1 b2 b3 b4 b5 hW0 hW1 hW2 hW3 hW4 hW5
  go_enter Tryz.func44, Tryz.ntmps44
  go_wp2_with (first
    | ((with_reducible refine at_insert 86 (.tmp 1) (.const (.int .i64 1)) (.func 80) ?_); refine wpList_insertK rfl 86 (.tmp 1) (.const (.int .i64 1)) (.func 80) rfl rfl _ _ _ rfl rfl rfl _ r1.out ?_)
    | ((with_reducible refine at_insert 86 (.tmp 1) (.const (.int .i64 2)) (.func 81) ?_); refine wpList_insertK rfl 86 (.tmp 1) (.const (.int .i64 2)) (.func 81) rfl rfl _ _ _ rfl rfl rfl _ R2.out ?_)
    | ((with_reducible refine at_insert 86 (.tmp 1) (.const (.int .i64 3)) (.func 82) ?_); refine wpList_insertK rfl 86 (.tmp 1) (.const (.int .i64 3)) (.func 82) rfl rfl _ _ _ rfl rfl rfl _ R3.out ?_)
    | ((with_reducible refine at_insert 86 (.tmp 1) (.const (.int .i64 4)) (.func 83) ?_); refine wpList_insertK rfl 86 (.tmp 1) (.const (.int .i64 4)) (.func 83) rfl rfl _ _ _ rfl rfl rfl _ R4.out ?_)
    | ((with_reducible refine at_insert 86 (.tmp 1) (.const (.int .i64 5)) (.func 84) ?_); refine wpList_insertK rfl 86 (.tmp 1) (.const (.int .i64 5)) (.func 84) rfl rfl _ _ _ rfl rfl rfl _ R5.out ?_))
  go_ret
  exact ⟨rfl, H5.out.1, H5.out.2⟩
/-- What the map has for a kind. -/
def opFound (k : Int) : Option Value := if k = 1 then some (opFn 80) else if k = 2 then some (opFn 81) else if k = 3 then some (opFn 82) else if k = 4 then some (opFn 83) else if k = 5 then some (opFn 84) else none
def opRes (k : Int) : Value := match opFound k with | some v => .tuple #[v, .bool true] | none => .tuple #[.nilFunc, .bool false]
theorem find_ops (k : Int) : ∃ r, Instr.findNow (.int .i64) (.int .i64 k) opsMap.toList 0 = some r ∧ r.map (·.2) = opFound k := by
  unfold opFound
  by_cases h1 : k = 1
  · subst h1; exact ⟨_, rfl, rfl⟩
  · by_cases h2 : k = 2
    · subst h2; exact ⟨_, rfl, rfl⟩
    · by_cases h3 : k = 3
      · subst h3; exact ⟨_, rfl, rfl⟩
      · by_cases h4 : k = 4
        · subst h4; exact ⟨_, rfl, rfl⟩
        · by_cases h5 : k = 5
          · subst h5; exact ⟨_, rfl, rfl⟩
          · refine ⟨none, ?_, ?_⟩
            · have q1 : (k == 1) = false := by simpa using h1
              have q2 : (k == 2) = false := by simpa using h2
              have q3 : (k == 3) = false := by simpa using h3
              have q4 : (k == 4) = false := by simpa using h4
              have q5 : (k == 5) = false := by simpa using h5
              simp only [opsMap, Instr.findNow, Instr.sameNow, if_true, q1, q2, q3, q4, q5]
            · simp [h1, h2, h3, h4, h5]
theorem run_lookup (w : World) (m : Nat) (k : Int) (hm : w.heap[m]? = some (.map opsMap 5)) : (Instr.lookup 86 (.map (some m)) (.int .i64 k) true).run Tryz.prog w = .ok (opRes k) w := by
  obtain ⟨r, hr, he⟩ := find_ops k
  have h1 := run_checkKey (w := w) (k := .int .i64 k) Tryz.underlying3 rfl opsMap.isEmpty 9999
  have h2 := run_findKey (w := w) (k := .int .i64 k) Tryz.underlying3 hr
  have hg : (getObj m).run Tryz.prog w = .ok (.map opsMap 5) w := by simp [getObj, Sem.run, hm]
  unfold opRes
  rw [← he]
  simp only [Instr.lookup, Sem.run_bind, run_underlying Tryz.underlying86, Result.andThen_ok, hg, h1, h2, Sem.run_pure]
  cases r with
  | none => simp [Tryz.zeroValue85]
  | some p => simp
end Go.Proofs.YthnpiimiimiijaaGreatDoor.Dir
