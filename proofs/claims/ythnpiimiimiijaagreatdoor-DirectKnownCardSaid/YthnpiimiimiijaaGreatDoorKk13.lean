/- The map of ops, and what is looked up there. -/
import Derived.Test.YthnpiimiimiijaaGreatDoorKk12
import Derived.MapKept
section
namespace Go.Proofs.YthnpiimiimiijaaGreatDoor.Dir
open Go Go.MapKept Go.RowKit Go.Proofs Go.Proofs.YthnpiimiimiijaaGreatDoorW.PrintWords Go.Proofs.YthnpiimiimiijaaGreatDoorW.PrintLast Go.Proofs.YthnpiimiimiijaaGreatDoorW.PrintMore
set_option linter.unusedVariables false
set_option linter.unusedSimpArgs false
def mset (w : World) (m : Nat) (o : Obj) : World := { w with heap := w.heap.setIfInBounds m o }
theorem mset_at {w : World} {m : Nat} {o o' : Obj} (h : w.heap[m]? = some o) : (mset w m o').heap[m]? = some o' := (heap_set h).1
theorem below_mset {w W : World} {m B : Nat} (h : Below B w W) (hm : B ≤ m) (o : Obj) : Below B w (mset W m o) :=
 ⟨h.os, h.tape, h.output, by simpa [mset] using h.size, fun k hk => by
  rw [← h.block k hk]
  simp [mset, Array.getElem?_setIfInBounds, show ¬ m = k by omega]⟩
theorem run_insert1 (P : Program) (w : World) (t kt et : TypeId) (m clock : Nat) (es : Array MapEntry) (n : Int) (v : Value) (ht : P.underlying t = some (.map kt et)) (hk : P.underlying kt = some (.int .i64)) (hm : w.heap[m]? = some (.map es clock)) (hn : Instr.findNow (.int .i64) (.int .i64 n) es.toList 0 = some none) :
  (Instr.mapUpdate t (.map (some m)) (.int .i64 n) v).run P w = .ok () (mset w m (.map (es.push { key := .int .i64 n, val := v, born := clock }) (clock + 1))) := by
 have h1 := run_checkKey (w := w) (k := .int .i64 n) hk rfl false 9999
 have h2 := run_findKey (w := w) (k := .int .i64 n) hk hn
 have h3 := run_setObj_map (P := P) (.map (es.push { key := .int .i64 n, val := v, born := clock }) (clock + 1)) hm
 have hg : (getObj m).run P w = .ok (.map es clock) w := by simp [getObj, Sem.run, hm]
 simp only [Instr.mapUpdate, Sem.run_bind, run_underlying ht, Result.andThen_ok, hg, h1, h2, h3]
 rfl
theorem wpList_insertK {P : Program} {w : World} {ops : Array Oper} {rest : List Oper} {o : Oper} {a : Act} {Q : Exit → Act → World → Prop} (hgd : o.guard = none) (t : TypeId) (x k v : Operand) (ho : o.op = .insert t x k v) (hd : o.dst = none) (vx vk vv : Value) (hx : a.eval x = vx) (hk : a.eval k = vk) (hv : a.eval v = vv) (w' : World)
  (hr : (Instr.mapUpdate t vx vk vv).run P w = .ok () w') (h : wpList P ops Q rest a w') : wpList P ops Q (o :: rest) a w :=
 wpList_plain hgd fun K hK => by
  unfold Oper.wp execOp
  simp only [ho, Sem.run_bind, Sem.run_pure, hx, hk, hv, hr]
  show K (a.put o.dst undef) w'
  rw [hd]
  exact hK _ _ h
theorem at_insert {P : Program} {ops : Array Oper} {Q : Exit → Act → World → Prop} {rest : List Oper} {a : Act} {w : World} {dst : Option Tmp} {ty : TypeId} {pos : String} {after : Array Edge} {g : Option (Nat × Bool)} (t : TypeId) (x k v : Operand) (h : wpList P ops Q (⟨dst, .insert t x k v, ty, pos, after, g⟩ :: rest) a w) : wpList P ops Q (⟨dst, .insert t x k v, ty, pos, after, g⟩ :: rest) a w := h
def opFn (n : Nat) : Value := .func (.func n) #[] #[]
def opsMap : Array MapEntry := #[⟨.int .i64 1, opFn 80, 0⟩, ⟨.int .i64 2, opFn 81, 1⟩, ⟨.int .i64 3, opFn 82, 2⟩, ⟨.int .i64 4, opFn 83, 3⟩, ⟨.int .i64 5, opFn 84, 4⟩]
set_option maxHeartbeats 2000000 in
set_option maxRecDepth 100000 in
theorem ops_any (w : World) : Calls Tryz.prog 44 #[] w fun e w' => e = .returned (.map (some w.heap.size)) ∧ Below w.heap.size w w' ∧ w'.heap[w.heap.size]? = some (.map opsMap 5) := by
 have hmk : (Instr.makeMap 86 none).run Tryz.prog w = .ok (.map (some w.heap.size)) (w.alloc (.map #[] 0)) := rfl
 have b0 := (Below.refl w.heap.size w).alloc (Nat.le_refl _) (.map #[] 0)
 have h0 := heap_alloc_new w (.map #[] 0)
 obtain ⟨W0, hW0⟩ : ∃ W0, W0 = w.alloc (.map #[] 0) := ⟨_, rfl⟩
 rw [← hW0] at hmk b0 h0
 have r1 := Aside0.mk (run_insert1 Tryz.prog W0 86 3 _ w.heap.size 0 _ 1 (opFn 80) Tryz.underlying86 Tryz.underlying3 h0 rfl)
 have h1 := mset_at (o' := .map (#[].push { key := .int .i64 1, val := opFn 80, born := 0 }) (0 + 1)) h0
 have b1 := below_mset b0 (Nat.le_refl _) (.map (#[].push { key := .int .i64 1, val := opFn 80, born := 0 }) (0 + 1))
 obtain ⟨W1, hW1⟩ : ∃ W1, W1 = mset W0 w.heap.size (.map (#[].push { key := .int .i64 1, val := opFn 80, born := 0 }) (0 + 1)) := ⟨_, rfl⟩
 rw [← hW1] at r1 h1 b1
 have r2 := Aside0.mk (run_insert1 Tryz.prog W1 86 3 _ w.heap.size 1 _ 2 (opFn 81) Tryz.underlying86 Tryz.underlying3 h1 rfl)
 have h2 := mset_at (o' := .map (#[⟨.int .i64 1, opFn 80, 0⟩, ⟨.int .i64 2, opFn 81, 1⟩]) 2) h1
 have b2 := below_mset b1 (Nat.le_refl _) (.map (#[⟨.int .i64 1, opFn 80, 0⟩, ⟨.int .i64 2, opFn 81, 1⟩]) 2)
 obtain ⟨W2, hW2⟩ : ∃ W2, W2 = mset W1 w.heap.size (.map (#[⟨.int .i64 1, opFn 80, 0⟩, ⟨.int .i64 2, opFn 81, 1⟩]) 2) := ⟨_, rfl⟩
 have r2' : (Instr.mapUpdate 86 (.map (some w.heap.size)) (.int .i64 2) (opFn 81)).run Tryz.prog W1 = .ok () W2 := by rw [hW2]; exact r2.out
 rw [← hW2] at h2 b2
 have r3 := run_insert1 Tryz.prog W2 86 3 _ w.heap.size 2 _ 3 (opFn 82) Tryz.underlying86 Tryz.underlying3 h2 rfl
 have h3 := mset_at (o' := .map (#[⟨.int .i64 1, opFn 80, 0⟩, ⟨.int .i64 2, opFn 81, 1⟩, ⟨.int .i64 3, opFn 82, 2⟩]) 3) h2
 have b3 := below_mset b2 (Nat.le_refl _) (.map (#[⟨.int .i64 1, opFn 80, 0⟩, ⟨.int .i64 2, opFn 81, 1⟩, ⟨.int .i64 3, opFn 82, 2⟩]) 3)
 obtain ⟨W3, hW3⟩ : ∃ W3, W3 = mset W2 w.heap.size (.map (#[⟨.int .i64 1, opFn 80, 0⟩, ⟨.int .i64 2, opFn 81, 1⟩, ⟨.int .i64 3, opFn 82, 2⟩]) 3) := ⟨_, rfl⟩
 have r3' : (Instr.mapUpdate 86 (.map (some w.heap.size)) (.int .i64 3) (opFn 82)).run Tryz.prog W2 = .ok () W3 := by rw [hW3]; exact r3
 rw [← hW3] at h3 b3
 have r4 := run_insert1 Tryz.prog W3 86 3 _ w.heap.size 3 _ 4 (opFn 83) Tryz.underlying86 Tryz.underlying3 h3 rfl
 have h4 := mset_at (o' := .map (#[⟨.int .i64 1, opFn 80, 0⟩, ⟨.int .i64 2, opFn 81, 1⟩, ⟨.int .i64 3, opFn 82, 2⟩, ⟨.int .i64 4, opFn 83, 3⟩]) 4) h3
 have b4 := below_mset b3 (Nat.le_refl _) (.map (#[⟨.int .i64 1, opFn 80, 0⟩, ⟨.int .i64 2, opFn 81, 1⟩, ⟨.int .i64 3, opFn 82, 2⟩, ⟨.int .i64 4, opFn 83, 3⟩]) 4)
 obtain ⟨W4, hW4⟩ : ∃ W4, W4 = mset W3 w.heap.size (.map (#[⟨.int .i64 1, opFn 80, 0⟩, ⟨.int .i64 2, opFn 81, 1⟩, ⟨.int .i64 3, opFn 82, 2⟩, ⟨.int .i64 4, opFn 83, 3⟩]) 4) := ⟨_, rfl⟩
 have r4' : (Instr.mapUpdate 86 (.map (some w.heap.size)) (.int .i64 4) (opFn 83)).run Tryz.prog W3 = .ok () W4 := by rw [hW4]; exact r4
 rw [← hW4] at h4 b4
 have r5 := run_insert1 Tryz.prog W4 86 3 _ w.heap.size 4 _ 5 (opFn 84) Tryz.underlying86 Tryz.underlying3 h4 rfl
 have h5 := mset_at (o' := .map opsMap 5) h4
 have b5 := below_mset b4 (Nat.le_refl _) (.map opsMap 5)
 obtain ⟨W5, hW5⟩ : ∃ W5, W5 = mset W4 w.heap.size (.map opsMap 5) := ⟨_, rfl⟩
 have r5' : (Instr.mapUpdate 86 (.map (some w.heap.size)) (.int .i64 5) (opFn 84)).run Tryz.prog W4 = .ok () W5 := by rw [hW5]; exact r5
 rw [← hW5] at h5 b5
 have R2 := Aside0.mk r2'
 have R3 := Aside0.mk r3'
 have R4 := Aside0.mk r4'
 have R5 := Aside0.mk r5'
 have H5 := Aside0.mk (And.intro b5 h5)
 clear r2 r2' r3 r3' r4 r4' r5 r5' h0 h1 h2 h3 h4 h5 b0 b1 b2 b3 b4 b5 hW0 hW1 hW2 hW3 hW4 hW5
 go_enter Tryz.func44, Tryz.ntmps44
 go_wp2_with (first
  | ((with_reducible refine at_insert 86 (.tmp 1) (.const (.int .i64 1)) (.func 80) ?_); refine wpList_insertK rfl 86 (.tmp 1) (.const (.int .i64 1)) (.func 80) rfl rfl _ _ _ rfl rfl rfl _ r1.out ?_)
  | ((with_reducible refine at_insert 86 (.tmp 1) (.const (.int .i64 2)) (.func 81) ?_); refine wpList_insertK rfl 86 (.tmp 1) (.const (.int .i64 2)) (.func 81) rfl rfl _ _ _ rfl rfl rfl _ R2.out ?_)
  | ((with_reducible refine at_insert 86 (.tmp 1) (.const (.int .i64 3)) (.func 82) ?_); refine wpList_insertK rfl 86 (.tmp 1) (.const (.int .i64 3)) (.func 82) rfl rfl _ _ _ rfl rfl rfl _ R3.out ?_)
  | ((with_reducible refine at_insert 86 (.tmp 1) (.const (.int .i64 4)) (.func 83) ?_); refine wpList_insertK rfl 86 (.tmp 1) (.const (.int .i64 4)) (.func 83) rfl rfl _ _ _ rfl rfl rfl _ R4.out ?_)
  | ((with_reducible refine at_insert 86 (.tmp 1) (.const (.int .i64 5)) (.func 84) ?_); refine wpList_insertK rfl 86 (.tmp 1) (.const (.int .i64 5)) (.func 84) rfl rfl _ _ _ rfl rfl rfl _ R5.out ?_))
 go_ret
 exact ⟨rfl, H5.out.1, H5.out.2⟩
def opFound (k : Int) : Option Value := if k = 1 then some (opFn 80) else if k = 2 then some (opFn 81) else if k = 3 then some (opFn 82) else if k = 4 then some (opFn 83) else if k = 5 then some (opFn 84) else none
def opRes (k : Int) : Value := match opFound k with | some v => .tuple #[v, .bool true] | none => .tuple #[.nilFunc, .bool false]
theorem find_ops (k : Int) : ∃ r, Instr.findNow (.int .i64) (.int .i64 k) opsMap.toList 0 = some r ∧ r.map (·.2) = opFound k := by
 unfold opFound
 by_cases h1 : k = 1
 ·subst h1; exact ⟨_, rfl, rfl⟩
 ·by_cases h2 : k = 2
  ·subst h2; exact ⟨_, rfl, rfl⟩
  ·by_cases h3 : k = 3
   ·subst h3; exact ⟨_, rfl, rfl⟩
   ·by_cases h4 : k = 4
    ·subst h4; exact ⟨_, rfl, rfl⟩
    ·by_cases h5 : k = 5
     ·subst h5; exact ⟨_, rfl, rfl⟩
     ·refine ⟨none, ?_, ?_⟩
      ·have q1 : (k == 1) = false := by simpa using h1
       have q2 : (k == 2) = false := by simpa using h2
       have q3 : (k == 3) = false := by simpa using h3
       have q4 : (k == 4) = false := by simpa using h4
       have q5 : (k == 5) = false := by simpa using h5
       simp only [opsMap, Instr.findNow, Instr.sameNow, if_true, q1, q2, q3, q4, q5]
      ·simp [h1, h2, h3, h4, h5]
theorem run_lookup (w : World) (m : Nat) (k : Int) (hm : w.heap[m]? = some (.map opsMap 5)) : (Instr.lookup 86 (.map (some m)) (.int .i64 k) true).run Tryz.prog w = .ok (opRes k) w := by
 obtain ⟨r, hr, he⟩ := find_ops k
 have h1 := run_checkKey (w := w) (k := .int .i64 k) Tryz.underlying3 rfl opsMap.isEmpty 9999
 have h2 := run_findKey (w := w) (k := .int .i64 k) Tryz.underlying3 hr
 have hg : (getObj m).run Tryz.prog w = .ok (.map opsMap 5) w := by simp [getObj, Sem.run, hm]
 unfold opRes
 rw [← he]
 simp only [Instr.lookup, Sem.run_bind, run_underlying Tryz.underlying86, Result.andThen_ok, hg, h1, h2, Sem.run_pure]
 cases r with
 | none => simp [Tryz.zeroValue85]
 | some p => simp
end Go.Proofs.YthnpiimiimiijaaGreatDoor.Dir
/- Apply: an op done. -/
namespace Go.Proofs.YthnpiimiimiijaaGreatDoor.Dir
open Go Go.RowKit Go.Proofs Go.Proofs.YthnpiimiimiijaaGreatDoorW.PrintWords Go.Proofs.YthnpiimiimiijaaGreatDoorW.PrintLast Go.Proofs.YthnpiimiimiijaaGreatDoorW.PrintMore
set_option linter.unusedVariables false
set_option linter.unusedSimpArgs false
def rulesOf (t : List UInt8) : Int := (Acl.parseOf t).2
theorem runs_lookup {P : Program} {w : World} (t : TypeId) (x k : Operand) (o : Oper) (ho : o.op = .lookup t x k true) (a : Act) (vx vk : Value) (hx : a.eval x = vx) (hk : a.eval k = vk) (r : Value) (hr : (Instr.lookup t vx vk true).run P w = .ok r w) : (execOp a.eval o).run P w = .ok (.value r) w := by
 unfold execOp
 simp only [ho, Sem.run_bind, Sem.run_pure, hx, hk, hr]
 rfl
theorem goesLv_ {P : Program} {ops : Array Oper} {Q : Exit → Act → World → Prop} {rest : List Oper} {oi : Oper} {a : Act} {w : World} (N : Option Tmp) (hd : oi.dst = N) (hg : oi.guard = none) {f : FuncId} {fn : Func} {os : Array Operand} {ts : Array TypeId} {cx : Operand} (hf : P.funcs[f]? = some fn) (hname : (fn.name == "runtime.NumGoroutine") = false) (hb : fn.body.isSome = true) (args : Array Value)
  (hop : oi.op = .call { callee := .value cx, args := os, argTypes := ts }) (hcx : a.eval cx = .func (.func f) #[] #[]) (hargs : os.map a.eval = args)
  (h : Calls P f args w fun e w' => ∃ v, e = .returned v ∧ wpList P ops Q rest (a.put N v) w') : wpList P ops Q (oi :: rest) a w := by
 refine wpList_plain hg fun K hK => ?_
 have he := enters_ hf hname hb args w
 have hrun : (execOp a.eval oi).run P w = .ok (.enter f args) w := by
  unfold execOp
  simp [hop, hcx, resolve, Deferred.ofValue, invoke, hargs, he]
 unfold Oper.wp
 rw [hrun, Oper.upon_enter]
 refine h.mono fun e w'' hh => ?_
 obtain ⟨v, rfl, hk⟩ := hh
 subst hd
 exact hK _ _ hk
theorem at_callv {P : Program} {ops : Array Oper} {Q : Exit → Act → World → Prop} {rest : List Oper} {a : Act} {w : World} {dst : Option Tmp} {ty : TypeId} {pos : String} {after : Array Edge} {g : Option (Nat × Bool)} (x : Tmp) {os : Array Operand} {ts : Array TypeId} (h : wpList P ops Q (⟨dst, .call { callee := .value (.tmp x), args := os, argTypes := ts }, ty, pos, after, g⟩ :: rest) a w) : wpList P ops Q (⟨dst, .call { callee := .value (.tmp x), args := os, argTypes := ts }, ty, pos, after, g⟩ :: rest) a w := h
theorem op_call (w : World) (base q : Nat) (B : Book) (A1 : Option Addr) (c1 : Nat) (A2 : Option Addr) (c2 : Nat) (o : Op) (h : NextIs w base q B A1 c1 A2 c2) (hw : WF B) (hb : base ≤ w.heap.size) (h1 : -9223372036854775808 ≤ o.node) (h2 : o.node ≤ 9223372036854775807) (hx : PA.LaidW w) (v : Value) (hv : opFound o.kind = some v) :
  ∃ f fn, v = opFn f ∧ Tryz.prog.funcs[f]? = some fn ∧ (fn.name == "runtime.NumGoroutine") = false ∧ fn.body.isSome = true ∧ Calls Tryz.prog f #[.pointer (some ⟨q, 0, none⟩), .agg (encO o).toArray] w fun e w' => OpPost w base q (nextOf rulesOf B o) e w' := by
 unfold opFound at hv
 by_cases k1 : o.kind = 1
 ·rw [if_pos k1] at hv
  have := Option.some.inj hv; subst this
  exact ⟨80, _, rfl, Tryz.func80, by kernel_rfl, rfl, by unfold nextOf; rw [if_pos k1]; exact register_any w base q B A1 c1 A2 c2 o h hw hb h1 h2⟩
 ·rw [if_neg k1] at hv
  by_cases k2 : o.kind = 2
  ·rw [if_pos k2] at hv
   have := Option.some.inj hv; subst this
   exact ⟨81, _, rfl, Tryz.func81, by kernel_rfl, rfl, by unfold nextOf; rw [if_neg k1, if_pos k2]; exact rotate_any w base q B A1 c1 A2 c2 o h hw hb h1 h2⟩
  ·rw [if_neg k2] at hv
   by_cases k3 : o.kind = 3
   ·rw [if_pos k3] at hv
    have := Option.some.inj hv; subst this
    exact ⟨82, _, rfl, Tryz.func82, by kernel_rfl, rfl, by unfold nextOf; rw [if_neg k1, if_neg k2, if_pos k3]; exact revoke_any w base q B A1 c1 A2 c2 o h hw hb h1 h2⟩
   ·rw [if_neg k3] at hv
    by_cases k4 : o.kind = 4
    ·rw [if_pos k4] at hv
     have := Option.some.inj hv; subst this
     exact ⟨83, _, rfl, Tryz.func83, by kernel_rfl, rfl, by unfold nextOf; rw [if_neg k1, if_neg k2, if_neg k3, if_pos k4]; exact rules_any w base q B A1 c1 A2 c2 o h hb hx⟩
    ·rw [if_neg k4] at hv
     by_cases k5 : o.kind = 5
     ·rw [if_pos k5] at hv
      have := Option.some.inj hv; subst this
      exact ⟨84, _, rfl, Tryz.func84, by kernel_rfl, rfl, by unfold nextOf; rw [if_neg k1, if_neg k2, if_neg k3, if_neg k4, if_pos k5]; exact advance_any w base q B A1 c1 A2 c2 o h hb⟩
     ·rw [if_neg k5] at hv; cases hv
theorem next_none (B : Book) (o : Op) (hv : opFound o.kind = none) : nextOf rulesOf B o = (B, 2) := by
 unfold opFound at hv
 unfold nextOf
 by_cases k1 : o.kind = 1
 ·rw [if_pos k1] at hv; cases hv
 ·rw [if_neg k1] at hv ⊢
  by_cases k2 : o.kind = 2
  ·rw [if_pos k2] at hv; cases hv
  ·rw [if_neg k2] at hv ⊢
   by_cases k3 : o.kind = 3
   ·rw [if_pos k3] at hv; cases hv
   ·rw [if_neg k3] at hv ⊢
    by_cases k4 : o.kind = 4
    ·rw [if_pos k4] at hv; cases hv
    ·rw [if_neg k4] at hv ⊢
     by_cases k5 : o.kind = 5
     ·rw [if_pos k5] at hv; cases hv
     ·rw [if_neg k5]
theorem splice_book (B B' : Book) (A1 A2 A1' A2' : Option Addr) (c1 c2 c1' c2' : Nat) : splice (.bool true :: bookCells B A1 c1 A2 c2) 1 (bookCells B' A1' c1' A2' c2') = .bool true :: bookCells B' A1' c1' A2' c2' := rfl
theorem size43 : (Tryz.prog.info? 43).map (·.size) = some 5 := by kernel_rfl
structure ResAt (W : World) (r : Nat) : Prop where
 at_ : ∃ x y, W.heap[r]? = some (.cells #[x, y] 30 (0, 0))
theorem ResAt.cells {W : World} {r : Nat} (h : ResAt W r) : (∃ z, W.cell? ⟨r, 0, none⟩ = some z) ∧ (∃ z, W.cell? ⟨r, 1, none⟩ = some z) ∧ (∀ j, W.frozen? ⟨r, j, none⟩ = false) := by
 obtain ⟨x, y, hk⟩ := h.at_
 simp [World.cell?, World.frozen?, hk]
theorem ResAt.filled {W : World} {r : Nat} (h : ResAt W r) (a b : Value) : ((W.setCell ⟨r, 0, none⟩ a).setCell ⟨r, 1, none⟩ b).heap[r]? = some (.cells #[a, b] 30 (0, 0)) := by
 obtain ⟨x, y, hk⟩ := h.at_
 have h1 := heap_setCell_same W r 0 _ _ a hk
 exact heap_setCell_same _ r 1 _ _ b h1
theorem grownBy_more {w w1 w2 : World} {r : Option Nat} {n : Nat} (h1 : w.grownBy w1 r) (h2 : w1.grownBy w2 (some n)) (hn : w.heap.size ≤ n) : w.grownBy w2 r :=
 ⟨h2.os.trans h1.os, h2.tape.trans h1.tape, h2.output.trans h1.output, Nat.le_trans h1.size h2.size, fun k hk hr => (h2.block k (Nat.lt_of_lt_of_le hk h1.size) (fun e => by have e2 : k = n := Option.some.inj e; omega)).trans (h1.block k hk hr)⟩
set_option maxHeartbeats 8000000 in
set_option maxRecDepth 100000 in
theorem apply_any (w : World) (p : Nat) (B : Book) (o : Op) (h : DirAt w p B) (hw : WF B) (hx : PA.LaidW w) (h1 : -9223372036854775808 ≤ o.node) (h2 : o.node ≤ 9223372036854775807) :
  Calls Tryz.prog 15 #[.pointer (some ⟨p, 0, none⟩), .agg (encO o).toArray] w fun e w' => e = .returned (.tuple #[.agg #[.int .i64 (errOf rulesOf B o), .int .i64 (applyOf rulesOf B o).ver], .int .i64 0]) ∧ DirAt w' p (applyOf rulesOf B o) ∧ w.grownBy w' (some p) := by
 have HD := Aside0.mk h
 have HWF := Aside0.mk hw
 have HX := Aside0.mk hx
 have HN := Aside0.mk (And.intro h1 h2)
 obtain ⟨W0, hW0⟩ : ∃ W0, W0 = (w.alloc (.cells (encO o).toArray 36)).alloc (.cells #[.int .i64 0, .int .i64 0] 30) := ⟨_, rfl⟩
 have hb0 : Below w.heap.size w W0 := by rw [hW0]; exact ((Below.refl _ w).alloc (Nat.le_refl _) _).alloc (by simp) _
 have hbx0 : W0.heap[w.heap.size]? = some (.cells (encO o).toArray 36 (0, 0)) := by rw [hW0, Below.heap_alloc _ _ _ (by simp)]; exact heap_alloc_new w _
 have hr0 : W0.heap[w.heap.size + 1]? = some (.cells #[.int .i64 0, .int .i64 0] 30 (0, 0)) := by rw [hW0]; have := heap_alloc_new (w.alloc (.cells (encO o).toArray 36)) (.cells #[.int .i64 0, .int .i64 0] 30); simpa using this
 have hz0 : W0.heap.size = w.heap.size + 2 := by rw [hW0]; simp
 obtain ⟨A1, c1, A2, c2, hp, hL, -, -⟩ := h
 have hpl : p < w.heap.size := (Array.getElem?_eq_some_iff.1 hp).1
 have hp0 := (hb0.block _ hpl).trans hp
 have hL0 : Lists W0 0 B A1 c1 A2 c2 := hL.below hb0
 obtain ⟨s1, s2⟩ := hL0.src
 have hown := Aside0.mk (own_book B A1 A2 c1 c2 W0 s1 s2 hw.few)
 have l1 := Aside0.mk (run_loadAtK Tryz.prog W0 43 5 Tryz.isAgg43 Tryz.sizeOf43 p 1 (bookCells B A1 c1 A2 c2) rfl (fun j v hj => by rw [cell_of_heap hp0, Nat.add_comm]; exact hj))
 have kb : W0.cell? ⟨p, 0, none⟩ = some (.bool true) := by rw [cell_of_heap hp0]; rfl
 have HP := Aside0.mk (And.intro hp0 hpl)
 have HB0 := Aside0.mk (And.intro hb0 (And.intro hbx0 (And.intro hr0 hz0)))
 have HL0 := Aside0.mk hL
 obtain ⟨X, hX⟩ : ∃ X, X = nextOf rulesOf B o := ⟨_, rfl⟩
 have hXwf := Aside0.mk (fun (h0 : X.2 = 0) => (show WF X.1 by rw [hX] at h0 ⊢; exact next_wf rulesOf hw o h0))
 have HXE := Aside0.mk hX
 clear h1 h2 hx hw hb0 hbx0 hr0 hz0 hp hL hpl hp0 hL0 s1 s2 hX
 go_enter Tryz.func15, Tryz.ntmps15
 go_upto_region 1 with fail
 rw [← hW0]
 clear hW0
 go_wp2_with (first | ((with_reducible refine at_load 43 (.tmp 22) ?_); refine wpList_loadK rfl 43 (.tmp 22) rfl _ rfl _ l1.out ?_))
 refine hown.out.mono ?_
 rintro e w1 ⟨A1', c1', A2', c2', rfl, hL1, -, -, hb1⟩
 have st := Aside0.mk (run_storeNew Tryz.prog w1 43 5 size43 #[.int .i64 0, .int .i64 0, .slice none 0 0, .slice none 0 0, .string ⟨#[]⟩] (bookCells B A1' c1' A2' c2').toArray rfl rfl (by simpa using book_one B A1' A2' c1' c2'))
 have HL1 := Aside0.mk (And.intro hL1 hb1)
 clear hL1 hb1 hown l1 kb
 go_upto_region 4 with (first | ((with_reducible refine at_store 43 (.tmp 6) (.tmp 24) ?_); refine wpList_storeK rfl 43 (.tmp 6) (.tmp 24) rfl rfl _ _ rfl rfl _ st.out ?_))
 obtain ⟨w2, hw2⟩ : ∃ w2, w2 = w1.alloc (.cells (bookCells B A1' c1' A2' c2').toArray 43) := ⟨_, rfl⟩
 obtain ⟨q, hq⟩ : ∃ q, q = w1.heap.size := ⟨_, rfl⟩
 have hbW : Below W0.heap.size W0 w2 := by rw [hw2]; exact HL1.out.2.alloc HL1.out.2.size _
 have hnx : NextIs w2 W0.heap.size q B A1' c1' A2' c2' := by
  have hq2 : w2.heap[q]? = some (.cells (bookCells B A1' c1' A2' c2').toArray 43 (0, 0)) := by rw [hw2, hq]; exact heap_alloc_new w1 _
  have hl2 : Lists w2 W0.heap.size B A1' c1' A2' c2' := by rw [hw2]; exact HL1.out.1.below ((Below.refl _ w1).alloc (Nat.le_refl _) _)
  exact ⟨hq2, hl2, by rw [hq]; exact HL1.out.2.size, fun k hk e => own_ne hl2.1 hq2 (by decide) (by rw [hk, e]), fun k hk e => own_ne hl2.2.1 hq2 (by decide) (by rw [hk, e])⟩
 have HNX := Aside0.mk hnx
 have HBW := Aside0.mk hbW
 have HBX := Aside0.mk ((hbW.block _ (by have := HB0.out.2.2.2; omega)).trans HB0.out.2.1)
 have HK := Aside0.mk (show w2.cell? ⟨w.heap.size, 0, none⟩ = some (.int .i64 o.kind) by rw [cell_of_heap HBX.out]; rfl)
 rw [← hw2, ← hq]
 clear hw2 hq hbW hnx st
 cases hv : opFound o.kind with
 | none =>
  have HRES := Aside0.mk (show opRes o.kind = .tuple #[.nilFunc, .bool false] by unfold opRes; rw [hv])
  have hXn := next_none B o hv
  have hE : errOf rulesOf B o = 2 := by unfold errOf; rw [hXn, if_neg (fun hc => by have h2 : (2 : Int) = 0 := hc.1; omega)]
  have hA : applyOf rulesOf B o = B := by unfold applyOf; rw [if_neg (by rw [hE]; decide)]
  have HEA := Aside0.mk (And.intro hE hA)
  clear hv hXn hE hA
  refine start_ (n := 9) (S := fun W => Below w2.heap.size w2 W) (ds := []) #[false, false, false, false, false, false, false, false, false] (by kernel_rfl) rfl rfl (Below.refl w2.heap.size w2).drew (fun hHeld => ?_)
  generalize World.drew _ = w3 at hHeld ⊢
  refine pure_ (i := 1) (N := (some 27)) (v := ?_) (a' := ?_) #[false, true, false, false, false, false, false, false, false] rfl rfl (by kernel_rfl) (fun _ _ _ h => h) (Or.inl ⟨by rfl, ?_⟩) ?_ ?_
  rotate_left
  ·intro w'
   go_simp
   with_reducible rfl
  rotate_left
  ·simp only [Act.put, List.setIfInBounds_toArray, List.set_cons_zero, List.set_cons_succ, i64_w, i32_w]
   rfl
  refine take_ (i := 2) (N := (some 28)) (v := ?_) (a' := ?_) #[false, true, true, false, false, false, false, false, false] rfl rfl (by kernel_rfl) (fun _ _ _ h => h) (Or.inl ⟨by rfl, ?_⟩) hHeld ?_ ?_
  rotate_left
  ·rintro w' hs
   have o0 := (hs.cell (p := ⟨w.heap.size, 0, none⟩) (World.block_lt_of_cell? w2 _ HK.out)).trans HK.out
   go_simp
   with_reducible rfl
  rotate_left
  ·simp only [Act.put, List.setIfInBounds_toArray, List.set_cons_zero, List.set_cons_succ, i64_w, i32_w]
   rfl
  refine one_ (i := 0) (N := (some 26)) #[true, true, true, false, false, false, false, false, false] rfl rfl (by kernel_rfl) (by decide) (fun K hK => ?_)
  refine goes_ Tryz.func44 (by kernel_rfl) rfl #[] (by rfl) rfl rfl (by (try simp only [List.map_toArray, List.map_cons, List.map_nil]); first | done | rfl) ?_
  refine (ops_any w3).mono ?_
  rintro e w3c ⟨rfl, hb, hm⟩
  refine ⟨_, rfl, ?_⟩
  have hS_ := below_step hHeld hb
  have HM := Aside0.mk hm
  clear hb hm
  refine hK.out _ _ hS_ (fun hHeld => ?_)
  clear hK K
  refine norm_ (a' := ?_) ?_ ?_
  rotate_left
  ·show Act.put _ (some 26) _ = _
   simp only [Act.put, List.setIfInBounds_toArray, List.set_cons_zero, List.set_cons_succ, i64_w, i32_w]
   rfl
  refine one_ (i := 3) (N := (some 29)) #[true, true, true, true, false, false, false, false, false] rfl rfl (by kernel_rfl) (by decide) (fun K hK => ?_)
  refine value_ (v := opRes o.kind) (w1 := w3c) (by rfl) rfl ?_ ?_
  ·exact runs_lookup 86 (.tmp 26) (.tmp 28) _ rfl _ _ _ rfl rfl _ (run_lookup w3c w3.heap.size o.kind HM.out)
  have hS_ := hHeld
  rw [HRES.out]
  refine hK.out _ _ hS_ (fun hHeld => ?_)
  clear hK K
  refine norm_ (a' := ?_) ?_ ?_
  rotate_left
  ·show Act.put _ (some 29) _ = _
   simp only [Act.put, List.setIfInBounds_toArray, List.set_cons_zero, List.set_cons_succ, i64_w, i32_w]
   rfl
  refine pure_ (i := 4) (N := (some 25)) (v := ?_) (a' := ?_) #[true, true, true, true, true, false, false, false, false] rfl rfl (by kernel_rfl) (fun _ _ _ h => h) (Or.inl ⟨by rfl, ?_⟩) ?_ ?_
  rotate_left
  ·intro w'
   go_simp
   with_reducible rfl
  rotate_left
  ·simp only [Act.put, List.setIfInBounds_toArray, List.set_cons_zero, List.set_cons_succ, i64_w, i32_w]
   rfl
  refine pure_ (i := 5) (N := (some 30)) (v := ?_) (a' := ?_) #[true, true, true, true, true, true, false, false, false] rfl rfl (by kernel_rfl) (fun _ _ _ h => h) (Or.inl ⟨by rfl, ?_⟩) ?_ ?_
  rotate_left
  ·intro w'
   go_simp
   with_reducible rfl
  rotate_left
  ·simp only [Act.put, List.setIfInBounds_toArray, List.set_cons_zero, List.set_cons_succ, i64_w, i32_w]
   rfl
  refine pure_ (i := 6) (N := (some 31)) (v := ?_) (a' := ?_) #[true, true, true, true, true, true, true, false, false] rfl rfl (by kernel_rfl) (fun _ _ _ h => h) (Or.inl ⟨by rfl, ?_⟩) ?_ ?_
  rotate_left
  ·intro w'
   go_simp
   with_reducible rfl
  rotate_left
  ·simp only [Act.put, List.setIfInBounds_toArray, List.set_cons_zero, List.set_cons_succ, i64_w, i32_w]
   rfl
  refine pure_ (i := 7) (N := (some 8)) (v := ?_) (a' := ?_) #[true, true, true, true, true, true, true, true, false] rfl rfl (by kernel_rfl) (fun _ _ _ h => h) (Or.inl ⟨by rfl, ?_⟩) ?_ ?_
  rotate_left
  ·intro w'
   go_simp
   with_reducible rfl
  rotate_left
  ·simp only [Act.put, List.setIfInBounds_toArray, List.set_cons_zero, List.set_cons_succ, i64_w, i32_w]
   rfl
  refine pure_ (i := 8) (N := (some 9)) (v := ?_) (a' := ?_) #[true, true, true, true, true, true, true, true, true] rfl rfl (by kernel_rfl) (fun _ _ _ h => h) (Or.inl ⟨by rfl, ?_⟩) ?_ ?_
  rotate_left
  ·intro w'
   go_simp
   with_reducible rfl
  rotate_left
  ·simp only [Act.put, List.setIfInBounds_toArray, List.set_cons_zero, List.set_cons_succ, i64_w, i32_w]
   rfl
  refine done_ (by kernel_rfl) ?_
  have hch := HBW.out.trans (hHeld.mono HBW.out.size)
  have HH := Aside0.mk hHeld
  clear hHeld
  have hp4 := (hch.block p (by have := HB0.out.2.2.2; have := HP.out.2; omega)).trans HP.out.1
  have hr4 : ResAt w3c (w.heap.size + 1) := ⟨_, _, (hch.block (w.heap.size + 1) (by have := HB0.out.2.2.2; omega)).trans HB0.out.2.2.1⟩
  have kv : w3c.cell? ⟨p, 1, none⟩ = some (.int .i64 B.ver) := by rw [cell_of_heap hp4]; rfl
  obtain ⟨⟨z0, k0⟩, ⟨z1, k1⟩, kf⟩ := hr4.cells
  have HR4 := Aside0.mk hr4
  have HC4 := Aside0.mk hch
  clear hr4 hp4
  go_wp2_with fail
  try simp only [Exit.inBlock, Exit.then]
  have hF := HR4.out.filled (.int .i64 2) (.int .i64 B.ver)
  refine bodyPost_ret (results_ct rfl _ _ (w.heap.size + 1) 30 _ (0, 0) _ rfl hF Tryz.underlying30 rfl (by kernel_rfl)) rfl ?_
  have hall : Below w.heap.size w ((w3c.setCell ⟨w.heap.size + 1, 0, none⟩ (.int .i64 2)).setCell ⟨w.heap.size + 1, 1, none⟩ (.int .i64 B.ver)) := ((HB0.out.1.trans (HC4.out.mono (by have := HB0.out.2.2.2; omega))).setCell (by simp) _).setCell (by simp) _
  refine ⟨?_, ?_, grownBy_wide (grownBy_below hall)⟩
  ·rw [HEA.out.1, HEA.out.2]; rfl
  ·rw [HEA.out.2]; exact HD.out.below hall
 | some v =>
  have HRES := Aside0.mk (show opRes o.kind = .tuple #[v, .bool true] by unfold opRes; rw [hv])
  have HV := Aside0.mk hv
  clear hv
  refine start_ (n := 9) (S := fun W => Below w2.heap.size w2 W) (ds := []) #[false, false, false, false, false, false, false, false, false] (by kernel_rfl) rfl rfl (Below.refl w2.heap.size w2).drew (fun hHeld => ?_)
  generalize World.drew _ = w3 at hHeld ⊢
  refine pure_ (i := 1) (N := (some 27)) (v := ?_) (a' := ?_) #[false, true, false, false, false, false, false, false, false] rfl rfl (by kernel_rfl) (fun _ _ _ h => h) (Or.inl ⟨by rfl, ?_⟩) ?_ ?_
  rotate_left
  ·intro w'
   go_simp
   with_reducible rfl
  rotate_left
  ·simp only [Act.put, List.setIfInBounds_toArray, List.set_cons_zero, List.set_cons_succ, i64_w, i32_w]
   rfl
  refine take_ (i := 2) (N := (some 28)) (v := ?_) (a' := ?_) #[false, true, true, false, false, false, false, false, false] rfl rfl (by kernel_rfl) (fun _ _ _ h => h) (Or.inl ⟨by rfl, ?_⟩) hHeld ?_ ?_
  rotate_left
  ·rintro w' hs
   have o0 := (hs.cell (p := ⟨w.heap.size, 0, none⟩) (World.block_lt_of_cell? w2 _ HK.out)).trans HK.out
   go_simp
   with_reducible rfl
  rotate_left
  ·simp only [Act.put, List.setIfInBounds_toArray, List.set_cons_zero, List.set_cons_succ, i64_w, i32_w]
   rfl
  refine one_ (i := 0) (N := (some 26)) #[true, true, true, false, false, false, false, false, false] rfl rfl (by kernel_rfl) (by decide) (fun K hK => ?_)
  refine goes_ Tryz.func44 (by kernel_rfl) rfl #[] (by rfl) rfl rfl (by (try simp only [List.map_toArray, List.map_cons, List.map_nil]); first | done | rfl) ?_
  refine (ops_any w3).mono ?_
  rintro e w3c ⟨rfl, hb, hm⟩
  refine ⟨_, rfl, ?_⟩
  have hS_ := below_step hHeld hb
  have HM := Aside0.mk hm
  clear hb hm
  refine hK.out _ _ hS_ (fun hHeld => ?_)
  clear hK K
  refine norm_ (a' := ?_) ?_ ?_
  rotate_left
  ·show Act.put _ (some 26) _ = _
   simp only [Act.put, List.setIfInBounds_toArray, List.set_cons_zero, List.set_cons_succ, i64_w, i32_w]
   rfl
  refine one_ (i := 3) (N := (some 29)) #[true, true, true, true, false, false, false, false, false] rfl rfl (by kernel_rfl) (by decide) (fun K hK => ?_)
  refine value_ (v := opRes o.kind) (w1 := w3c) (by rfl) rfl ?_ ?_
  ·exact runs_lookup 86 (.tmp 26) (.tmp 28) _ rfl _ _ _ rfl rfl _ (run_lookup w3c w3.heap.size o.kind HM.out)
  have hS_ := hHeld
  rw [HRES.out]
  refine hK.out _ _ hS_ (fun hHeld => ?_)
  clear hK K
  refine norm_ (a' := ?_) ?_ ?_
  rotate_left
  ·show Act.put _ (some 29) _ = _
   simp only [Act.put, List.setIfInBounds_toArray, List.set_cons_zero, List.set_cons_succ, i64_w, i32_w]
   rfl
  refine pure_ (i := 4) (N := (some 25)) (v := ?_) (a' := ?_) #[true, true, true, true, true, false, false, false, false] rfl rfl (by kernel_rfl) (fun _ _ _ h => h) (Or.inl ⟨by rfl, ?_⟩) ?_ ?_
  rotate_left
  ·intro w'
   go_simp
   with_reducible rfl
  rotate_left
  ·simp only [Act.put, List.setIfInBounds_toArray, List.set_cons_zero, List.set_cons_succ, i64_w, i32_w]
   rfl
  refine pure_ (i := 5) (N := (some 30)) (v := ?_) (a' := ?_) #[true, true, true, true, true, true, false, false, false] rfl rfl (by kernel_rfl) (fun _ _ _ h => h) (Or.inl ⟨by rfl, ?_⟩) ?_ ?_
  rotate_left
  ·intro w'
   go_simp
   with_reducible rfl
  rotate_left
  ·simp only [Act.put, List.setIfInBounds_toArray, List.set_cons_zero, List.set_cons_succ, i64_w, i32_w]
   rfl
  refine pure_ (i := 6) (N := (some 31)) (v := ?_) (a' := ?_) #[true, true, true, true, true, true, true, false, false] rfl rfl (by kernel_rfl) (fun _ _ _ h => h) (Or.inl ⟨by rfl, ?_⟩) ?_ ?_
  rotate_left
  ·intro w'
   go_simp
   with_reducible rfl
  rotate_left
  ·simp only [Act.put, List.setIfInBounds_toArray, List.set_cons_zero, List.set_cons_succ, i64_w, i32_w]
   rfl
  refine pure_ (i := 7) (N := (some 8)) (v := ?_) (a' := ?_) #[true, true, true, true, true, true, true, true, false] rfl rfl (by kernel_rfl) (fun _ _ _ h => h) (Or.inl ⟨by rfl, ?_⟩) ?_ ?_
  rotate_left
  ·intro w'
   go_simp
   with_reducible rfl
  rotate_left
  ·simp only [Act.put, List.setIfInBounds_toArray, List.set_cons_zero, List.set_cons_succ, i64_w, i32_w]
   rfl
  refine pure_ (i := 8) (N := (some 9)) (v := ?_) (a' := ?_) #[true, true, true, true, true, true, true, true, true] rfl rfl (by kernel_rfl) (fun _ _ _ h => h) (Or.inl ⟨by rfl, ?_⟩) ?_ ?_
  rotate_left
  ·intro w'
   go_simp
   with_reducible rfl
  rotate_left
  ·simp only [Act.put, List.setIfInBounds_toArray, List.set_cons_zero, List.set_cons_succ, i64_w, i32_w]
   rfl
  refine done_ (by kernel_rfl) ?_
  have hch := HBW.out.trans (hHeld.mono HBW.out.size)
  have hbx3 := (hHeld.block _ (Array.getElem?_eq_some_iff.1 HBX.out).1).trans HBX.out
  have lo := Aside0.mk (run_loadAtK Tryz.prog w3c 36 37 Tryz.isAgg36 Tryz.sizeOf36 w.heap.size 0 (encO o) (encO_len o) (cells_of_heap hbx3))
  obtain ⟨f, fn, rfl, hf, hnm, hbd, hcall⟩ := op_call w3c W0.heap.size q B A1' c1' A2' c2' o (HNX.out.below hHeld) HWF.out hch.size HN.out.1 HN.out.2 (HX.out.below (HB0.out.1.trans (hch.mono (by have := HB0.out.2.2.2; omega)))) v HV.out
  rw [← HXE.out] at hcall
  have HF := Aside0.mk (And.intro hf (And.intro hnm hbd))
  have HCALL := Aside0.mk hcall
  have HCH := Aside0.mk hch
  clear hHeld hch hbx3 hf hnm hbd hcall
  unfold opFn
  go_wp2_with (first
   | ((with_reducible refine at_load 36 (.tmp 3) ?_); refine wpList_loadK rfl 36 (.tmp 3) rfl _ rfl _ lo.out ?_)
   | ((with_reducible refine at_callv 33 ?_); refine goesLv_ (some 35) rfl rfl HF.out.1 HF.out.2.1 HF.out.2.2 #[.pointer (some ⟨q, 0, none⟩), .agg (encO o).toArray] rfl rfl (by (try simp only [List.map_toArray, List.map_cons, List.map_nil]); first | done | rfl) ?_))
  refine HCALL.out.mono ?_
  rintro e w4 ⟨rfl, hnext, hb4, hs4⟩
  refine ⟨_, rfl, ?_⟩
  have hc4 : Below W0.heap.size W0 w4 := HCH.out.trans hb4
  have HXE2 := HXE.out
  clear hb4 hs4 lo
  by_cases h0 : X.2 = 0
  ·have hX0 := hXwf.out h0
   obtain ⟨B1, b1, B2, b2, hn4⟩ := hnext h0
   clear hnext
   by_cases hm : X.1.ver = maxN
   ·have hE : errOf rulesOf B o = 5 := by unfold errOf; rw [← HXE2, if_pos ⟨h0, hm⟩]
    have hA : applyOf rulesOf B o = B := by unfold applyOf; rw [if_neg (by rw [hE]; decide)]
    have HEA := Aside0.mk (And.intro hE hA)
    have kq := hn4.cells.1
    rw [show X.1.ver = 9007199254740991 from hm] at kq
    rw [h0]
    clear hE hA hn4 hX0 hm h0 HXE2
    have hp4 := (hc4.block p (by have := HB0.out.2.2.2; have := HP.out.2; omega)).trans HP.out.1
    have hr4 : ResAt w4 (w.heap.size + 1) := ⟨_, _, (hc4.block (w.heap.size + 1) (by have := HB0.out.2.2.2; omega)).trans HB0.out.2.2.1⟩
    have kv : w4.cell? ⟨p, 1, none⟩ = some (.int .i64 B.ver) := by rw [cell_of_heap hp4]; rfl
    obtain ⟨⟨z0, k0⟩, ⟨z1, k1⟩, kf⟩ := hr4.cells
    have HR4 := Aside0.mk hr4
    have HC4 := Aside0.mk hc4
    clear hr4 hp4
    go_wp2_with fail
    try simp only [Exit.inBlock, Exit.then]
    have hF := HR4.out.filled (.int .i64 5) (.int .i64 B.ver)
    refine bodyPost_ret (results_ct rfl _ _ (w.heap.size + 1) 30 _ (0, 0) _ rfl hF Tryz.underlying30 rfl (by kernel_rfl)) rfl ?_
    have hall : Below w.heap.size w ((w4.setCell ⟨w.heap.size + 1, 0, none⟩ (.int .i64 5)).setCell ⟨w.heap.size + 1, 1, none⟩ (.int .i64 B.ver)) := ((HB0.out.1.trans (HC4.out.mono (by have := HB0.out.2.2.2; omega))).setCell (by simp) _).setCell (by simp) _
    refine ⟨?_, ?_, grownBy_wide (grownBy_below hall)⟩
    ·rw [HEA.out.1, HEA.out.2]; rfl
    ·rw [HEA.out.2]; exact HD.out.below hall
   ·have hE : errOf rulesOf B o = 0 := by unfold errOf; rw [← HXE2, if_neg (fun hc => hm hc.2)]; exact h0
    have hA : applyOf rulesOf B o = { X.1 with ver := X.1.ver + 1 } := by unfold applyOf; rw [if_pos hE, ← HXE2]
    have HEA := Aside0.mk (And.intro hE hA)
    have hv1 := hX0.ver
    have hvq : (X.1.ver == 9007199254740991) = false := by rw [beq_eq_false_iff_ne]; exact hm
    have HV2 := Aside0.mk hv1
    obtain ⟨k0, k1, k2, k3, k4, kf⟩ := hn4.cells
    have HN4 := Aside0.mk hn4
    have HC4 := Aside0.mk hc4
    have hn5 := Aside0.mk (hn4.ver (X.1.ver + 1))
    have hc5 := hc4.setCell hn4.low (.int .i64 (X.1.ver + 1)) (p := ⟨q, 0, none⟩)
    have hwv : IntKind.i64.wrap (X.1.ver + 1) = X.1.ver + 1 := by rw [IntKind.wrap_i64]; unfold maxN at hv1; omega
    have hwv2 : wrap64 (X.1.ver + 1) = X.1.ver + 1 := by unfold wrap64; unfold maxN at hv1; omega
    have hp5 := (hc5.block p (by have := HB0.out.2.2.2; have := HP.out.2; omega)).trans HP.out.1
    have l5 := Aside0.mk (run_loadAtK Tryz.prog (w4.setCell ⟨q, 0, none⟩ (.int .i64 (X.1.ver + 1))) 43 5 Tryz.isAgg43 Tryz.sizeOf43 q 0 (bookCells { X.1 with ver := X.1.ver + 1 } B1 b1 B2 b2) rfl (cells_of_heap hn5.out.box))
    have st5 := Aside0.mk (run_storeAtK Tryz.prog (w4.setCell ⟨q, 0, none⟩ (.int .i64 (X.1.ver + 1))) 43 5 Tryz.sizeOf43 p 1 (bookCells { X.1 with ver := X.1.ver + 1 } B1 b1 B2 b2) rfl (book_one _ _ _ _ _) _ 83 hp5 (Nat.le_refl 6))
    have hg6 := grownBy_setRow (w4.setCell ⟨q, 0, none⟩ (.int .i64 (X.1.ver + 1))) p (splice (.bool true :: bookCells B A1 c1 A2 c2) 1 (bookCells { X.1 with ver := X.1.ver + 1 } B1 b1 B2 b2)).toArray
    have hp6 := setRow_heap (w4.setCell ⟨q, 0, none⟩ (.int .i64 (X.1.ver + 1))) p _ (splice (.bool true :: bookCells B A1 c1 A2 c2) 1 (bookCells { X.1 with ver := X.1.ver + 1 } B1 b1 B2 b2)).toArray 83 (0, 0) hp5
    rw [splice_book] at st5 hg6 hp6
    obtain ⟨w6, hw6⟩ : ∃ w6, w6 = (w4.setCell ⟨q, 0, none⟩ (.int .i64 (X.1.ver + 1))).setRow p (.bool true :: bookCells { X.1 with ver := X.1.ver + 1 } B1 b1 B2 b2).toArray := ⟨_, rfl⟩
    rw [← hw6] at st5 hg6 hp6
    have hr5 := (hc5.block (w.heap.size + 1) (by have := HB0.out.2.2.2; omega)).trans HB0.out.2.2.1
    have hr6 : ResAt w6 (w.heap.size + 1) := ⟨_, _, (hg6.block (w.heap.size + 1) (Array.getElem?_eq_some_iff.1 hr5).1 (fun e => by have e2 : w.heap.size + 1 = p := Option.some.inj e; have := HP.out.2; omega)).trans hr5⟩
    obtain ⟨⟨z0, u0⟩, ⟨z1, u1⟩, uf⟩ := hr6.cells
    have kv6 : w6.cell? ⟨p, 1, none⟩ = some (.int .i64 (X.1.ver + 1)) := by rw [cell_of_heap hp6]; rfl
    have HR6 := Aside0.mk hr6
    have HG6 := Aside0.mk hg6
    have HP6 := Aside0.mk hp6
    have HC5 := Aside0.mk hc5
    rw [h0]
    clear hE hA hn4 hX0 hm h0 HXE2 hv1 hc4 hc5 hp5 hg6 hp6 hw6 hr5 hr6 k1 k2 k3 k4
    go_wp2_with (first
     | ((with_reducible refine at_load 43 (.tmp 6) ?_); refine wpList_loadK rfl 43 (.tmp 6) rfl _ rfl _ l5.out ?_)
     | ((with_reducible refine at_store 43 (.tmp 52) (.tmp 50) ?_); refine wpList_storeK rfl 43 (.tmp 52) (.tmp 50) rfl rfl _ _ rfl rfl _ st5.out ?_))
    try simp only [Exit.inBlock, Exit.then]
    have hF := HR6.out.filled (.int .i64 0) (.int .i64 (X.1.ver + 1))
    refine bodyPost_ret (results_ct rfl _ _ (w.heap.size + 1) 30 _ (0, 0) _ rfl hF Tryz.underlying30 rfl (by kernel_rfl)) rfl ?_
    have hz := HB0.out.2.2.2
    have hg5 : w.grownBy w6 (some p) := grownBy_trans (grownBy_wide (grownBy_below (HB0.out.1.trans (HC5.out.mono (by omega))))) HG6.out
    have hg7 : w6.grownBy ((w6.setCell ⟨w.heap.size + 1, 0, none⟩ (.int .i64 0)).setCell ⟨w.heap.size + 1, 1, none⟩ (.int .i64 (X.1.ver + 1))) (some (w.heap.size + 1)) :=
     ⟨rfl, rfl, rfl, by simp, fun k hk hne => by
      have hk2 : k ≠ w.heap.size + 1 := fun e => hne (by rw [e])
      rw [Below.heap_setCell _ _ _ _ hk2, Below.heap_setCell _ _ _ _ hk2]⟩
    have hpl := HP.out.2
    have hs6 := HC5.out.size
    have hlists : Lists w6 0 { X.1 with ver := X.1.ver + 1 } B1 b1 B2 b2 := by
     have h7 := hn5.out.lists
     refine ListsAt.lower (ListsAt.kept h7 HG6.out ?_ ?_) (Nat.zero_le _)
     ·cases hk : (Value.slice B1 X.1.devs.length b1).ownBlock with
      | none => exact .inl rfl
      | some k => exact .inr (fun e => by have h8 := own_base h7.1 k hk; have e2 : k = p := Option.some.inj e; omega)
     ·cases hk : (Value.slice B2 X.1.spent.length b2).ownBlock with
      | none => exact .inl rfl
      | some k => exact .inr (fun e => by have h8 := own_base h7.2.1 k hk; have e2 : k = p := Option.some.inj e; omega)
    have hp7 := (hg7.block p (by have h9 := (Array.getElem?_eq_some_iff.1 HP6.out).1; exact h9) (fun e => by have e2 : p = w.heap.size + 1 := Option.some.inj e; omega)).trans HP6.out
    have hl7 : Lists ((w6.setCell ⟨w.heap.size + 1, 0, none⟩ (.int .i64 0)).setCell ⟨w.heap.size + 1, 1, none⟩ (.int .i64 (X.1.ver + 1))) 0 { X.1 with ver := X.1.ver + 1 } B1 b1 B2 b2 := by
     have h7 := hn5.out.lists
     refine ListsAt.kept hlists hg7 ?_ ?_
     ·cases hk : (Value.slice B1 X.1.devs.length b1).ownBlock with
      | none => exact .inl rfl
      | some k => exact .inr (fun e => by have h8 := own_base h7.1 k hk; have e2 : k = w.heap.size + 1 := Option.some.inj e; omega)
     ·cases hk : (Value.slice B2 X.1.spent.length b2).ownBlock with
      | none => exact .inl rfl
      | some k => exact .inr (fun e => by have h8 := own_base h7.2.1 k hk; have e2 : k = w.heap.size + 1 := Option.some.inj e; omega)
    refine ⟨?_, ?_, ?_⟩
    ·rw [HEA.out.1, HEA.out.2]; rfl
    ·rw [HEA.out.2]
     exact ⟨B1, b1, B2, b2, hp7, hl7, fun k hk e => own_ne hl7.1 hp7 (by decide) (by rw [hk, e]), fun k hk e => own_ne hl7.2.1 hp7 (by decide) (by rw [hk, e])⟩
    ·exact grownBy_more hg5 hg7 (by omega)
  ·have hE : errOf rulesOf B o = X.2 := by unfold errOf; rw [← HXE2, if_neg (fun hc => h0 hc.1)]
   have hA : applyOf rulesOf B o = B := by unfold applyOf; rw [if_neg (by rw [hE]; exact h0)]
   have HEA := Aside0.mk (And.intro hE hA)
   have hq0 : (X.2 == 0) = false := by rw [beq_eq_false_iff_ne]; exact h0
   clear hE hA h0 HXE2 hnext
   have hp4 := (hc4.block p (by have := HB0.out.2.2.2; have := HP.out.2; omega)).trans HP.out.1
   have hr4 : ResAt w4 (w.heap.size + 1) := ⟨_, _, (hc4.block (w.heap.size + 1) (by have := HB0.out.2.2.2; omega)).trans HB0.out.2.2.1⟩
   have kv : w4.cell? ⟨p, 1, none⟩ = some (.int .i64 B.ver) := by rw [cell_of_heap hp4]; rfl
   obtain ⟨⟨z0, k0⟩, ⟨z1, k1⟩, kf⟩ := hr4.cells
   have HR4 := Aside0.mk hr4
   have HC4 := Aside0.mk hc4
   clear hr4 hp4
   go_wp2_with fail
   try simp only [Exit.inBlock, Exit.then]
   have hF := HR4.out.filled (.int .i64 X.2) (.int .i64 B.ver)
   refine bodyPost_ret (results_ct rfl _ _ (w.heap.size + 1) 30 _ (0, 0) _ rfl hF Tryz.underlying30 rfl (by kernel_rfl)) rfl ?_
   have hall : Below w.heap.size w ((w4.setCell ⟨w.heap.size + 1, 0, none⟩ (.int .i64 X.2)).setCell ⟨w.heap.size + 1, 1, none⟩ (.int .i64 B.ver)) := ((HB0.out.1.trans (HC4.out.mono (by have := HB0.out.2.2.2; omega))).setCell (by simp) _).setCell (by simp) _
   refine ⟨?_, ?_, grownBy_wide (grownBy_below hall)⟩
   ·rw [HEA.out.1, HEA.out.2]; rfl
   ·rw [HEA.out.2]; exact HD.out.below hall
 
end Go.Proofs.YthnpiimiimiijaaGreatDoor.Dir
end
