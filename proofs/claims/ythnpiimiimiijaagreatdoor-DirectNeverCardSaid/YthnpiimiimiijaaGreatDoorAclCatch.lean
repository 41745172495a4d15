/- acl.rule's deferred literal: where nothing was thrown it does nothing; what must threw it takes, and lays the empty rule and false. -/
import Derived.Test.YthnpiimiimiijaaGreatDoorAclMust
import Derived.Defers
import Derived.Recover
import Derived.Laws.Pointers
import Derived.WideLaws
import Derived.Lib.Hide
import Derived.Outline
namespace Go.Proofs.YthnpiimiimiijaaGreatDoor.Acl
open Go.RowKit

set_option maxHeartbeats 1000000 in
theorem catch_idle (p q : Addr) (w : World) :
    CallsD Tryz.prog 133 #[.pointer (some p), .pointer (some q)] .returning w fun e u' w' => e = .returned (.tuple #[]) ∧ u' = .returning ∧ w' = w := by
  refine callsD_of_wpS Tryz.func133 rfl fun c₀ cs hu => ?_
  apply wpS_seq
  apply wpS_region
  simp [wpOpsS, go_sem, recoverD, hu, Tryz.ntmps133, Exit.thenS]
  refine wpS_of_wp ?_
  go_wp2
  cases c₀
  simp_all [bodyPostS, results, Tryz.results133]

theorem heap_set5 {w : World} {b : Nat} {a0 a1 a2 a3 a4 : Value} {t : TypeId} (h : w.heap[b]? = some (.cells #[a0, a1, a2, a3, a4] t (0, 0))) (v0 v1 v2 v3 v4 : Value) :
    (((((w.setCell ⟨b, 0, none⟩ v0).setCell ⟨b, 1, none⟩ v1).setCell ⟨b, 2, none⟩ v2).setCell ⟨b, 3, none⟩ v3).setCell ⟨b, 4, none⟩ v4).heap[b]? = some (.cells #[v0, v1, v2, v3, v4] t (0, 0)) := by
  simp [World.setCell, Array.getElem?_modify, h]

set_option maxRecDepth 100000 in
set_option maxHeartbeats 1000000 in
theorem catch_panic (b q : Nat) (x0 : Bool) (x1 x2 x3 x4 : Int) (y : Bool) (B : Nat) (w : World) (hBb : B ≤ b) (hBq : B ≤ q) (hpq : b ≠ q)
    (hc : w.heap[b]? = some (.cells #[.bool x0, .int .i64 x1, .int .i64 x2, .int .i64 x3, .int .i64 x4] 135 (0, 0))) (hq : w.heap[q]? = some (.cells #[.bool y] 4 (0, 0))) :
    CallsD Tryz.prog 133 #[.pointer (some ⟨b, 0, none⟩), .pointer (some ⟨q, 0, none⟩)] (.panicking [{ v := wrongV, recovered := false }]) w fun e u' w' =>
      e = .returned (.tuple #[]) ∧ u' = .panicking [{ v := wrongV, recovered := true }] ∧ Below B w w' ∧
      w'.heap[b]? = some (.cells #[.bool false, .int .i64 0, .int .i64 0, .int .i64 0, .int .i64 0] 135 (0, 0)) ∧ w'.heap[q]? = some (.cells #[.bool false] 4 (0, 0)) := by
  have hta : ∀ (v : Value) (W : World), (Instr.typeAssert (.iface 189 v) 20 189 true).run Tryz.prog W = .ok (.tuple #[v, .bool true]) W := fun v W => by rfl
  refine callsD_of_wpS Tryz.func133 rfl fun c₀ cs hu => ?_
  apply wpS_seq
  apply wpS_region
  simp [wpOpsS, go_sem, recoverD, hu, Tryz.ntmps133, Exit.thenS, wrongV]
  refine wpS_of_wp ?_
  clear hu
  have hbl : b < w.heap.size := (Array.getElem?_eq_some_iff.1 hc).1
  have hql : q < w.heap.size := (Array.getElem?_eq_some_iff.1 hq).1
  have c0 : w.cell? ⟨b, 0, none⟩ = some (.bool x0) := by simp [World.cell?, hc]
  have c1 : w.cell? ⟨b, 1, none⟩ = some (.int .i64 x1) := by simp [World.cell?, hc]
  have c2 : w.cell? ⟨b, 2, none⟩ = some (.int .i64 x2) := by simp [World.cell?, hc]
  have c3 : w.cell? ⟨b, 3, none⟩ = some (.int .i64 x3) := by simp [World.cell?, hc]
  have c4 : w.cell? ⟨b, 4, none⟩ = some (.int .i64 x4) := by simp [World.cell?, hc]
  have d0 : w.cell? ⟨q, 0, none⟩ = some (.bool y) := by simp [World.cell?, hq]
  have f0 : ∀ j, w.frozen? ⟨b, j, none⟩ = false := fun j => by simp [World.frozen?, hc]
  have e0 : w.frozen? ⟨q, 0, none⟩ = false := by simp [World.frozen?, hq]
  have HC := Lib.hid hc; have HQ := Lib.hid hq
  have hqb : ¬ q = b := fun e => hpq e.symm
  clear hc hq
  go_wp2_with fail
  refine ⟨rfl, _, rfl, .tuple #[], results_none rfl _ _ _, rfl, rfl, ?_, ?_, ?_⟩
  · exact ((((((((Below.refl B w).setCell (p := ⟨b, 0, none⟩) hBb _).setCell (p := ⟨b, 1, none⟩) hBb _).setCell (p := ⟨b, 2, none⟩) hBb _).setCell (p := ⟨b, 3, none⟩) hBb _).setCell (p := ⟨b, 4, none⟩) hBb _).setCell (p := ⟨q, 0, none⟩) hBq _).alloc (by simp; omega) _)
  · refine (Below.heap_alloc _ _ _ (by simp; omega)).trans ((Below.heap_setCell _ _ _ _ hpq).trans ?_)
    exact heap_set5 HC.out _ _ _ _ _
  · refine (Below.heap_alloc _ _ _ (by simp; omega)).trans ?_
    simp [World.setCell, Array.getElem?_modify, HQ.out, hpq]
end Go.Proofs.YthnpiimiimiijaaGreatDoor.Acl
