/- acl.rule: the rule of a line's words, or the empty rule and false, for all words. -/
import Derived.Test.YthnpiimiimiijaaGreatDoorAclCatch
import Derived.Test.YthnpiimiimiijaaGreatDoorAclPorts
import Derived.Test.YthnpiimiimiijaaGreatDoorAclNodes
namespace Go.Proofs.YthnpiimiimiijaaGreatDoor.Acl
open Go.RowKit Go.Proofs Go.Proofs.YthnpiimiimiijaaGreatDoor.PA

def allowB : List UInt8 := [97, 108, 108, 111, 119]
def denyB : List UInt8 := [100, 101, 110, 121]
def headOk : List (List UInt8) → Bool
  | [a, _, c, _, _] => (a == allowB || a == denyB) && c == [62]
  | _ => false
def ruleOf : List (List UInt8) → Option (Bool × Int × Int × Int × Int)
  | [a, b, c, d, p] => if ((a == allowB || a == denyB) && c == [62]) = true then
      (nodesOf b).bind fun f => (nodesOf d).bind fun t => (portsOf p).map fun q => (a == allowB, f, t, q.1, q.2)
    else none
  | _ => none
def ruleV (r : Bool × Int × Int × Int × Int) : Value := .agg #[.bool r.1, .int .i64 r.2.1, .int .i64 r.2.2.1, .int .i64 r.2.2.2.1, .int .i64 r.2.2.2.2]
def RuleEnd (ws : List (List UInt8)) (e : Ending) : Prop :=
  match ruleOf ws with
  | some r => e = .returned (.tuple #[ruleV r, .bool true])
  | none => e = .returned (.tuple #[ruleV (false, 0, 0, 0, 0), .bool false])

theorem cell_in {w : World} {b : Nat} {cs : Array Value} {t : TypeId} (h : w.heap[b]? = some (.cells cs t (0, 0))) (j : Nat) : w.cell? ⟨b, j, none⟩ = cs[j]? := by
  simp [World.cell?, h]

set_option maxHeartbeats 1000000 in
set_option maxRecDepth 100000 in
/-- The door behind a panic: the literal takes it; the empty rule and false are handed back. -/
theorem door_no {w W : World} {tmps : Array Value} {x0 : Bool} {x1 x2 x3 x4 : Int} {y : Bool} (h2 : tmps[2]? = some (.pointer (some ⟨w.heap.size, 0, none⟩))) (h3 : tmps[3]? = some (.pointer (some ⟨w.heap.size + 1, 0, none⟩)))
    (hc : W.heap[w.heap.size]? = some (.cells #[.bool x0, .int .i64 x1, .int .i64 x2, .int .i64 x3, .int .i64 x4] 135 (0, 0))) (hq : W.heap[w.heap.size + 1]? = some (.cells #[.bool y] 4 (0, 0))) (hb : Below w.heap.size w W) :
    bodyPostD Tryz.prog Tryz.f91 (fun e w' => Below w.heap.size w w' ∧ e = .returned (.tuple #[ruleV (false, 0, 0, 0, 0), .bool false])) (Exit.panic [{ v := wrongV, recovered := false }])
      { tmps := tmps, defers := [{ target := Target.fn (Fn.func 133) #[.pointer (some ⟨w.heap.size, 0, none⟩), .pointer (some ⟨w.heap.size + 1, 0, none⟩)], args := #[] }] } W := by
  refine leaves_cons (f := 133) (args := #[.pointer (some ⟨w.heap.size, 0, none⟩), .pointer (some ⟨w.heap.size + 1, 0, none⟩)]) (by simp) (by simp [go_sem]) ?_
  refine (catch_panic _ _ x0 x1 x2 x3 x4 y w.heap.size _ (Nat.le_refl _) (by omega) (by omega) hc hq).mono ?_
  rintro e u' w2 ⟨rfl, rfl, hb2, hc2, hq2⟩
  have k0 := cell_in hc2 0
  have k1 := cell_in hc2 1
  have k2 := cell_in hc2 2
  have k3 := cell_in hc2 3
  have k4 := cell_in hc2 4
  have k5 := cell_in hq2 0
  have hbb : Below w.heap.size w w2 := hb.trans hb2
  simp at k0 k1 k2 k3 k4 k5
  simp [Leaves, settle, results, Tryz.results91, go_sem, h2, h3, k0, k1, k2, k3, k4, k5, ruleV]
  exact hbb

set_option maxHeartbeats 2000000 in
set_option maxRecDepth 100000 in
theorem rule_not5 (A : Option Addr) (n cap : Nat) (h5 : n ≠ 5) (w : World) :
    Calls Tryz.prog 91 #[.slice A n cap] w fun e w' => Below w.heap.size w w' ∧ e = .returned (.tuple #[ruleV (false, 0, 0, 0, 0), .bool false]) := by
  have hmf : ∀ (fn : Fn) (first cap : Array Value) (w : World), (Instr.makeFunc fn first cap).run Tryz.prog w = .ok (.func fn first cap) w := fun _ _ _ _ => rfl
  have hl : ((n : Int) == 5) = false := beq_eq_false_iff_ne.2 (by omega)
  go_enter_defers Tryz.func91, Tryz.ntmps91
  go_wp2_with fail
  refine (must_no _).mono ?_
  rintro e w3 ⟨rfl, rfl⟩
  go_wp2
  refine door_no rfl rfl (x0 := false) (x1 := 0) (x2 := 0) (x3 := 0) (x4 := 0) (y := false) ?_ ?_ ?_
  · exact (Below.heap_alloc _ _ _ (by simp)).trans (World.alloc_heap_new w _)
  · have h := World.alloc_heap_new (w.alloc (.cells #[.bool false, .int .i64 0, .int .i64 0, .int .i64 0, .int .i64 0] 135)) (.cells #[.bool false] 4)
    rw [World.size_alloc] at h
    exact h
  · exact ((Below.refl _ w).alloc (Nat.le_refl _) _).alloc (by simp) _

/-- The two results' own blocks, at a world behind the call's beginning. -/
structure St (w W : World) (x0 : Bool) (x1 x2 x3 x4 : Int) (y : Bool) : Prop where
  r : W.heap[w.heap.size]? = some (.cells #[.bool x0, .int .i64 x1, .int .i64 x2, .int .i64 x3, .int .i64 x4] 135 (0, 0))
  o : W.heap[w.heap.size + 1]? = some (.cells #[.bool y] 4 (0, 0))
  b : Below w.heap.size w W
variable {w W W' : World} {x0 y : Bool} {x1 x2 x3 x4 : Int}
theorem St.later (h : St w W x0 x1 x2 x3 x4 y) (hb : Below W.heap.size W W') : St w W' x0 x1 x2 x3 x4 y :=
  ⟨(hb.block _ (Array.getElem?_eq_some_iff.1 h.r).1).trans h.r, (hb.block _ (Array.getElem?_eq_some_iff.1 h.o).1).trans h.o, below_step h.b hb⟩
theorem St.new (w : World) (x0 : Bool) : St w ((w.alloc (.cells #[.bool x0, .int .i64 0, .int .i64 0, .int .i64 0, .int .i64 0] 135)).alloc (.cells #[.bool false] 4)) x0 0 0 0 0 false := by
  refine ⟨(Below.heap_alloc _ _ _ (by simp)).trans (World.alloc_heap_new w _), ?_, ((Below.refl _ w).alloc (Nat.le_refl _) _).alloc (by simp) _⟩
  have h := World.alloc_heap_new (w.alloc (.cells #[.bool x0, .int .i64 0, .int .i64 0, .int .i64 0, .int .i64 0] 135)) (.cells #[.bool false] 4)
  rw [World.size_alloc] at h
  exact h
theorem St.set1 (h : St w W x0 x1 x2 x3 x4 y) (v : Int) : St w (W.setCell ⟨w.heap.size, 1, none⟩ (.int .i64 v)) x0 v x2 x3 x4 y :=
  ⟨by simp [World.setCell, Array.getElem?_modify, h.r], by simp [World.setCell, Array.getElem?_modify, h.o], h.b.setCell (Nat.le_refl _) _⟩
theorem St.set2 (h : St w W x0 x1 x2 x3 x4 y) (v : Int) : St w (W.setCell ⟨w.heap.size, 2, none⟩ (.int .i64 v)) x0 x1 v x3 x4 y :=
  ⟨by simp [World.setCell, Array.getElem?_modify, h.r], by simp [World.setCell, Array.getElem?_modify, h.o], h.b.setCell (Nat.le_refl _) _⟩
theorem St.set3 (h : St w W x0 x1 x2 x3 x4 y) (v : Int) : St w (W.setCell ⟨w.heap.size, 3, none⟩ (.int .i64 v)) x0 x1 x2 v x4 y :=
  ⟨by simp [World.setCell, Array.getElem?_modify, h.r], by simp [World.setCell, Array.getElem?_modify, h.o], h.b.setCell (Nat.le_refl _) _⟩
theorem St.set4 (h : St w W x0 x1 x2 x3 x4 y) (v : Int) : St w (W.setCell ⟨w.heap.size, 4, none⟩ (.int .i64 v)) x0 x1 x2 x3 v y :=
  ⟨by simp [World.setCell, Array.getElem?_modify, h.r], by simp [World.setCell, Array.getElem?_modify, h.o], h.b.setCell (Nat.le_refl _) _⟩
theorem St.facts (h : St w W x0 x1 x2 x3 x4 y) : W.cell? ⟨w.heap.size, 0, none⟩ = some (.bool x0) ∧ W.cell? ⟨w.heap.size, 1, none⟩ = some (.int .i64 x1) ∧ W.cell? ⟨w.heap.size, 2, none⟩ = some (.int .i64 x2) ∧
    W.cell? ⟨w.heap.size, 3, none⟩ = some (.int .i64 x3) ∧ W.cell? ⟨w.heap.size, 4, none⟩ = some (.int .i64 x4) ∧ W.cell? ⟨w.heap.size + 1, 0, none⟩ = some (.bool y) ∧
    W.frozen? ⟨w.heap.size, 0, none⟩ = false ∧ W.frozen? ⟨w.heap.size, 1, none⟩ = false ∧ W.frozen? ⟨w.heap.size, 2, none⟩ = false ∧ W.frozen? ⟨w.heap.size, 3, none⟩ = false ∧ W.frozen? ⟨w.heap.size, 4, none⟩ = false ∧ W.frozen? ⟨w.heap.size + 1, 0, none⟩ = false := by
  have hr := h.r; have ho := h.o
  simp [World.cell?, World.frozen?, hr, ho]
theorem St.door (h : St w W x0 x1 x2 x3 x4 y) {tmps : Array Value} (h2 : tmps[2]? = some (.pointer (some ⟨w.heap.size, 0, none⟩))) (h3 : tmps[3]? = some (.pointer (some ⟨w.heap.size + 1, 0, none⟩))) {ws : List (List UInt8)} (hn : ruleOf ws = none) :
    bodyPostD Tryz.prog Tryz.f91 (fun e w' => Below w.heap.size w w' ∧ RuleEnd ws e) (Exit.panic [{ v := wrongV, recovered := false }])
      { tmps := tmps, defers := [{ target := Target.fn (Fn.func 133) #[.pointer (some ⟨w.heap.size, 0, none⟩), .pointer (some ⟨w.heap.size + 1, 0, none⟩)], args := #[] }] } W := by
  have e : (fun e w' => Below w.heap.size w w' ∧ RuleEnd ws e) = (fun e w' => Below w.heap.size w w' ∧ e = .returned (.tuple #[ruleV (false, 0, 0, 0, 0), .bool false])) := by
    funext e w'; unfold RuleEnd; rw [hn]
  rw [e]
  exact door_no h2 h3 h.r h.o h.b
theorem St.set0 (h : St w W x0 x1 x2 x3 x4 y) (v : Bool) : St w (W.setCell ⟨w.heap.size, 0, none⟩ (.bool v)) v x1 x2 x3 x4 y :=
  ⟨by simp [World.setCell, Array.getElem?_modify, h.r], by simp [World.setCell, Array.getElem?_modify, h.o], h.b.setCell (Nat.le_refl _) _⟩
theorem St.setO (h : St w W x0 x1 x2 x3 x4 y) (v : Bool) : St w (W.setCell ⟨w.heap.size + 1, 0, none⟩ (.bool v)) x0 x1 x2 x3 x4 v :=
  ⟨by simp [World.setCell, Array.getElem?_modify, h.r], by simp [World.setCell, Array.getElem?_modify, h.o], h.b.setCell (by simp) _⟩
set_option maxHeartbeats 1000000 in
set_option maxRecDepth 100000 in
theorem St.yes (h : St w W x0 x1 x2 x3 x4 true) {tmps : Array Value} (h2 : tmps[2]? = some (.pointer (some ⟨w.heap.size, 0, none⟩))) (h3 : tmps[3]? = some (.pointer (some ⟨w.heap.size + 1, 0, none⟩))) {ws : List (List UInt8)} (hn : ruleOf ws = some (x0, x1, x2, x3, x4)) :
    bodyPostD Tryz.prog Tryz.f91 (fun e w' => Below w.heap.size w w' ∧ RuleEnd ws e) Exit.ret
      { tmps := tmps, defers := [{ target := Target.fn (Fn.func 133) #[.pointer (some ⟨w.heap.size, 0, none⟩), .pointer (some ⟨w.heap.size + 1, 0, none⟩)], args := #[] }] } W := by
  refine leaves_cons (f := 133) (args := #[.pointer (some ⟨w.heap.size, 0, none⟩), .pointer (some ⟨w.heap.size + 1, 0, none⟩)]) (by simp) (by simp [go_sem]) ?_
  refine (catch_idle _ _ _).mono ?_
  rintro e u' w2 ⟨rfl, rfl, rfl⟩
  obtain ⟨k0, k1, k2, k3, k4, k5, -, -, -, -, -, -⟩ := h.facts
  simp [Leaves, settle, results, Tryz.results91, go_sem, h2, h3, k0, k1, k2, k3, k4, k5, RuleEnd, hn, ruleV]
  exact h.b
/-- A word of the line, at a later world. -/
def Words (A : Nat) (ws : List (List UInt8)) (W : World) : Prop := ∀ j, j < ws.length → W.cell? ⟨A, j, none⟩ = some (.string ⟨(ws.getD j []).toArray⟩)
theorem Words.later {A : Nat} {ws : List (List UInt8)} (h : Words A ws w) (hA : A < w.heap.size) (hb : Below w.heap.size w W) : Words A ws W := fun j hj => (hb.cell (p := ⟨A, j, none⟩) hA).trans (h j hj)

theorem ruleOf_five (a b c d p : List UInt8) : ruleOf [a, b, c, d, p] = if ((a == allowB || a == denyB) && c == [62]) = true then (nodesOf b).bind fun f => (nodesOf d).bind fun t => (portsOf p).map fun q => (a == allowB, f, t, q.1, q.2) else none := rfl

set_option maxHeartbeats 4000000 in
set_option maxRecDepth 100000 in
theorem rule_five (A cap : Nat) (a b c d p : List UInt8) (hlen : ∀ z ∈ [a, b, c, d, p], z.length ≤ 4294967280) (w : World) (hx : LaidW w) (hA : A < w.heap.size) (hw : Words A [a, b, c, d, p] w) :
    Calls Tryz.prog 91 #[.slice (some ⟨A, 0, none⟩) 5 cap] w fun e w' => Below w.heap.size w w' ∧ RuleEnd [a, b, c, d, p] e := by
  have hmf : ∀ (fn : Fn) (first cap : Array Value) (w : World), (Instr.makeFunc fn first cap).run Tryz.prog w = .ok (.func fn first cap) w := fun _ _ _ _ => rfl
  have g0 : w.cell? ⟨A, 0, none⟩ = some (.string ⟨a.toArray⟩) := hw 0 (by simp)
  have g2 : w.cell? ⟨A, 2, none⟩ = some (.string ⟨c.toArray⟩) := hw 2 (by simp)
  have HW := Lib.hid hw; have HLEN := Lib.hid hlen; have HX := Lib.hid hx
  have hAn : ¬ A = w.heap.size := by omega
  have hAn1 : ¬ A = w.heap.size + 1 := by omega
  clear hw hlen hx
  by_cases hc : c = [62]
  · have hc1 : (c == [62]) = true := by rw [hc]; decide
    clear hc
    have hcase : ((a == [97, 108, 108, 111, 119]) = true ∧ Hid ((a == allowB || a == denyB) = true)) ∨ ((a == [97, 108, 108, 111, 119]) = false ∧ (a == [100, 101, 110, 121]) = true ∧ Hid ((a == allowB || a == denyB) = true)) ∨ ((a == [97, 108, 108, 111, 119]) = false ∧ (a == [100, 101, 110, 121]) = false ∧ Hid ((a == allowB || a == denyB) = false)) := by
      cases h1 : (a == [97, 108, 108, 111, 119])
      · cases h2 : (a == [100, 101, 110, 121])
        · exact .inr (.inr ⟨rfl, rfl, by simp [allowB, denyB, h1, h2, Hid]⟩)
        · exact .inr (.inl ⟨rfl, rfl, by simp [allowB, denyB, h2, Hid]⟩)
      · exact .inl ⟨rfl, by simp [allowB, h1, Hid]⟩
    have HC1 := Lib.hid hc1
    rcases hcase with ⟨ha1, hh⟩ | ⟨ha1, hd1, hh⟩ | ⟨ha1, hd1, hh⟩
    · have HAL : Hid ((a == allowB) = true) := Lib.hid ha1
      have hr : ruleOf [a, b, c, d, p] = (nodesOf b).bind fun f => (nodesOf d).bind fun t => (portsOf p).map fun q => (true, f, t, q.1, q.2) := by
        rw [ruleOf_five, hh.out, HC1.out, HAL.out]; rfl
      have HR := Lib.hid hr
      clear hr hh
      go_enter_defers Tryz.func91, Tryz.ntmps91
      go_wp2_with fail
      refine (must_yes _).mono ?_
      rintro e w3 ⟨rfl, rfl⟩
      have g1 : w.cell? ⟨A, 1, none⟩ = some (.string ⟨b.toArray⟩) := HW.out 1 (by simp)
      go_wp2_with fail
      refine (nodes_any b (Nat.le_trans (HLEN.out b (by simp)) (by decide)) _).mono ?_
      rintro e w2 ⟨hb2, he⟩
      have S2 := (St.new w true).later hb2
      clear hb2 g0 g1 g2
      unfold NodesEnd at he
      cases hnb : nodesOf b with
      | none =>
        rw [hnb] at he
        simp only at he
        subst he
        have HN := Lib.hid (show ruleOf [a, b, c, d, p] = none by rw [HR.out, hnb]; rfl)
        clear hnb
        have HS2 := Lib.hid S2
        clear S2
        go_wp2
        exact HS2.out.door rfl rfl HN.out
      | some f =>
        rw [hnb] at he
        simp only at he
        subst he
        have HNB := Lib.hid hnb
        clear hnb
        obtain ⟨k0, k1, k2, k3, k4, k5, l0, l1, l2, l3, l4, l5⟩ := S2.facts
        have g3 : w2.cell? ⟨A, 3, none⟩ = some (.string ⟨d.toArray⟩) := HW.out.later hA S2.b 3 (by simp)
        have HS2 := Lib.hid S2
        clear S2
        go_wp2_with fail
        refine (nodes_any d (Nat.le_trans (HLEN.out d (by simp)) (by decide)) _).mono ?_
        rintro e w3 ⟨hb3, he⟩
        have S3 := (HS2.out.set1 f).later hb3
        clear hb3 k0 k1 k2 k3 k4 k5 l0 l1 l2 l3 l4 l5 g3
        unfold NodesEnd at he
        cases hnd : nodesOf d with
        | none =>
          rw [hnd] at he
          simp only at he
          subst he
          have HN := Lib.hid (show ruleOf [a, b, c, d, p] = none by rw [HR.out, HNB.out]; simp [hnd])
          clear hnd
          have HS3 := Lib.hid S3
          clear S3
          go_wp2
          exact HS3.out.door rfl rfl HN.out
        | some t =>
          rw [hnd] at he
          simp only at he
          subst he
          have HND := Lib.hid hnd
          clear hnd
          obtain ⟨k0, k1, k2, k3, k4, k5, l0, l1, l2, l3, l4, l5⟩ := S3.facts
          have g4 : w3.cell? ⟨A, 4, none⟩ = some (.string ⟨p.toArray⟩) := HW.out.later hA S3.b 4 (by simp)
          have HS3 := Lib.hid S3
          have HX3 := Lib.hid (HX.out.below (S3.set2 t).b)
          clear S3
          go_wp2_with fail
          refine (ports_any p (HLEN.out p (by simp)) _ HX3.out).mono ?_
          rintro e w4 ⟨hb4, he⟩
          have S4 := (HS3.out.set2 t).later hb4
          clear hb4 k0 k1 k2 k3 k4 k5 l0 l1 l2 l3 l4 l5 g4
          unfold PortsEnd at he
          cases hpp : portsOf p with
          | none =>
            rw [hpp] at he
            simp only at he
            subst he
            have HN := Lib.hid (show ruleOf [a, b, c, d, p] = none by rw [HR.out, HNB.out]; simp [HND.out, hpp])
            clear hpp
            have HS4 := Lib.hid S4
            clear S4
            go_wp2
            exact HS4.out.door rfl rfl HN.out
          | some q =>
            obtain ⟨lo, hi⟩ := q
            rw [hpp] at he
            simp only at he
            subst he
            have HRR := Lib.hid (show ruleOf [a, b, c, d, p] = some (true, f, t, lo, hi) by rw [HR.out, HNB.out]; simp [HND.out, hpp])
            clear hpp
            obtain ⟨k0, k1, k2, k3, k4, k5, l0, l1, l2, l3, l4, l5⟩ := S4.facts
            have HS4 := Lib.hid S4
            clear S4
            go_wp2
            exact ((((((((HS4.out.set3 lo).set4 hi).set0 true).set1 f).set2 t).set3 lo).set4 hi).setO true).yes rfl rfl HRR.out
    · have HAL : Hid ((a == allowB) = false) := Lib.hid ha1
      have hr : ruleOf [a, b, c, d, p] = (nodesOf b).bind fun f => (nodesOf d).bind fun t => (portsOf p).map fun q => (false, f, t, q.1, q.2) := by
        rw [ruleOf_five, hh.out, HC1.out, HAL.out]; rfl
      have HR := Lib.hid hr
      clear hr hh
      go_enter_defers Tryz.func91, Tryz.ntmps91
      go_wp2_with fail
      refine (must_yes _).mono ?_
      rintro e w3 ⟨rfl, rfl⟩
      have g1 : w.cell? ⟨A, 1, none⟩ = some (.string ⟨b.toArray⟩) := HW.out 1 (by simp)
      go_wp2_with fail
      refine (nodes_any b (Nat.le_trans (HLEN.out b (by simp)) (by decide)) _).mono ?_
      rintro e w2 ⟨hb2, he⟩
      have S2 := (St.new w false).later hb2
      clear hb2 g0 g1 g2
      unfold NodesEnd at he
      cases hnb : nodesOf b with
      | none =>
        rw [hnb] at he
        simp only at he
        subst he
        have HN := Lib.hid (show ruleOf [a, b, c, d, p] = none by rw [HR.out, hnb]; rfl)
        clear hnb
        have HS2 := Lib.hid S2
        clear S2
        go_wp2
        exact HS2.out.door rfl rfl HN.out
      | some f =>
        rw [hnb] at he
        simp only at he
        subst he
        have HNB := Lib.hid hnb
        clear hnb
        obtain ⟨k0, k1, k2, k3, k4, k5, l0, l1, l2, l3, l4, l5⟩ := S2.facts
        have g3 : w2.cell? ⟨A, 3, none⟩ = some (.string ⟨d.toArray⟩) := HW.out.later hA S2.b 3 (by simp)
        have HS2 := Lib.hid S2
        clear S2
        go_wp2_with fail
        refine (nodes_any d (Nat.le_trans (HLEN.out d (by simp)) (by decide)) _).mono ?_
        rintro e w3 ⟨hb3, he⟩
        have S3 := (HS2.out.set1 f).later hb3
        clear hb3 k0 k1 k2 k3 k4 k5 l0 l1 l2 l3 l4 l5 g3
        unfold NodesEnd at he
        cases hnd : nodesOf d with
        | none =>
          rw [hnd] at he
          simp only at he
          subst he
          have HN := Lib.hid (show ruleOf [a, b, c, d, p] = none by rw [HR.out, HNB.out]; simp [hnd])
          clear hnd
          have HS3 := Lib.hid S3
          clear S3
          go_wp2
          exact HS3.out.door rfl rfl HN.out
        | some t =>
          rw [hnd] at he
          simp only at he
          subst he
          have HND := Lib.hid hnd
          clear hnd
          obtain ⟨k0, k1, k2, k3, k4, k5, l0, l1, l2, l3, l4, l5⟩ := S3.facts
          have g4 : w3.cell? ⟨A, 4, none⟩ = some (.string ⟨p.toArray⟩) := HW.out.later hA S3.b 4 (by simp)
          have HS3 := Lib.hid S3
          have HX3 := Lib.hid (HX.out.below (S3.set2 t).b)
          clear S3
          go_wp2_with fail
          refine (ports_any p (HLEN.out p (by simp)) _ HX3.out).mono ?_
          rintro e w4 ⟨hb4, he⟩
          have S4 := (HS3.out.set2 t).later hb4
          clear hb4 k0 k1 k2 k3 k4 k5 l0 l1 l2 l3 l4 l5 g4
          unfold PortsEnd at he
          cases hpp : portsOf p with
          | none =>
            rw [hpp] at he
            simp only at he
            subst he
            have HN := Lib.hid (show ruleOf [a, b, c, d, p] = none by rw [HR.out, HNB.out]; simp [HND.out, hpp])
            clear hpp
            have HS4 := Lib.hid S4
            clear S4
            go_wp2
            exact HS4.out.door rfl rfl HN.out
          | some q =>
            obtain ⟨lo, hi⟩ := q
            rw [hpp] at he
            simp only at he
            subst he
            have HRR := Lib.hid (show ruleOf [a, b, c, d, p] = some (false, f, t, lo, hi) by rw [HR.out, HNB.out]; simp [HND.out, hpp])
            clear hpp
            obtain ⟨k0, k1, k2, k3, k4, k5, l0, l1, l2, l3, l4, l5⟩ := S4.facts
            have HS4 := Lib.hid S4
            clear S4
            go_wp2
            exact ((((((((HS4.out.set3 lo).set4 hi).set0 false).set1 f).set2 t).set3 lo).set4 hi).setO true).yes rfl rfl HRR.out
    · have hn : ruleOf [a, b, c, d, p] = none := by
        rw [ruleOf_five, hh.out]; simp
      have HN := Lib.hid hn
      clear hn
      go_enter_defers Tryz.func91, Tryz.ntmps91
      go_wp2_with fail
      refine (must_no _).mono ?_
      rintro e w3 ⟨rfl, rfl⟩
      go_wp2
      exact (St.new w false).door rfl rfl HN.out
  · have hc1 : (c == [62]) = false := by simpa using hc
    have hn : ruleOf [a, b, c, d, p] = none := by
      rw [ruleOf_five, hc1]; simp
    have HN := Lib.hid hn
    clear hn hc
    by_cases ha : (a == [97, 108, 108, 111, 119]) = true
    · go_enter_defers Tryz.func91, Tryz.ntmps91
      go_wp2_with fail
      refine (must_no _).mono ?_
      rintro e w3 ⟨rfl, rfl⟩
      go_wp2
      exact (St.new w false).door rfl rfl HN.out
    · have ha1 : (a == [97, 108, 108, 111, 119]) = false := by simpa using ha
      clear ha
      by_cases hd : (a == [100, 101, 110, 121]) = true
      · go_enter_defers Tryz.func91, Tryz.ntmps91
        go_wp2_with fail
        refine (must_no _).mono ?_
        rintro e w3 ⟨rfl, rfl⟩
        go_wp2
        exact (St.new w false).door rfl rfl HN.out
      · have hd1 : (a == [100, 101, 110, 121]) = false := by simpa using hd
        clear hd
        go_enter_defers Tryz.func91, Tryz.ntmps91
        go_wp2_with fail
        refine (must_no _).mono ?_
        rintro e w3 ⟨rfl, rfl⟩
        go_wp2
        exact (St.new w false).door rfl rfl HN.out
theorem ruleOf_not5 : ∀ (ws : List (List UInt8)), ws.length ≠ 5 → ruleOf ws = none
  | [], _ => rfl
  | [_], _ => rfl
  | [_, _], _ => rfl
  | [_, _, _], _ => rfl
  | [_, _, _, _], _ => rfl
  | [_, _, _, _, _], h => absurd rfl h
  | _ :: _ :: _ :: _ :: _ :: _ :: _, _ => rfl
theorem rule_any (A n cap : Nat) (ws : List (List UInt8)) (hn : ws.length = n) (hlen : ∀ z ∈ ws, z.length ≤ 4294967280) (w : World) (hx : LaidW w) (hA : A < w.heap.size) (hw : Words A ws w) :
    Calls Tryz.prog 91 #[.slice (some ⟨A, 0, none⟩) n cap] w fun e w' => Below w.heap.size w w' ∧ RuleEnd ws e := by
  by_cases h5 : n = 5
  · subst h5
    match ws, hn with
    | [a, b, c, d, p], _ => exact rule_five A cap a b c d p hlen w hx hA hw
  · refine (rule_not5 (some ⟨A, 0, none⟩) n cap h5 w).mono ?_
    rintro e w' ⟨hb, he⟩
    refine ⟨hb, ?_⟩
    unfold RuleEnd
    rw [ruleOf_not5 ws (by omega)]
    exact he
end Go.Proofs.YthnpiimiimiijaaGreatDoor.Acl
