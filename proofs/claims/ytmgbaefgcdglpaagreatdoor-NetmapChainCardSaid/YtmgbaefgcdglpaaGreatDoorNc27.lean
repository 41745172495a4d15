/- Diff: its steps. The netmaps of the book of the chapter. Peers compared by the program. -/
import Derived.Test.YtmgbaefgcdglpaaGreatDoorNc26
import Derived.Test.YtmgbaefgcdglpaaGreatDoorNc25
import Derived.Test.YtmgbaefgcdglpaaGreatDoorNc18
section
namespace Go.Proofs.YtmgbaefgcdglpaaGreatDoor.Net
open Go Go.RowKit Go.Proofs Go.Proofs.YtmgbaefgcdglpaaGreatDoorW.PrintWords Go.Proofs.YtmgbaefgcdglpaaGreatDoorW.PrintLast Go.Proofs.YtmgbaefgcdglpaaGreatDoorW.PrintMore Go.Proofs.YtmgbaefgcdglpaaGreatDoor.Dir
set_option linter.unusedVariables false
set_option linter.unusedSimpArgs false
theorem okM_few {m : NMap} (h : okM m = true) : m.peers.length ≤ 8 := by
 rw [← peers_read h]
 exact Nat.le_trans (List.length_filterMap_le _ _) (by decide)
theorem peersGo_spans (c s : Int) : ∀ (l : List Peer) (last : Int) (ks : List Key), peersGo c s last ks l = true → ∀ p ∈ l, p.inn.length ≤ 33 ∧ p.out.length ≤ 33
 | [], _, _, _, p, hp => by cases hp
 | q :: l, last, ks, h, p, hp => by
  unfold peersGo at h
  rw [Bool.and_eq_true] at h
  rcases List.mem_cons.1 hp with rfl | hp
  ·have h1 := h.1
   unfold peerOk at h1
   simp only [Bool.and_eq_true] at h1
   have ha := h1.1.1.2
   have hb := h1.1.2
   unfold spansOk at ha hb
   rw [Bool.and_eq_true] at ha hb
   exact ⟨of_decide_eq_true ha.2, of_decide_eq_true hb.2⟩
  ·exact peersGo_spans c s l q.node _ h.2 p hp
theorem okM_spans {m : NMap} (h : okM m = true) {p : Peer} (hp : p ∈ m.peers) : p.inn.length ≤ 33 ∧ p.out.length ≤ 33 := by
 unfold okM headOk at h
 simp only [Bool.and_eq_true] at h
 have h2 := h.2.2
 by_cases hk : m.key = key0
 ·rw [if_pos hk, Bool.and_eq_true] at h2
  have h3 := h2.2
  rw [List.isEmpty_iff] at h3
  rw [h3] at hp
  cases hp
 ·rw [if_neg hk] at h2
  simp only [Bool.and_eq_true] at h2
  exact peersGo_spans _ _ _ _ _ h2.2 p hp
theorem diff_step {p : Peer} {l old tk old' : List Peer} {g : List Int} {s : List Peer} (h : old = tk ++ old') (ht : ∀ q ∈ tk, q.node < p.node) (h2 : ∀ q r, old' = q :: r → ¬ q.node < p.node) : diffGo (p :: l) old g s = (match old' with
  | [] => diffGo l [] (g ++ tk.map (·.node)) (s ++ [p])
  | q :: r => if q.node = p.node then (if q = p then diffGo l r (g ++ tk.map (·.node)) s else diffGo l r (g ++ tk.map (·.node)) (s ++ [p])) else diffGo l (q :: r) (g ++ tk.map (·.node)) (s ++ [p])) := by
 have e1 : old.takeWhile (fun q => decide (q.node < p.node)) = tk := by
  rw [h, List.takeWhile_append_of_pos (by intro q hq; simpa using ht q hq)]
  cases old' with
  | nil => simp
  | cons q r => rw [List.takeWhile_cons_of_neg (by simpa using h2 q r rfl), List.append_nil]
 have e2 : old.dropWhile (fun q => decide (q.node < p.node)) = old' := by
  rw [h, List.dropWhile_append_of_pos (by intro q hq; simpa using ht q hq)]
  cases old' with
  | nil => rfl
  | cons q r => rw [List.dropWhile_cons_of_neg (by simpa using h2 q r rfl)]
 rw [diffGo, e1, e2]
 cases old' <;> rfl
theorem exec_bslice {P : Program} {w w' : World} (t : TypeId) (n : Nat) (fs : Array (Nat × Operand)) (o : Oper) (ho : o.op = .buildSlice t n fs) (a : Act) (vs : Array (Nat × Value)) (he : (fs.map fun (i, x) => (i, a.eval x)) = vs) (r : Value)
  (hr : (Instr.buildSlice t n vs).run P w = .ok r w') : (execOp a.eval o).run P w = .ok (.value r) w' := by
 subst he
 unfold execOp
 simp only [ho, Sem.run_bind]
 rw [hr]
 rfl
theorem exec_index {P : Program} {w w' : World} (t : TypeId) (x y : Operand) (o : Oper) (ho : o.op = .indexAddr t x y) (a : Act) (u v : Value) (hx : a.eval x = u) (hy : a.eval y = v) (r : Value)
  (hr : (Instr.indexAt t u v).run P w = .ok r w') : (execOp a.eval o).run P w = .ok (.value r) w' := by
 subst hx hy
 unfold execOp
 simp only [ho, Sem.run_bind]
 rw [hr]
 rfl
theorem exec_slice1 {P : Program} {w w' : World} (t : TypeId) (x y : Operand) (o : Oper) (ho : o.op = .slice t x (some y) none none) (a : Act) (u v : Value) (hx : a.eval x = u) (hy : a.eval y = v) (r : Value)
  (hr : (Instr.sliceAt t u (some v) none none).run P w = .ok r w') : (execOp a.eval o).run P w = .ok (.value r) w' := by
 subst hx hy
 unfold execOp
 simp only [ho, Sem.run_bind, Option.map_some, Option.map_none]
 rw [hr]
 rfl
theorem at_slice {P : Program} {ops : Array Oper} {rest : List Oper} {dst : Option Tmp} {ty : TypeId} {pos : String} {after : Array Edge} {g : Option (Nat × Bool)} {a : Act} {w : World} {Q : Exit → Act → World → Prop} (t : TypeId) (x y : Operand) (h : wpList P ops Q (⟨dst, .slice t x (some y) none none, ty, pos, after, g⟩ :: rest) a w) : wpList P ops Q (⟨dst, .slice t x (some y) none none, ty, pos, after, g⟩ :: rest) a w := h
theorem sliceAt29 (A : Option Addr) (n c : Nat) (h1 : 1 ≤ n) (hc : n ≤ c) (W : World) : (Instr.sliceAt 29 (.slice A n c) (some (.int .i64 1)) none none).run Tryz.prog W = .ok (.slice (if c = 1 then A else A.map (·.add 36)) (n - 1) (c - 1)) W := by
 have := slice29 A n c h1 hc W
 unfold Instr.sliceAt
 simp only [Sem.run_bind, run_underlying und29, Result.andThen_ok]
 exact this
theorem sliceAt29c (A : Option Addr) (q : Peer) (r : List Peer) (c : Nat) (hc : (q :: r).length ≤ c) (W : World) : (Instr.sliceAt 29 (.slice A (q :: r).length c) (some (.int .i64 1)) none none).run Tryz.prog W = .ok (.slice (if c = 1 then A else A.map (·.add 36)) r.length (c - 1)) W :=
 sliceAt29 A (q :: r).length c (by simp) hc W
theorem indexAt29 (g o n c : Nat) (h : 0 < n) (W : World) : (Instr.indexAt 29 (.slice (some ⟨g, o, none⟩) n c) (.int .i64 0)).run Tryz.prog W = .ok (.pointer (some ⟨g, o, none⟩)) W := by
 have hs := siz29 W
 simp [Instr.indexAt, run_underlying und29, asInt, hs, Result.andThen, h, go_sem]
theorem field55_6 (w : World) (b : Nat) : (Instr.fieldAt 55 (.pointer (some ⟨b, 0, none⟩)) 6).run Tryz.prog w = .ok (.pointer (some ⟨b, 37, none⟩)) w := by
 simp [Instr.fieldAt, run_underlying Tryz.underlying55, Instr.sureAddr, fieldPlace, go_sem]
theorem field55_7 (w : World) (b : Nat) : (Instr.fieldAt 55 (.pointer (some ⟨b, 0, none⟩)) 7).run Tryz.prog w = .ok (.pointer (some ⟨b, 38, none⟩)) w := by
 simp [Instr.fieldAt, run_underlying Tryz.underlying55, Instr.sureAddr, fieldPlace, go_sem]
theorem field48_0 (w : World) (b o : Nat) : (Instr.fieldAt 48 (.pointer (some ⟨b, o, none⟩)) 0).run Tryz.prog w = .ok (.pointer (some ⟨b, o, none⟩)) w := by
 simp [Instr.fieldAt, run_underlying Tryz.underlying48, Instr.sureAddr, fieldPlace, go_sem]
theorem buildI (w : World) (n : Int) : (Instr.buildSlice 53 1 #[(0, .int .i64 n)]).run Tryz.prog w = .ok (.slice (some ⟨w.heap.size, 0, none⟩) 1 1) (w.alloc (.cells #[.int .i64 n] 3)) := by
 have hz := Tryz.zeroValue3 w
 have hs := Tryz.sizeOf3 w
 simp [Instr.buildSlice, run_underlying Tryz.underlying53, hz, hs, Instr.fill, Value.cells, go_sem]
theorem grown_of_below {w W : World} {row : Option Nat} (h : Below w.heap.size w W) : w.grownBy W row := ⟨h.os, h.tape, h.output, h.size, fun k hk _ => h.block k hk⟩
theorem wanted_true {P : Program} {o : Oper} {a : Act} {w : World} {K : Act → World → Prop} {Q : Exit → Act → World → Prop} {ops : Array Oper} {X : Prop} (hg : o.guard = none) (h : if Region.wanted o (yielded ops a.tmps) = true then o.wp P a w K Q else X) : o.wp P a w K Q := by
 have hw : Region.wanted o (yielded ops a.tmps) = true := by unfold Region.wanted; rw [hg]
 rw [if_pos hw] at h
 exact h
theorem OnD.keep {a b : NMap} {w w5 W : World} {b6 : Nat} {g : List Int} {s : List Peer} {k : Nat} {cells : Array Value} {q : Nat} (h : OnD a b w w5 b6 g s W) (hk : W.heap[k]? = some (.cells cells q (0, 0))) (hq : q ≠ 3 ∧ q ≠ 80) : ∀ vg, kInt.R 3 W w5.heap.size (fun k => w5.heap.size ≤ k) vg g → some k ≠ vg.ownBlock := by
 intro vg hG e
 exact Kd.R_ne hG hk (fun e2 => hq.1 e2.symm) e
section
variable (b6 ga oa n c : Nat) (A : Option Addr) (x : Int) (vg : Value)
def G11 : Nat → Value → World → Prop := fun i v _ => match i with
 | 0 => v = .pointer (some ⟨b6, 37, none⟩)
 | 1 => v = vg
 | 2 => v = .slice (some ⟨ga, oa, none⟩) n c
 | 3 => v = .pointer (some ⟨ga, oa, none⟩)
 | 4 => v = .pointer (some ⟨ga, oa, none⟩)
 | 5 => v = .int .i64 x
 | 8 => v = .pointer (some ⟨b6, 37, none⟩)
 | _ => True
end
structure M11 (a b : NMap) (w w5 : World) (b6 : Nat) (g : List Int) (s : List Peer) (x : Int) (vg : Value) (wr : World) (l : Array Bool) (y : Act) (W : World) : Prop where
 s0 : l.getD 6 false = false → Below wr.heap.size wr W
 s1 : l.getD 6 false = true → l.getD 7 false = false → ∃ Wp, W = Wp.alloc (.cells #[.int .i64 x] 3) ∧ Below wr.heap.size wr Wp ∧ y.tmps.getD 77 undef = .slice (some ⟨Wp.heap.size, 0, none⟩) 1 1
 s2 : l.getD 7 false = true → l.getD 9 false = false → kInt.R 3 W w5.heap.size (fun k => w5.heap.size ≤ k) (y.tmps.getD 78 undef) (g ++ [x]) ∧ Below w5.heap.size wr W ∧ wr.grownBy W vg.ownBlock
 s3 : l.getD 9 false = true → OnD a b w w5 b6 (g ++ [x]) s W ∧ KeepBut wr W b6 vg.ownBlock
theorem M11.cell {a b : NMap} {w w5 : World} {b6 : Nat} {g : List Int} {s : List Peer} {x : Int} {vg : Value} {wr : World} {l : Array Bool} {y : Act} {W : World} (h : M11 a b w w5 b6 g s x vg wr l y W) (h7 : ¬ l.getD 7 false = true) : Below wr.heap.size wr W := by
 have h7 : l.getD 7 false = false := by simpa using h7
 cases h6 : l.getD 6 false with
 | false => exact h.s0 h6
 | true =>
  obtain ⟨Wp, rfl, h1, -⟩ := h.s1 h6 h7
  exact h1.alloc h1.size _
theorem M11.step {a b : NMap} {w w5 : World} {b6 : Nat} {g : List Int} {s : List Peer} {x : Int} {vg : Value} {wr : World} {l : Array Bool} {y y' : Act} {W : World} {i : Nat} (h : M11 a b w w5 b6 g s x vg wr l y W) (h6 : i ≠ 6) (h7 : i ≠ 7) (h9 : i ≠ 9) (e1 : y'.tmps.getD 77 undef = y.tmps.getD 77 undef) (e2 : y'.tmps.getD 78 undef = y.tmps.getD 78 undef) : M11 a b w w5 b6 g s x vg wr (l.setIfInBounds i true) y' W := by
 refine ⟨?_, ?_, ?_, ?_⟩
 ·rw [setB h6]; exact h.s0
 ·rw [setB h6, setB h7, e1]; exact h.s1
 ·rw [setB h7, setB h9, e2]; exact h.s2
 ·rw [setB h9]; exact h.s3
section
variable (b6 nb : Nat) (p : Peer) (X : Array Value) (vs : Value)
def G17 : Nat → Value → World → Prop := fun i v _ => match i with
 | 0 => v = .pointer (some ⟨b6, 38, none⟩)
 | 1 => v = vs
 | 2 => v = .agg X
 | 6 => v = .pointer (some ⟨b6, 38, none⟩)
 | _ => True
end
structure M17 (a b : NMap) (w w5 : World) (b6 : Nat) (g : List Int) (s : List Peer) (p : Peer) (vs : Value) (wr : World) (l : Array Bool) (y : Act) (W : World) : Prop where
 s0 : l.getD 4 false = false → Below wr.heap.size wr W
 s1 : l.getD 3 false = true → l.getD 4 false = false → ∃ x1 x2, y.tmps.getD 105 undef = .agg (peerV p x1 x2).toArray ∧ kSp.R 80 W wr.heap.size (fun k => wr.heap.size ≤ k) x1 p.inn ∧ kSp.R 80 W wr.heap.size (fun k => wr.heap.size ≤ k) x2 p.out
 s2 : l.getD 4 false = true → l.getD 5 false = false → ∃ Wp x1 x2, W = Wp.alloc (.cells (peerV p x1 x2).toArray 48) ∧ Below wr.heap.size wr Wp ∧ y.tmps.getD 106 undef = .slice (some ⟨Wp.heap.size, 0, none⟩) 1 1 ∧ kSp.R 80 Wp wr.heap.size (fun k => wr.heap.size ≤ k) x1 p.inn ∧ kSp.R 80 Wp wr.heap.size (fun k => wr.heap.size ≤ k) x2 p.out
 s3 : l.getD 5 false = true → l.getD 7 false = false → kPeer.R 48 W w5.heap.size (fun k => w5.heap.size ≤ k) (y.tmps.getD 107 undef) (s ++ [p]) ∧ Below w5.heap.size wr W ∧ wr.grownBy W vs.ownBlock
 s4 : l.getD 7 false = true → OnD a b w w5 b6 g (s ++ [p]) W
theorem M17.cell {a b : NMap} {w w5 : World} {b6 : Nat} {g : List Int} {s : List Peer} {p : Peer} {vs : Value} {wr : World} {l : Array Bool} {y : Act} {W : World} (h : M17 a b w w5 b6 g s p vs wr l y W) (h5 : ¬ l.getD 5 false = true) : Below wr.heap.size wr W := by
 have h5 : l.getD 5 false = false := by simpa using h5
 cases h4 : l.getD 4 false with
 | false => exact h.s0 h4
 | true =>
  obtain ⟨Wp, x1, x2, rfl, h1, -⟩ := h.s2 h4 h5
  exact h1.alloc h1.size _
theorem M17.step {a b : NMap} {w w5 : World} {b6 : Nat} {g : List Int} {s : List Peer} {p : Peer} {vs : Value} {wr : World} {l : Array Bool} {y y' : Act} {W : World} {i : Nat} (h : M17 a b w w5 b6 g s p vs wr l y W) (h3 : i ≠ 3) (h4 : i ≠ 4) (h5 : i ≠ 5) (h7 : i ≠ 7) (e1 : y'.tmps.getD 105 undef = y.tmps.getD 105 undef) (e2 : y'.tmps.getD 106 undef = y.tmps.getD 106 undef) (e3 : y'.tmps.getD 107 undef = y.tmps.getD 107 undef) : M17 a b w w5 b6 g s p vs wr (l.setIfInBounds i true) y' W := by
 refine ⟨?_, ?_, ?_, ?_, ?_⟩
 ·rw [setB h4]; exact h.s0
 ·rw [setB h3, setB h4, e1]; exact h.s1
 ·rw [setB h4, setB h5, e2]; exact h.s2
 ·rw [setB h5, setB h7, e3]; exact h.s3
 ·rw [setB h7]; exact h.s4
end Go.Proofs.YtmgbaefgcdglpaaGreatDoor.Net
end
section
namespace Go.Proofs.YtmgbaefgcdglpaaGreatDoor.Net
open Go Go.RowKit Go.Proofs Go.Proofs.YtmgbaefgcdglpaaGreatDoorW.PrintWords Go.Proofs.YtmgbaefgcdglpaaGreatDoorW.PrintLast Go.Proofs.YtmgbaefgcdglpaaGreatDoorW.PrintMore Go.Proofs.YtmgbaefgcdglpaaGreatDoor.Dir
set_option linter.unusedVariables false
set_option linter.unusedSimpArgs false
theorem chap_wf : WF chapB := by constructor <;> first | decide | simp [chapB, chDev1, chDev2, maxN, takenB]
theorem chap_ok : OkB chapB := ok_of chap_wf (by kernel_rfl)
def chMap1 : NMap := ⟨3, 0, 1, keyU 1, 50, [⟨2, keyU 2, 60, [], [⟨80, 90⟩]⟩]⟩
def chMap2 : NMap := ⟨3, 0, 2, keyU 2, 60, [⟨1, keyU 1, 50, [⟨80, 90⟩], []⟩]⟩
def chMap3 : NMap := ⟨3, 0, 3, key0, 0, []⟩
set_option maxRecDepth 100000 in
theorem chap_points : PA.pointsOf (rulesB chapB) = [0, 80, 91] := by
 unfold PA.pointsOf
 rw [List.mergeSort_of_pairwise (by decide +kernel)]
 decide +kernel
theorem chap_sp (a b : Int) : spB chapB a b = PA.spansGo (fun p => PA.allowsV (rulesB chapB) a b p) [0, 80, 91, 65536] [] := by
 unfold spB PA.spansV
 rw [chap_points]
 rfl
set_option maxRecDepth 100000 in
theorem chap_sp12 : spB chapB 1 2 = [⟨80, 90⟩] := by rw [chap_sp]; kernel_rfl
set_option maxRecDepth 100000 in
theorem chap_sp21 : spB chapB 2 1 = [] := by rw [chap_sp]; kernel_rfl
theorem chap_any1 (sp : Int → Int → List Sp) (h1 : sp 1 2 = [⟨80, 90⟩]) (h2 : sp 2 1 = []) : ofV sp chapB 1 = chMap1 := by
 simp [ofV, ownD, peersOf, talks, live, peerOf, chapB, chDev1, chDev2, chMap1, h1, h2]
theorem chap_any2 (sp : Int → Int → List Sp) (h1 : sp 1 2 = [⟨80, 90⟩]) (h2 : sp 2 1 = []) : ofV sp chapB 2 = chMap2 := by
 simp [ofV, ownD, peersOf, talks, live, peerOf, chapB, chDev1, chDev2, chMap2, h1, h2]
theorem chap_one : ofV (spB chapB) chapB 1 = chMap1 := chap_any1 _ chap_sp12 chap_sp21
theorem chap_two : ofV (spB chapB) chapB 2 = chMap2 := chap_any2 _ chap_sp12 chap_sp21
theorem chap_three : ofV (spB chapB) chapB 3 = chMap3 := by
 simp [ofV, ownD, live, chapB, chDev1, chDev2, chMap3]
theorem chap_diff : diffOf chMap1 chMap1 = (⟨3, 3, 0, 1, keyU 1, 50, [], []⟩, 0) := diff_self (by have := okM_ofB chap_ok (n := 1) rfl; rwa [chap_one] at this)
end Go.Proofs.YtmgbaefgcdglpaaGreatDoor.Net
end
section
namespace Go.Proofs.YtmgbaefgcdglpaaGreatDoor.Net
open Go Go.RowKit Go.Proofs Go.Proofs.YtmgbaefgcdglpaaGreatDoorW.PrintWords Go.Proofs.YtmgbaefgcdglpaaGreatDoorW.PrintLast Go.Proofs.YtmgbaefgcdglpaaGreatDoorW.PrintMore Go.Proofs.YtmgbaefgcdglpaaGreatDoor.Dir
set_option linter.unusedVariables false
set_option linter.unusedSimpArgs false
set_option maxHeartbeats 4000000 in
set_option maxRecDepth 100000 in
theorem same121 (l m : List Sp) (A0 A1 : Option Addr) (c0 c1 : Nat) (w : World) (h0 : SpAt w A0 c0 l) (h1 : SpAt w A1 c1 m) :
  Calls Tryz.prog 121 #[.slice A0 l.length c0, .slice A1 m.length c1, .func (.func 122) #[] #[]] w fun e w' => e = .returned (.bool (decide (l = m))) ∧ Below w.heap.size w w' := by
 have hcall := Aside0.mk (equalFunc168 l m A0 A1 c0 c1 w h0 h1)
 clear h0 h1
 go_enter Tryz.func121, Tryz.ntmps121
 go_wp2_with (go_at_call 168; refine hcall.out.mono ?_; rintro e w' ⟨rfl, hb⟩)
 go_ret
 exact ⟨rfl, hb⟩
set_option maxHeartbeats 4000000 in
set_option maxRecDepth 100000 in
theorem equalPeer68 (p q : Peer) (A1 A2 A3 A4 : Option Addr) (c1 c2 c3 c4 : Nat) (w : World) (hp : PIn w p A1 c1 A2 c2) (hq : PIn w q A3 c3 A4 c4) :
  Calls Tryz.prog 68 #[.agg (peerCells p A1 c1 A2 c2).toArray, .agg (peerCells q A3 c3 A4 c4).toArray] w fun e w' => e = .returned (.bool (decide (p = q))) ∧ Below w.heap.size w w' := by
 obtain ⟨W0, hW0⟩ : ∃ W0, W0 = (w.alloc (.cells (peerCells p A1 c1 A2 c2).toArray 48)).alloc (.cells (peerCells q A3 c3 A4 c4).toArray 48) := ⟨_, rfl⟩
 obtain ⟨b0, hb0⟩ : ∃ b0, b0 = w.heap.size := ⟨_, rfl⟩
 have hbw : Below w.heap.size w W0 := by rw [hW0]; exact ((Below.refl _ w).alloc (Nat.le_refl _) _).alloc (by simp) _
 have q1 : W0.heap[b0]? = some (.cells (peerCells p A1 c1 A2 c2).toArray 48 (0, 0)) := by rw [hW0, hb0, Below.heap_alloc _ _ _ (by simp)]; exact heap_alloc_new w _
 have q2 : W0.heap[b0 + 1]? = some (.cells (peerCells q A3 c3 A4 c4).toArray 48 (0, 0)) := by rw [hW0, hb0]; have := heap_alloc_new (w.alloc (.cells (peerCells p A1 c1 A2 c2).toArray 48)) (.cells (peerCells q A3 c3 A4 c4).toArray 48); simpa using this
 have k0 : W0.cell? ⟨b0, 0, none⟩ = some (.int .i64 p.node) := by rw [cell_of_heap q1]; rfl
 have m0 : W0.cell? ⟨b0 + 1, 0, none⟩ = some (.int .i64 q.node) := by rw [cell_of_heap q2]; rfl
 have k33 : W0.cell? ⟨b0, 33, none⟩ = some (.int .i64 p.exp) := by rw [cell_of_heap q1]; exact peer33 p A1 c1 A2 c2
 have m33 : W0.cell? ⟨b0 + 1, 33, none⟩ = some (.int .i64 q.exp) := by rw [cell_of_heap q2]; exact peer33 q A3 c3 A4 c4
 have k34 : W0.cell? ⟨b0, 34, none⟩ = some (.slice A1 p.inn.length c1) := by rw [cell_of_heap q1]; exact peer34 p A1 c1 A2 c2
 have m34 : W0.cell? ⟨b0 + 1, 34, none⟩ = some (.slice A3 q.inn.length c3) := by rw [cell_of_heap q2]; exact peer34 q A3 c3 A4 c4
 have l1 := Aside0.mk (run_loadAtK Tryz.prog W0 28 32 Tryz.isAgg28 Tryz.sizeOf28 b0 1 (encK p.key) (encK_len _) (fun j v hj => by rw [cell_of_heap q1]; exact peerK p A1 c1 A2 c2 j v hj))
 have l2 := Aside0.mk (run_loadAtK Tryz.prog W0 28 32 Tryz.isAgg28 Tryz.sizeOf28 (b0 + 1) 1 (encK q.key) (encK_len _) (fun j v hj => by rw [cell_of_heap q2]; exact peerK q A3 c3 A4 c4 j v hj))
 have HI := Aside0.mk (same121 p.inn q.inn A1 A3 c1 c3 W0 (hp.inn.below hbw) (hq.inn.below hbw))
 have HO := Aside0.mk (fun (W : World) (hb : Below W0.heap.size W0 W) => And.intro (same121 p.out q.out A2 A4 c2 c4 W ((hp.out.below hbw).below hb) ((hq.out.below hbw).below hb)) (And.intro (show W.cell? ⟨b0, 35, none⟩ = some (.slice A2 p.out.length c2) by rw [cell_of_heap (roomN q1 hb)]; exact peer35 p A1 c1 A2 c2) (show W.cell? ⟨b0 + 1, 35, none⟩ = some (.slice A4 q.out.length c4) by rw [cell_of_heap (roomN q2 hb)]; exact peer35 q A3 c3 A4 c4)))
 have HB := Aside0.mk hbw
 obtain ⟨X, hX⟩ : ∃ X, X = (peerCells p A1 c1 A2 c2).toArray := ⟨_, rfl⟩
 obtain ⟨Y, hY⟩ : ∃ Y, Y = (peerCells q A3 c3 A4 c4).toArray := ⟨_, rfl⟩
 rw [← hX, ← hY] at hW0 ⊢
 have he := eqlK p.key q.key
 have hgd := fun op a b w => guardK op a b p.key q.key w
 have he3 := eqlK q.key q.key
 have hgd3 := fun op a b w => guardK op a b q.key q.key w
 clear q1 q2 hbw hp hq hX hY
 go_enter Tryz.func68, Tryz.ntmps68
 go_upto_region 1 with fail
 rw [← hW0, ← hb0]
 clear hW0 hb0
 by_cases h1 : p.node = q.node
 case neg =>
  have d1 : decide (p.node = q.node) = false := decide_eq_false h1
  go_wp2_with fail
  go_ret
  exact ⟨by rw [decide_eq_false (fun e => h1 (by rw [e]))]; rfl, HB.out⟩
 have d1 : decide (p.node = q.node) = true := decide_eq_true h1
 by_cases h2 : p.key = q.key
 case neg =>
  have d2 : decide (p.key = q.key) = false := decide_eq_false h2
  go_wp2_with (first | ((with_reducible refine at_load 28 (.tmp 11) ?_); refine wpList_loadW (by rfl) 28 (.tmp 11) rfl _ rfl _ l1.out ?_) | ((with_reducible refine at_load 28 (.tmp 13) ?_); refine wpList_loadW (by rfl) 28 (.tmp 13) rfl _ rfl _ l2.out ?_))
  go_ret
  exact ⟨by rw [decide_eq_false (fun e => h2 (by rw [e]))]; rfl, HB.out⟩
 have d2 : decide (p.key = q.key) = true := decide_eq_true h2
 by_cases h3 : p.exp = q.exp
 case neg =>
  have d3 : decide (p.exp = q.exp) = false := decide_eq_false h3
  go_wp2_with (first | ((with_reducible refine at_load 28 (.tmp 11) ?_); refine wpList_loadW (by rfl) 28 (.tmp 11) rfl _ rfl _ l1.out ?_) | ((with_reducible refine at_load 28 (.tmp 13) ?_); refine wpList_loadW (by rfl) 28 (.tmp 13) rfl _ rfl _ l2.out ?_))
  go_ret
  exact ⟨by rw [decide_eq_false (fun e => h3 (by rw [e]))]; rfl, HB.out⟩
 have d3 : decide (p.exp = q.exp) = true := decide_eq_true h3
 go_wp2_with (first | ((with_reducible refine at_load 28 (.tmp 11) ?_); refine wpList_loadW (by rfl) 28 (.tmp 11) rfl _ rfl _ l1.out ?_) | ((with_reducible refine at_load 28 (.tmp 13) ?_); refine wpList_loadW (by rfl) 28 (.tmp 13) rfl _ rfl _ l2.out ?_))
 refine HI.out.mono ?_
 rintro e w1 ⟨rfl, hb1⟩
 obtain ⟨ho, k35, m35⟩ := HO.out w1 hb1
 have HOO := Aside0.mk ho
 have HB1 := Aside0.mk (below_step HB.out hb1)
 clear ho hb1
 by_cases h4 : p.inn = q.inn
 case neg =>
  have d4 : decide (p.inn = q.inn) = false := decide_eq_false h4
  go_wp2_with fail
  go_ret
  exact ⟨by rw [decide_eq_false (fun e => h4 (by rw [e]))]; rfl, HB1.out⟩
 have d4 : decide (p.inn = q.inn) = true := decide_eq_true h4
 go_wp2_with fail
 refine HOO.out.mono ?_
 rintro e w2 ⟨rfl, hb2⟩
 have HB2 := Aside0.mk (below_step HB1.out hb2)
 clear hb2
 go_wp2_with fail
 go_ret
 have hd : decide (p = q) = decide (p.out = q.out) := by
  by_cases h5 : p.out = q.out
  ·rw [decide_eq_true h5, decide_eq_true ((peer_eq p q).2 ⟨h1, h2, h3, h4, h5⟩)]
  ·rw [decide_eq_false h5, decide_eq_false (fun e => h5 (by rw [e]))]
 exact ⟨by rw [hd]; rfl, HB2.out⟩
end Go.Proofs.YtmgbaefgcdglpaaGreatDoor.Net
end
