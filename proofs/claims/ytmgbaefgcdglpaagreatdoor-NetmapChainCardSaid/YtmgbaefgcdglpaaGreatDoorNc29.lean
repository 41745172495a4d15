/- Of at the chapter; what works builds. Netmaps compared. works: the netmaps of the chapter. What Of and find tell. Apply: its steps. Both and Just, plain. -/
import Derived.Test.YtmgbaefgcdglpaaGreatDoorNc27
import Derived.Test.YtmgbaefgcdglpaaGreatDoorNc28
import Derived.Test.YtmgbaefgcdglpaaGreatDoorNc19
import Derived.Test.YtmgbaefgcdglpaaGreatDoorNc25
import Derived.Test.YtmgbaefgcdglpaaGreatDoorNc26
import Derived.Test.YtmgbaefgcdglpaaGreatDoorNc20
section
namespace Go.Proofs.YtmgbaefgcdglpaaGreatDoor.Net
open Go Go.RowKit Go.Proofs Go.Proofs.YtmgbaefgcdglpaaGreatDoorW.PrintWords Go.Proofs.YtmgbaefgcdglpaaGreatDoorW.PrintLast Go.Proofs.YtmgbaefgcdglpaaGreatDoorW.PrintMore Go.Proofs.YtmgbaefgcdglpaaGreatDoor.Dir
set_option linter.unusedVariables false
set_option linter.unusedSimpArgs false
theorem build31_3 (w : World) (v n : Int) : (Instr.build 31 #[(0, .int .i64 v), (2, .int .i64 n)]).run Tryz.prog w = .ok (.agg (mapV v 0 n key0 0 (.slice none 0 0)).toArray) w := by
 refine run_build31 w _ _ ?_
 refine (fill_at _ (mapV 0 0 0 key0 0 (.slice none 0 0)) (mapV v 0 0 key0 0 (.slice none 0 0)) 0 _ _ 0 1 rfl rfl (by simp [mapV]) rfl).trans ?_
 exact (fill_at _ (mapV v 0 0 key0 0 (.slice none 0 0)) (mapV v 0 n key0 0 (.slice none 0 0)) 2 _ _ 2 1 rfl rfl (by simp [mapV]) rfl).trans rfl
theorem build31_5 (w : World) (v n : Int) (k : Key) (e : Int) (x : Value) (hx : x.cells = #[x]) : (Instr.build 31 #[(0, .int .i64 v), (2, .int .i64 n), (3, .agg (encK k).toArray), (4, .int .i64 e), (5, x)]).run Tryz.prog w = .ok (.agg (mapV v 0 n k e x).toArray) w := by
 refine run_build31 w _ _ ?_
 refine (fill_at _ (mapV 0 0 0 key0 0 (.slice none 0 0)) (mapV v 0 0 key0 0 (.slice none 0 0)) 0 _ _ 0 1 rfl rfl (by simp [mapV]) rfl).trans ?_
 refine (fill_at _ (mapV v 0 0 key0 0 (.slice none 0 0)) (mapV v 0 n key0 0 (.slice none 0 0)) 2 _ _ 2 1 rfl rfl (by simp [mapV]) rfl).trans ?_
 refine (fill_at _ (mapV v 0 n key0 0 (.slice none 0 0)) (mapV v 0 n k 0 (.slice none 0 0)) 3 _ _ 3 32 rfl (by simp [Value.cells, encK_len]) (by simp [mapV_len]) ?_).trans ?_
 ·exact splice_mid [.int .i64 v, .int .i64 0, .int .i64 n] (encK key0) [.int .i64 0, .slice none 0 0] (encK k) 3 rfl (by rw [encK_len, encK_len])
 refine (fill_at _ (mapV v 0 n k 0 (.slice none 0 0)) (mapV v 0 n k e (.slice none 0 0)) 4 _ _ 35 1 rfl rfl (by simp [mapV_len]) ?_).trans ?_
 ·have := splice_mid (.int .i64 v :: .int .i64 0 :: .int .i64 n :: encK k) [.int .i64 0] [.slice none 0 0] [.int .i64 e] 35 (by simp [encK_len]) rfl
  simpa [mapV, Value.cells] using this
 refine (fill_at _ (mapV v 0 n k e (.slice none 0 0)) (mapV v 0 n k e x) 5 _ _ 36 1 rfl (by rw [hx]; rfl) (by simp [mapV_len]) ?_).trans rfl
 have := splice_mid (.int .i64 v :: .int .i64 0 :: .int .i64 n :: (encK k ++ [.int .i64 e])) [.slice none 0 0] [] [x] 36 (by simp [encK_len]) rfl
 rw [hx]
 simpa [mapV] using this
theorem build48_4 (w : World) (n : Int) (k : Key) (e : Int) (x : Value) (hx : x.cells = #[x]) : (Instr.build 48 #[(0, .int .i64 n), (1, .agg (encK k).toArray), (2, .int .i64 e), (4, x)]).run Tryz.prog w = .ok (.agg (peerV ⟨n, k, e, [], []⟩ (.slice none 0 0) x).toArray) w := by
 let Z : Int → Key → Int → Value → Value → List Value := fun n k e a b => .int .i64 n :: (encK k ++ [.int .i64 e, a, b])
 have hl : ∀ n k e a b, (Z n k e a b).length = 36 := fun n k e a b => by simp [Z, encK_len]
 refine run_build48 w _ _ ?_
 refine (fill_at _ (Z 0 key0 0 (.slice none 0 0) (.slice none 0 0)) (Z n key0 0 (.slice none 0 0) (.slice none 0 0)) 0 _ _ 0 1 rfl rfl (by simp [hl]) rfl).trans ?_
 refine (fill_at _ (Z n key0 0 (.slice none 0 0) (.slice none 0 0)) (Z n k 0 (.slice none 0 0) (.slice none 0 0)) 1 _ _ 1 32 rfl (by simp [Value.cells, encK_len]) (by simp [hl]) ?_).trans ?_
 ·exact splice_mid [.int .i64 n] (encK key0) [.int .i64 0, .slice none 0 0, .slice none 0 0] (encK k) 1 rfl (by rw [encK_len, encK_len])
 refine (fill_at _ (Z n k 0 (.slice none 0 0) (.slice none 0 0)) (Z n k e (.slice none 0 0) (.slice none 0 0)) 2 _ _ 33 1 rfl rfl (by simp [hl]) ?_).trans ?_
 ·have := splice_mid (.int .i64 n :: encK k) [.int .i64 0] [.slice none 0 0, .slice none 0 0] [.int .i64 e] 33 (by simp [encK_len]) rfl
  simpa [Z, Value.cells] using this
 refine (fill_at _ (Z n k e (.slice none 0 0) (.slice none 0 0)) (Z n k e (.slice none 0 0) x) 4 _ _ 35 1 rfl (by rw [hx]; rfl) (by simp [hl]) ?_).trans rfl
 have := splice_mid (.int .i64 n :: (encK k ++ [.int .i64 e, .slice none 0 0])) [.slice none 0 0] [] [x] 35 (by simp [encK_len]) rfl
 rw [hx]
 simpa [Z] using this
theorem build48_3 (w : World) (n : Int) (k : Key) (e : Int) (x : Value) (hx : x.cells = #[x]) : (Instr.build 48 #[(0, .int .i64 n), (1, .agg (encK k).toArray), (2, .int .i64 e), (3, x)]).run Tryz.prog w = .ok (.agg (peerV ⟨n, k, e, [], []⟩ x (.slice none 0 0)).toArray) w := by
 let Z : Int → Key → Int → Value → Value → List Value := fun n k e a b => .int .i64 n :: (encK k ++ [.int .i64 e, a, b])
 have hl : ∀ n k e a b, (Z n k e a b).length = 36 := fun n k e a b => by simp [Z, encK_len]
 refine run_build48 w _ _ ?_
 refine (fill_at _ (Z 0 key0 0 (.slice none 0 0) (.slice none 0 0)) (Z n key0 0 (.slice none 0 0) (.slice none 0 0)) 0 _ _ 0 1 rfl rfl (by simp [hl]) rfl).trans ?_
 refine (fill_at _ (Z n key0 0 (.slice none 0 0) (.slice none 0 0)) (Z n k 0 (.slice none 0 0) (.slice none 0 0)) 1 _ _ 1 32 rfl (by simp [Value.cells, encK_len]) (by simp [hl]) ?_).trans ?_
 ·exact splice_mid [.int .i64 n] (encK key0) [.int .i64 0, .slice none 0 0, .slice none 0 0] (encK k) 1 rfl (by rw [encK_len, encK_len])
 refine (fill_at _ (Z n k 0 (.slice none 0 0) (.slice none 0 0)) (Z n k e (.slice none 0 0) (.slice none 0 0)) 2 _ _ 33 1 rfl rfl (by simp [hl]) ?_).trans ?_
 ·have := splice_mid (.int .i64 n :: encK k) [.int .i64 0] [.slice none 0 0, .slice none 0 0] [.int .i64 e] 33 (by simp [encK_len]) rfl
  simpa [Z, Value.cells] using this
 refine (fill_at _ (Z n k e (.slice none 0 0) (.slice none 0 0)) (Z n k e x (.slice none 0 0)) 3 _ _ 34 1 rfl (by rw [hx]; rfl) (by simp [hl]) ?_).trans rfl
 have := splice_mid (.int .i64 n :: (encK k ++ [.int .i64 e])) [.slice none 0 0] [.slice none 0 0] [x] 34 (by simp [encK_len]) rfl
 rw [hx]
 simpa [Z] using this
theorem zeroS80 (w : World) : (zeroValue 80).run Tryz.prog w = .ok (.agg #[.int .i64 0, .int .i64 0]) w := by first | exact Tryz.zeroValue80 w | (rw [Tryz.zeroValue80]; first | rfl | kernel_rfl)
theorem build80 (w : World) (a b : Int) : (Instr.build 80 #[(0, .int .i64 a), (1, .int .i64 b)]).run Tryz.prog w = .ok (.agg #[.int .i64 a, .int .i64 b]) w := by
 have hz := zeroS80 w
 simp only [Instr.build, Sem.run_bind, hz, Result.andThen_ok, run_underlying Tryz.underlying80, Value.cells]
 simp [Tryz.sizeOf3, Instr.fill, Value.cells, go_sem]
theorem buildSp (w : World) (a b : Int) : (Instr.buildSlice 45 1 #[(0, .agg #[.int .i64 a, .int .i64 b])]).run Tryz.prog w = .ok (.slice (some ⟨w.heap.size, 0, none⟩) 1 1) (w.alloc (.cells #[.int .i64 a, .int .i64 b] 80)) :=
 run_buildSlice1 Tryz.prog w 45 80 2 _ Tryz.underlying45 Tryz.sizeOf80 zeroS80 (by decide) (by decide) [.int .i64 a, .int .i64 b] rfl
theorem SpAt.one {w : World} {b : Nat} {x y : Int} (h : w.heap[b]? = some (.cells #[.int .i64 x, .int .i64 y] 80 (0, 0))) : SpAt w (some ⟨b, 0, none⟩) 1 [⟨x, y⟩] := by
 refine ⟨Nat.le_refl _, rfl, by simp, fun _ => ⟨_, rfl, fun j s hj => ?_⟩⟩
 have hj0 : j = 0 := by have := (List.getElem?_eq_some_iff.1 hj).1; simpa using this
 subst hj0
 cases hj
 refine ⟨[.int .i64 x, .int .i64 y], rfl, ⟨[.int .i64 x], [.int .i64 y], rfl, rfl, rfl⟩, fun i u hu => ?_⟩
 rw [Dir.add_at, Nat.zero_mul, Nat.zero_add, Nat.zero_add, cell_of_heap (cur := [.int .i64 x, .int .i64 y]) h]
 exact hu
theorem PsAt.one {w : World} {b : Nat} {p : Peer} {A1 A2 : Option Addr} {c1 c2 : Nat} (h : w.heap[b]? = some (.cells (peerCells p A1 c1 A2 c2).toArray 48 (0, 0))) (hin : PIn w p A1 c1 A2 c2) : PsAt w (some ⟨b, 0, none⟩) 1 [p] := by
 refine ⟨Nat.le_refl _, rfl, by simp, fun _ => ⟨_, rfl, fun j s hj => ?_⟩⟩
 have hj0 : j = 0 := by have := (List.getElem?_eq_some_iff.1 hj).1; simpa using this
 subst hj0
 cases hj
 refine ⟨peerCells p A1 c1 A2 c2, peerCells_len _ _ _ _ _, kPeer_mk hin, fun i u hu => ?_⟩
 rw [Dir.add_at, Nat.zero_mul, Nat.zero_add, Nat.zero_add, cell_of_heap h]
 exact hu
theorem of_chap (n : Int) (m : NMap) (hn : nodeIn n = true) (hm : ofV (spB chapB) chapB n = m) (hv : m.ver = 3) (hc : m.clock = 0) (hs : m.node = n) (A : Option Addr) (w : World) (h : SrcB w chapB A none) (hx : PA.LaidW w) :
  Calls Tryz.prog 15 #[.agg (bookCells chapB A 2 none 0).toArray, .int .i64 n] w fun e w' => ∃ PA pc, e = .returned (.tuple #[.agg (mapCells m PA pc).toArray, .int .i64 0]) ∧ PsAt w' PA pc m.peers ∧ Below w.heap.size w w' := by
 refine (of15 chapB n A 2 none 0 w h hx).mono ?_
 rintro e w' ⟨hend, hb⟩
 rcases hend with ⟨hno, -⟩ | ⟨-, hno, -⟩ | ⟨-, -, v, rfl, hR⟩
 ·exact absurd chap_ok hno
 ·rw [hn] at hno; cases hno
 ·rw [hm] at hR ⊢
  obtain ⟨PA, pc, rfl, hps⟩ := peerR_val hR
  refine ⟨PA, pc, ?_, hps, hb⟩
  unfold mapCells
  rw [hv, hc, hs]
  rfl
end Go.Proofs.YtmgbaefgcdglpaaGreatDoor.Net
end
section
namespace Go.Proofs.YtmgbaefgcdglpaaGreatDoor.Net
open Go Go.RowKit Go.Proofs Go.Proofs.YtmgbaefgcdglpaaGreatDoorW.PrintWords Go.Proofs.YtmgbaefgcdglpaaGreatDoorW.PrintLast Go.Proofs.YtmgbaefgcdglpaaGreatDoorW.PrintMore Go.Proofs.YtmgbaefgcdglpaaGreatDoor.Dir
set_option linter.unusedVariables false
set_option linter.unusedSimpArgs false
theorem map_eq (a b : NMap) : a = b ↔ a.ver = b.ver ∧ a.clock = b.clock ∧ a.node = b.node ∧ a.key = b.key ∧ a.exp = b.exp ∧ a.peers = b.peers := by
 constructor
 ·rintro rfl; exact ⟨rfl, rfl, rfl, rfl, rfl, rfl⟩
 ·rintro ⟨h1, h2, h3, h4, h5, h6⟩
  cases a; cases b
  simp only at h1 h2 h3 h4 h5 h6
  rw [h1, h2, h3, h4, h5, h6]
set_option maxHeartbeats 4000000 in
set_option maxRecDepth 100000 in
theorem same18 (a b : NMap) (A1 A2 : Option Addr) (c1 c2 : Nat) (w : World) (ha : PsAt w A1 c1 a.peers) (hb : PsAt w A2 c2 b.peers) :
  Calls Tryz.prog 18 #[.agg (mapCells a A1 c1).toArray, .agg (mapCells b A2 c2).toArray] w fun e w' => e = .returned (.bool (decide (a = b))) ∧ Below w.heap.size w w' := by
 obtain ⟨W0, hW0⟩ : ∃ W0, W0 = (w.alloc (.cells (mapCells a A1 c1).toArray 31)).alloc (.cells (mapCells b A2 c2).toArray 31) := ⟨_, rfl⟩
 obtain ⟨b0, hb0⟩ : ∃ b0, b0 = w.heap.size := ⟨_, rfl⟩
 have hbw : Below w.heap.size w W0 := by rw [hW0]; exact ((Below.refl _ w).alloc (Nat.le_refl _) _).alloc (by simp) _
 have q1 : W0.heap[b0]? = some (.cells (mapCells a A1 c1).toArray 31 (0, 0)) := by rw [hW0, hb0, Below.heap_alloc _ _ _ (by simp)]; exact heap_alloc_new w _
 have q2 : W0.heap[b0 + 1]? = some (.cells (mapCells b A2 c2).toArray 31 (0, 0)) := by rw [hW0, hb0]; have := heap_alloc_new (w.alloc (.cells (mapCells a A1 c1).toArray 31)) (.cells (mapCells b A2 c2).toArray 31); simpa using this
 have k0 : W0.cell? ⟨b0, 0, none⟩ = some (.int .i64 a.ver) := by rw [cell_of_heap q1]; rfl
 have m0 : W0.cell? ⟨b0 + 1, 0, none⟩ = some (.int .i64 b.ver) := by rw [cell_of_heap q2]; rfl
 have k1 : W0.cell? ⟨b0, 1, none⟩ = some (.int .i64 a.clock) := by rw [cell_of_heap q1]; rfl
 have m1 : W0.cell? ⟨b0 + 1, 1, none⟩ = some (.int .i64 b.clock) := by rw [cell_of_heap q2]; rfl
 have k2 : W0.cell? ⟨b0, 2, none⟩ = some (.int .i64 a.node) := by rw [cell_of_heap q1]; rfl
 have m2 : W0.cell? ⟨b0 + 1, 2, none⟩ = some (.int .i64 b.node) := by rw [cell_of_heap q2]; rfl
 have k35 : W0.cell? ⟨b0, 35, none⟩ = some (.int .i64 a.exp) := by rw [cell_of_heap q1]; exact map35 a A1 c1
 have m35 : W0.cell? ⟨b0 + 1, 35, none⟩ = some (.int .i64 b.exp) := by rw [cell_of_heap q2]; exact map35 b A2 c2
 have k36 : W0.cell? ⟨b0, 36, none⟩ = some (.slice A1 a.peers.length c1) := by rw [cell_of_heap q1]; exact map36 a A1 c1
 have m36 : W0.cell? ⟨b0 + 1, 36, none⟩ = some (.slice A2 b.peers.length c2) := by rw [cell_of_heap q2]; exact map36 b A2 c2
 have l1 := Aside0.mk (run_loadAtK Tryz.prog W0 28 32 Tryz.isAgg28 Tryz.sizeOf28 b0 3 (encK a.key) (encK_len _) (fun j v hj => by rw [cell_of_heap q1]; exact mapK a A1 c1 j v hj))
 have l2 := Aside0.mk (run_loadAtK Tryz.prog W0 28 32 Tryz.isAgg28 Tryz.sizeOf28 (b0 + 1) 3 (encK b.key) (encK_len _) (fun j v hj => by rw [cell_of_heap q2]; exact mapK b A2 c2 j v hj))
 have HP := Aside0.mk (samePeers55 a.peers b.peers A1 A2 c1 c2 W0 (ha.below hbw) (hb.below hbw))
 have HB := Aside0.mk hbw
 obtain ⟨X, hX⟩ : ∃ X, X = (mapCells a A1 c1).toArray := ⟨_, rfl⟩
 obtain ⟨Y, hY⟩ : ∃ Y, Y = (mapCells b A2 c2).toArray := ⟨_, rfl⟩
 rw [← hX, ← hY] at hW0 ⊢
 have he := eqlK a.key b.key
 have hgd := fun op x y w => guardK op x y a.key b.key w
 have he3 := eqlK b.key b.key
 have hgd3 := fun op x y w => guardK op x y b.key b.key w
 clear q1 q2 hbw ha hb hX hY
 go_enter Tryz.func18, Tryz.ntmps18
 go_upto_region 1 with fail
 rw [← hW0, ← hb0]
 clear hW0 hb0
 by_cases h0 : a.ver = b.ver
 case neg =>
  have d0 : decide (a.ver = b.ver) = false := decide_eq_false h0
  go_wp2_with (first | ((with_reducible refine at_load 28 (.tmp 25) ?_); refine wpList_loadW (by rfl) 28 (.tmp 25) rfl _ rfl _ l1.out ?_) | ((with_reducible refine at_load 28 (.tmp 27) ?_); refine wpList_loadW (by rfl) 28 (.tmp 27) rfl _ rfl _ l2.out ?_))
  go_ret
  exact ⟨by rw [decide_eq_false (fun e => h0 (by rw [e]))]; rfl, HB.out⟩
 have d0 : decide (a.ver = b.ver) = true := decide_eq_true h0
 by_cases h1 : a.clock = b.clock
 case neg =>
  have d1 : decide (a.clock = b.clock) = false := decide_eq_false h1
  go_wp2_with (first | ((with_reducible refine at_load 28 (.tmp 25) ?_); refine wpList_loadW (by rfl) 28 (.tmp 25) rfl _ rfl _ l1.out ?_) | ((with_reducible refine at_load 28 (.tmp 27) ?_); refine wpList_loadW (by rfl) 28 (.tmp 27) rfl _ rfl _ l2.out ?_))
  go_ret
  exact ⟨by rw [decide_eq_false (fun e => h1 (by rw [e]))]; rfl, HB.out⟩
 have d1 : decide (a.clock = b.clock) = true := decide_eq_true h1
 by_cases h2 : a.node = b.node
 case neg =>
  have d2 : decide (a.node = b.node) = false := decide_eq_false h2
  go_wp2_with (first | ((with_reducible refine at_load 28 (.tmp 25) ?_); refine wpList_loadW (by rfl) 28 (.tmp 25) rfl _ rfl _ l1.out ?_) | ((with_reducible refine at_load 28 (.tmp 27) ?_); refine wpList_loadW (by rfl) 28 (.tmp 27) rfl _ rfl _ l2.out ?_))
  go_ret
  exact ⟨by rw [decide_eq_false (fun e => h2 (by rw [e]))]; rfl, HB.out⟩
 have d2 : decide (a.node = b.node) = true := decide_eq_true h2
 by_cases h3 : a.key = b.key
 case neg =>
  have d3 : decide (a.key = b.key) = false := decide_eq_false h3
  go_wp2_with (first | ((with_reducible refine at_load 28 (.tmp 25) ?_); refine wpList_loadW (by rfl) 28 (.tmp 25) rfl _ rfl _ l1.out ?_) | ((with_reducible refine at_load 28 (.tmp 27) ?_); refine wpList_loadW (by rfl) 28 (.tmp 27) rfl _ rfl _ l2.out ?_))
  go_ret
  exact ⟨by rw [decide_eq_false (fun e => h3 (by rw [e]))]; rfl, HB.out⟩
 have d3 : decide (a.key = b.key) = true := decide_eq_true h3
 by_cases h4 : a.exp = b.exp
 case neg =>
  have d4 : decide (a.exp = b.exp) = false := decide_eq_false h4
  go_wp2_with (first | ((with_reducible refine at_load 28 (.tmp 25) ?_); refine wpList_loadW (by rfl) 28 (.tmp 25) rfl _ rfl _ l1.out ?_) | ((with_reducible refine at_load 28 (.tmp 27) ?_); refine wpList_loadW (by rfl) 28 (.tmp 27) rfl _ rfl _ l2.out ?_))
  go_ret
  exact ⟨by rw [decide_eq_false (fun e => h4 (by rw [e]))]; rfl, HB.out⟩
 have d4 : decide (a.exp = b.exp) = true := decide_eq_true h4
 go_wp2_with (first | ((with_reducible refine at_load 28 (.tmp 25) ?_); refine wpList_loadW (by rfl) 28 (.tmp 25) rfl _ rfl _ l1.out ?_) | ((with_reducible refine at_load 28 (.tmp 27) ?_); refine wpList_loadW (by rfl) 28 (.tmp 27) rfl _ rfl _ l2.out ?_))
 refine HP.out.mono ?_
 rintro e w1 ⟨rfl, hb1⟩
 have HB1 := Aside0.mk (below_step HB.out hb1)
 clear hb1
 go_wp2_with fail
 go_ret
 have hd : decide (a = b) = decide (a.peers = b.peers) := by
  by_cases h5 : a.peers = b.peers
  ·rw [decide_eq_true h5, decide_eq_true ((map_eq a b).2 ⟨h0, h1, h2, h3, h4, h5⟩)]
  ·rw [decide_eq_false h5, decide_eq_false (fun e => h5 (by rw [e]))]
 exact ⟨by rw [hd]; rfl, HB1.out⟩
end Go.Proofs.YtmgbaefgcdglpaaGreatDoor.Net
end
section
namespace Go.Proofs.YtmgbaefgcdglpaaGreatDoor.Net
open Go Go.RowKit Go.Proofs Go.Proofs.YtmgbaefgcdglpaaGreatDoorW.PrintWords Go.Proofs.YtmgbaefgcdglpaaGreatDoorW.PrintLast Go.Proofs.YtmgbaefgcdglpaaGreatDoorW.PrintMore Go.Proofs.YtmgbaefgcdglpaaGreatDoor.Dir
set_option linter.unusedVariables false
set_option linter.unusedSimpArgs false
set_option maxHeartbeats 4000000 in
set_option maxRecDepth 100000 in
theorem works20 (w : World) (hx : PA.LaidW w) : Calls Tryz.prog 20 #[] w fun e w' => e = .returned (.bool true) ∧ Below w.heap.size w w' := by
 obtain ⟨K1, hK1⟩ : ∃ K1, K1 = (encK (keyU 1)).toArray := ⟨_, rfl⟩
 obtain ⟨K2, hK2⟩ : ∃ K2, K2 = (encK (keyU 2)).toArray := ⟨_, rfl⟩
 have HX := Aside0.mk hx
 have BK1 := Aside0.mk (fun W => buildK1 1 W)
 have BK2 := Aside0.mk (fun W => buildK1 2 W)
 rw [← hK1] at BK1
 rw [← hK2] at BK2
 have HK1 := Aside0.mk hK1
 have HK2 := Aside0.mk hK2
 clear hx hK1 hK2
 go_enter Tryz.func20, Tryz.ntmps20
 go_wp2_with fail
 refine (chapter47 w).mono ?_
 rintro e w1 ⟨A, rfl, hsrc, hb1⟩
 obtain ⟨b1, hb1'⟩ : ∃ b1, b1 = w1.heap.size := ⟨_, rfl⟩
 obtain ⟨wb0, hwb0⟩ : ∃ wb0, wb0 = w1.alloc (.cells (bookCells chapB A 2 none 0).toArray 25) := ⟨_, rfl⟩
 have hb2 : Below w1.heap.size w1 wb0 := by rw [hwb0]; exact (Below.refl _ w1).alloc (Nat.le_refl _) _
 have BW0 := Aside0.mk (below_step hb1 hb2)
 have SRC0 := Aside0.mk (hsrc.later hb2)
 have Q0 := Aside0.mk (show wb0.heap[b1]? = some (.cells (bookCells chapB A 2 none 0).toArray 25 (0, 0)) by rw [hwb0, hb1']; exact heap_alloc_new w1 _)
 have st := Aside0.mk (fun (C : Array Value) (hc : C.size = 5) => run_storeNew Tryz.prog w1 25 5 (by kernel_rfl) C (bookCells chapB A 2 none 0).toArray hc rfl (fun u hu => by
  have hu : u ∈ bookCells chapB A 2 none 0 := by simpa using hu
  unfold bookCells at hu
  simp only [List.mem_cons, List.not_mem_nil, or_false] at hu
  rcases hu with rfl | rfl | rfl | rfl | rfl <;> rfl))
 obtain ⟨X, hX⟩ : ∃ X, X = (bookCells chapB A 2 none 0).toArray := ⟨_, rfl⟩
 have HXX := Aside0.mk hX
 rw [← hX] at hwb0 st ⊢
 clear hX hb1 hb2 hsrc
 go_upto_region 2 with ((with_reducible refine at_store 25 (.tmp 1) (.tmp 13) ?_); refine wpList_storeK rfl 25 (.tmp 1) (.tmp 13) rfl rfl _ _ rfl rfl _ (st.out _ rfl) ?_)
 rw [← hwb0, ← hb1']
 clear hwb0 hb1' st
 have lb1 := Aside0.mk (run_loadAtK Tryz.prog wb0 25 5 Tryz.isAgg25 Tryz.sizeOf25 b1 0 (bookCells chapB A 2 none 0) rfl (cells_of_heap Q0.out))
 have OC1 := Aside0.mk (of_chap 1 chMap1 rfl chap_one rfl rfl rfl A wb0 SRC0.out (HX.out.below BW0.out))
 rw [← HXX.out] at lb1 OC1
 go_wp2_with ((with_reducible refine at_load 25 (.tmp 1) ?_); refine wpList_loadK rfl 25 (.tmp 1) rfl _ rfl _ lb1.out ?_)
 refine OC1.out.mono ?_
 rintro e wa1 ⟨PA1, pc1, rfl, hps, hba⟩
 obtain ⟨m1, hm1⟩ : ∃ m1, m1 = wa1.heap.size := ⟨_, rfl⟩
 obtain ⟨wb1, hwwb1⟩ : ∃ wb1, wb1 = wa1.alloc (.cells (mapCells chMap1 PA1 pc1).toArray 31) := ⟨_, rfl⟩
 have hbb : Below wa1.heap.size wa1 wb1 := by rw [hwwb1]; exact (Below.refl _ wa1).alloc (Nat.le_refl _) _
 have hbab := below_step hba hbb
 have BW1 := Aside0.mk (below_step BW0.out hbab)
 have SRC1 := Aside0.mk (SRC0.out.later hbab)
 have Q1 := Aside0.mk (roomN Q0.out hbab)
 have PS1 := Aside0.mk (hps.below hbb)
 have R1 := Aside0.mk (show wb1.heap[m1]? = some (.cells (mapCells chMap1 PA1 pc1).toArray 31 (0, 0)) by rw [hwwb1, hm1]; exact heap_alloc_new wa1 _)
 have st := Aside0.mk (fun (C : Array Value) (hc : C.size = 37) => run_storeNew Tryz.prog wa1 31 37 (by kernel_rfl) C (mapCells chMap1 PA1 pc1).toArray hc (by simpa using mapCells_len _ _ _) (fun u hu => mapV_one _ _ _ _ _ _ rfl u (by simpa [mapCells, mapV] using hu)))
 obtain ⟨M1, hM1⟩ : ∃ M1, M1 = (mapCells chMap1 PA1 pc1).toArray := ⟨_, rfl⟩
 have HM1 := Aside0.mk hM1
 rw [← hM1] at hwwb1 st ⊢
 clear hM1 hbb hba hbab hps lb1 OC1
 go_upto_region 3 with ((with_reducible refine at_store 31 (.tmp 2) (.tmp 17) ?_); refine wpList_storeK rfl 31 (.tmp 2) (.tmp 17) rfl rfl _ _ rfl rfl _ (st.out _ rfl) ?_)
 rw [← hwwb1, ← hm1]
 clear hwwb1 hm1 st
 have lb2 := Aside0.mk (run_loadAtK Tryz.prog wb1 25 5 Tryz.isAgg25 Tryz.sizeOf25 b1 0 (bookCells chapB A 2 none 0) rfl (cells_of_heap Q1.out))
 have OC2 := Aside0.mk (of_chap 2 chMap2 rfl chap_two rfl rfl rfl A wb1 SRC1.out (HX.out.below BW1.out))
 rw [← HXX.out] at lb2 OC2
 go_wp2_with ((with_reducible refine at_load 25 (.tmp 1) ?_); refine wpList_loadK rfl 25 (.tmp 1) rfl _ rfl _ lb2.out ?_)
 refine OC2.out.mono ?_
 rintro e wa2 ⟨PA2, pc2, rfl, hps, hba⟩
 obtain ⟨m2, hm2⟩ : ∃ m2, m2 = wa2.heap.size := ⟨_, rfl⟩
 obtain ⟨wb2, hwwb2⟩ : ∃ wb2, wb2 = wa2.alloc (.cells (mapCells chMap2 PA2 pc2).toArray 31) := ⟨_, rfl⟩
 have hbb : Below wa2.heap.size wa2 wb2 := by rw [hwwb2]; exact (Below.refl _ wa2).alloc (Nat.le_refl _) _
 have hbab := below_step hba hbb
 have PS1 := Aside0.mk (PS1.out.below hbab)
 have R1 := Aside0.mk (roomN R1.out hbab)
 have BW2 := Aside0.mk (below_step BW1.out hbab)
 have SRC2 := Aside0.mk (SRC1.out.later hbab)
 have Q2 := Aside0.mk (roomN Q1.out hbab)
 have PS2 := Aside0.mk (hps.below hbb)
 have R2 := Aside0.mk (show wb2.heap[m2]? = some (.cells (mapCells chMap2 PA2 pc2).toArray 31 (0, 0)) by rw [hwwb2, hm2]; exact heap_alloc_new wa2 _)
 have st := Aside0.mk (fun (C : Array Value) (hc : C.size = 37) => run_storeNew Tryz.prog wa2 31 37 (by kernel_rfl) C (mapCells chMap2 PA2 pc2).toArray hc (by simpa using mapCells_len _ _ _) (fun u hu => mapV_one _ _ _ _ _ _ rfl u (by simpa [mapCells, mapV] using hu)))
 obtain ⟨M2, hM2⟩ : ∃ M2, M2 = (mapCells chMap2 PA2 pc2).toArray := ⟨_, rfl⟩
 have HM2 := Aside0.mk hM2
 rw [← hM2] at hwwb2 st ⊢
 clear hM2 hbb hba hbab hps lb2 OC2
 go_upto_region 4 with ((with_reducible refine at_store 31 (.tmp 4) (.tmp 22) ?_); refine wpList_storeK rfl 31 (.tmp 4) (.tmp 22) rfl rfl _ _ rfl rfl _ (st.out _ rfl) ?_)
 rw [← hwwb2, ← hm2]
 clear hwwb2 hm2 st
 have lb3 := Aside0.mk (run_loadAtK Tryz.prog wb2 25 5 Tryz.isAgg25 Tryz.sizeOf25 b1 0 (bookCells chapB A 2 none 0) rfl (cells_of_heap Q2.out))
 have OC3 := Aside0.mk (of_chap 3 chMap3 rfl chap_three rfl rfl rfl A wb2 SRC2.out (HX.out.below BW2.out))
 rw [← HXX.out] at lb3 OC3
 go_wp2_with ((with_reducible refine at_load 25 (.tmp 1) ?_); refine wpList_loadK rfl 25 (.tmp 1) rfl _ rfl _ lb3.out ?_)
 refine OC3.out.mono ?_
 rintro e wa3 ⟨PA3, pc3, rfl, hps, hba⟩
 obtain ⟨m3, hm3⟩ : ∃ m3, m3 = wa3.heap.size := ⟨_, rfl⟩
 obtain ⟨wb3, hwwb3⟩ : ∃ wb3, wb3 = wa3.alloc (.cells (mapCells chMap3 PA3 pc3).toArray 31) := ⟨_, rfl⟩
 have hbb : Below wa3.heap.size wa3 wb3 := by rw [hwwb3]; exact (Below.refl _ wa3).alloc (Nat.le_refl _) _
 have hbab := below_step hba hbb
 have PS1 := Aside0.mk (PS1.out.below hbab)
 have R1 := Aside0.mk (roomN R1.out hbab)
 have PS2 := Aside0.mk (PS2.out.below hbab)
 have R2 := Aside0.mk (roomN R2.out hbab)
 have BW3 := Aside0.mk (below_step BW2.out hbab)
 have SRC3 := Aside0.mk (SRC2.out.later hbab)
 have Q3 := Aside0.mk (roomN Q2.out hbab)
 have PS3 := Aside0.mk (hps.below hbb)
 have R3 := Aside0.mk (show wb3.heap[m3]? = some (.cells (mapCells chMap3 PA3 pc3).toArray 31 (0, 0)) by rw [hwwb3, hm3]; exact heap_alloc_new wa3 _)
 have st := Aside0.mk (fun (C : Array Value) (hc : C.size = 37) => run_storeNew Tryz.prog wa3 31 37 (by kernel_rfl) C (mapCells chMap3 PA3 pc3).toArray hc (by simpa using mapCells_len _ _ _) (fun u hu => mapV_one _ _ _ _ _ _ rfl u (by simpa [mapCells, mapV] using hu)))
 obtain ⟨M3, hM3⟩ : ∃ M3, M3 = (mapCells chMap3 PA3 pc3).toArray := ⟨_, rfl⟩
 have HM3 := Aside0.mk hM3
 rw [← hM3] at hwwb3 st ⊢
 clear hM3 hbb hba hbab hps lb3 OC3
 go_upto_region 5 with ((with_reducible refine at_store 31 (.tmp 6) (.tmp 27) ?_); refine wpList_storeK rfl 31 (.tmp 6) (.tmp 27) rfl rfl _ _ rfl rfl _ (st.out _ rfl) ?_)
 rw [← hwwb3, ← hm3]
 clear hwwb3 hm3 st
 obtain ⟨sb, hsb⟩ : ∃ sb, sb = wb3.heap.size := ⟨_, rfl⟩
 obtain ⟨wc, hwc⟩ : ∃ wc, wc = wb3.alloc (.cells #[.int .i64 80, .int .i64 90] 80) := ⟨_, rfl⟩
 have hbc : Below wb3.heap.size wb3 wc := by rw [hwc]; exact (Below.refl _ wb3).alloc (Nat.le_refl _) _
 have BS := Aside0.mk (buildSp wb3 80 90)
 have SPC := Aside0.mk (SpAt.one (show wc.heap[sb]? = some (.cells #[.int .i64 80, .int .i64 90] 80 (0, 0)) by rw [hwc, hsb]; exact heap_alloc_new wb3 _))
 have B80 := Aside0.mk (build80 wb3 80 90)
 rw [← hwc, ← hsb] at BS
 have BWC := Aside0.mk (below_step BW3.out hbc)
 have PS1 := Aside0.mk (PS1.out.below hbc)
 have R1 := Aside0.mk (roomN R1.out hbc)
 have PS2 := Aside0.mk (PS2.out.below hbc)
 have R2 := Aside0.mk (roomN R2.out hbc)
 have PS3 := Aside0.mk (PS3.out.below hbc)
 have R3 := Aside0.mk (roomN R3.out hbc)
 clear hwc hsb hbc SRC0 SRC1 SRC2 SRC3 Q0 Q1 Q2 Q3 BW0 BW1 BW2 BW3
 go_upto_region 6 with (first | ((with_reducible refine at_build 80 #[(0, .const (.int .i64 80)), (1, .const (.int .i64 90))] ?_); refine wpList_valueW (by rfl) (.agg #[.int .i64 80, .int .i64 90]) wb3 (exec_build 80 _ _ rfl _ #[(0, .int .i64 80), (1, .int .i64 90)] (by simp only [List.map_toArray, List.map_cons, List.map_nil]; rfl) _ B80.out) ?_) | ((with_reducible refine at_bslice 45 (.tmp 29) ?_); refine wpList_buildSlice1 rfl 45 (.tmp 29) rfl _ rfl _ _ BS.out ?_))
 obtain ⟨pb1, hpb1⟩ : ∃ pb1, pb1 = wc.heap.size := ⟨_, rfl⟩
 obtain ⟨wd1, hwd⟩ : ∃ wd1, wd1 = wc.alloc (.cells (peerCells ⟨2, keyU 2, 60, [], [⟨80, 90⟩]⟩ none 0 (some ⟨sb, 0, none⟩) 1).toArray 48) := ⟨_, rfl⟩
 have hbd : Below wc.heap.size wc wd1 := by rw [hwd]; exact (Below.refl _ wc).alloc (Nat.le_refl _) _
 have BP := Aside0.mk (show (Instr.buildSlice 29 1 #[(0, .agg (peerCells ⟨2, keyU 2, 60, [], [⟨80, 90⟩]⟩ none 0 (some ⟨sb, 0, none⟩) 1).toArray)]).run Tryz.prog wc = .ok (.slice (some ⟨wc.heap.size, 0, none⟩) 1 1) (wc.alloc (.cells (peerCells ⟨2, keyU 2, 60, [], [⟨80, 90⟩]⟩ none 0 (some ⟨sb, 0, none⟩) 1).toArray 48)) from buildP wc ⟨2, keyU 2, 60, [], [⟨80, 90⟩]⟩ _ _)
 have PL := Aside0.mk (PsAt.one (show wd1.heap[pb1]? = some (.cells (peerCells ⟨2, keyU 2, 60, [], [⟨80, 90⟩]⟩ none 0 (some ⟨sb, 0, none⟩) 1).toArray 48 (0, 0)) by rw [hwd, hpb1]; exact heap_alloc_new wc _) ⟨⟨Nat.zero_le _, rfl, by decide, fun h => absurd h (by decide)⟩, SPC.out.below hbd⟩)
 have B48 := Aside0.mk (build48_4 wc 2 (keyU 2) 60 (.slice (some ⟨sb, 0, none⟩) 1 1) rfl)
 have B31 := Aside0.mk (build31_5 wd1 3 1 (keyU 1) 50 (.slice (some ⟨pb1, 0, none⟩) 1 1) rfl)
 have lm := Aside0.mk (run_loadAtK Tryz.prog wc 31 37 Tryz.isAgg31 Tryz.sizeOf31 m1 0 (mapCells chMap1 PA1 pc1) (mapCells_len _ _ _) (cells_of_heap R1.out))
 have SM := Aside0.mk (same18 chMap1 chMap1 PA1 (some ⟨pb1, 0, none⟩) pc1 1 wd1 (PS1.out.below hbd) PL.out)
 rw [decide_eq_true rfl] at SM
 obtain ⟨PX, hPX⟩ : ∃ PX, PX = (peerCells ⟨2, keyU 2, 60, [], [⟨80, 90⟩]⟩ none 0 (some ⟨sb, 0, none⟩) 1).toArray := ⟨_, rfl⟩
 obtain ⟨LX, hLX⟩ : ∃ LX, LX = (mapCells chMap1 (some ⟨pb1, 0, none⟩) 1).toArray := ⟨_, rfl⟩
 rw [← hPX] at hwd BP
 rw [show (peerV ⟨2, keyU 2, 60, [], []⟩ (.slice none 0 0) (.slice (some ⟨sb, 0, none⟩) 1 1)).toArray = PX from hPX.symm] at B48
 rw [show (mapV 3 0 1 (keyU 1) 50 (.slice (some ⟨pb1, 0, none⟩) 1 1)).toArray = LX from hLX.symm] at B31
 rw [← hwd, ← hpb1] at BP
 rw [← HM1.out] at lm SM
 rw [← hLX] at SM
 rw [HK2.out.symm] at B48
 rw [HK1.out.symm] at B31
 have BWD := Aside0.mk (below_step BWC.out hbd)
 clear hwd hPX hLX
 have PS1 := Aside0.mk (PS1.out.below hbd)
 have R1 := Aside0.mk (roomN R1.out hbd)
 have PS2 := Aside0.mk (PS2.out.below hbd)
 have R2 := Aside0.mk (roomN R2.out hbd)
 have PS3 := Aside0.mk (PS3.out.below hbd)
 have R3 := Aside0.mk (roomN R3.out hbd)
 have SPC := Aside0.mk (SPC.out.below hbd)
 clear hbd hpb1
 go_wp2_with (first | ((with_reducible refine at_load 31 (.tmp 2) ?_); refine wpList_loadW (by rfl) 31 (.tmp 2) rfl _ rfl _ lm.out ?_) | ((with_reducible refine at_build 28 #[(0, .const (.int .u8 1))] ?_); refine wpList_valueW (by rfl) (.agg K1) wc (exec_build 28 _ _ rfl _ #[(0, .int .u8 1)] (by simp only [List.map_toArray, List.map_cons, List.map_nil]; rfl) _ (BK1.out wc)) ?_) | ((with_reducible refine at_build 28 #[(0, .const (.int .u8 2))] ?_); refine wpList_valueW (by rfl) (.agg K2) wc (exec_build 28 _ _ rfl _ #[(0, .int .u8 2)] (by simp only [List.map_toArray, List.map_cons, List.map_nil]; rfl) _ (BK2.out wc)) ?_) | ((with_reducible refine at_build 48 #[(0, .const (.int .i64 2)), (1, .tmp 36), (2, .const (.int .i64 60)), (4, .tmp 37)] ?_); refine wpList_valueW (by rfl) (.agg PX) wc (exec_build 48 _ _ rfl _ #[(0, .int .i64 2), (1, .agg K2), (2, .int .i64 60), (4, .slice (some ⟨sb, 0, none⟩) 1 1)] (by simp only [List.map_toArray, List.map_cons, List.map_nil]; rfl) _ B48.out) ?_) | ((with_reducible refine at_bslice 29 (.tmp 38) ?_); refine wpList_valueW (by rfl) (.slice (some ⟨pb1, 0, none⟩) 1 1) wd1 (exec_bslice 29 1 #[(0, .tmp 38)] _ rfl _ #[(0, .agg PX)] (by simp only [List.map_toArray, List.map_cons, List.map_nil]; rfl) _ BP.out) ?_) | ((with_reducible refine at_build 31 #[(0, .const (.int .i64 3)), (2, .const (.int .i64 1)), (3, .tmp 35), (4, .const (.int .i64 50)), (5, .tmp 39)] ?_); refine wpList_valueW (by rfl) (.agg LX) wd1 (exec_build 31 _ _ rfl _ #[(0, .int .i64 3), (2, .int .i64 1), (3, .agg K1), (4, .int .i64 50), (5, .slice (some ⟨pb1, 0, none⟩) 1 1)] (by simp only [List.map_toArray, List.map_cons, List.map_nil]; rfl) _ B31.out) ?_))
 refine SM.out.mono ?_
 rintro e we1 ⟨rfl, hbe⟩
 have BWC := Aside0.mk (below_step BWD.out hbe)
 have PS1 := Aside0.mk (PS1.out.below hbe)
 have R1 := Aside0.mk (roomN R1.out hbe)
 have PS2 := Aside0.mk (PS2.out.below hbe)
 have R2 := Aside0.mk (roomN R2.out hbe)
 have PS3 := Aside0.mk (PS3.out.below hbe)
 have R3 := Aside0.mk (roomN R3.out hbe)
 have SPC := Aside0.mk (SPC.out.below hbe)
 clear hbe BP PL B48 B31 lm SM BWD
 obtain ⟨pb2, hpb2⟩ : ∃ pb2, pb2 = we1.heap.size := ⟨_, rfl⟩
 obtain ⟨wd2, hwd⟩ : ∃ wd2, wd2 = we1.alloc (.cells (peerCells ⟨1, keyU 1, 50, [⟨80, 90⟩], []⟩ (some ⟨sb, 0, none⟩) 1 none 0).toArray 48) := ⟨_, rfl⟩
 have hbd : Below we1.heap.size we1 wd2 := by rw [hwd]; exact (Below.refl _ we1).alloc (Nat.le_refl _) _
 have BP := Aside0.mk (show (Instr.buildSlice 29 1 #[(0, .agg (peerCells ⟨1, keyU 1, 50, [⟨80, 90⟩], []⟩ (some ⟨sb, 0, none⟩) 1 none 0).toArray)]).run Tryz.prog we1 = .ok (.slice (some ⟨we1.heap.size, 0, none⟩) 1 1) (we1.alloc (.cells (peerCells ⟨1, keyU 1, 50, [⟨80, 90⟩], []⟩ (some ⟨sb, 0, none⟩) 1 none 0).toArray 48)) from buildP we1 ⟨1, keyU 1, 50, [⟨80, 90⟩], []⟩ _ _)
 have PL := Aside0.mk (PsAt.one (show wd2.heap[pb2]? = some (.cells (peerCells ⟨1, keyU 1, 50, [⟨80, 90⟩], []⟩ (some ⟨sb, 0, none⟩) 1 none 0).toArray 48 (0, 0)) by rw [hwd, hpb2]; exact heap_alloc_new we1 _) ⟨SPC.out.below hbd, ⟨Nat.zero_le _, rfl, by decide, fun h => absurd h (by decide)⟩⟩)
 have B48 := Aside0.mk (build48_3 we1 1 (keyU 1) 50 (.slice (some ⟨sb, 0, none⟩) 1 1) rfl)
 have B31 := Aside0.mk (build31_5 wd2 3 2 (keyU 2) 60 (.slice (some ⟨pb2, 0, none⟩) 1 1) rfl)
 have lm := Aside0.mk (run_loadAtK Tryz.prog we1 31 37 Tryz.isAgg31 Tryz.sizeOf31 m2 0 (mapCells chMap2 PA2 pc2) (mapCells_len _ _ _) (cells_of_heap R2.out))
 have SM := Aside0.mk (same18 chMap2 chMap2 PA2 (some ⟨pb2, 0, none⟩) pc2 1 wd2 (PS2.out.below hbd) PL.out)
 rw [decide_eq_true rfl] at SM
 obtain ⟨PX, hPX⟩ : ∃ PX, PX = (peerCells ⟨1, keyU 1, 50, [⟨80, 90⟩], []⟩ (some ⟨sb, 0, none⟩) 1 none 0).toArray := ⟨_, rfl⟩
 obtain ⟨LX, hLX⟩ : ∃ LX, LX = (mapCells chMap2 (some ⟨pb2, 0, none⟩) 1).toArray := ⟨_, rfl⟩
 rw [← hPX] at hwd BP
 rw [show (peerV ⟨1, keyU 1, 50, [], []⟩ (.slice (some ⟨sb, 0, none⟩) 1 1) (.slice none 0 0)).toArray = PX from hPX.symm] at B48
 rw [show (mapV 3 0 2 (keyU 2) 60 (.slice (some ⟨pb2, 0, none⟩) 1 1)).toArray = LX from hLX.symm] at B31
 rw [← hwd, ← hpb2] at BP
 rw [← HM2.out] at lm SM
 rw [← hLX] at SM
 rw [HK1.out.symm] at B48
 rw [HK2.out.symm] at B31
 have BWD := Aside0.mk (below_step BWC.out hbd)
 clear hwd hPX hLX
 have PS1 := Aside0.mk (PS1.out.below hbd)
 have R1 := Aside0.mk (roomN R1.out hbd)
 have PS2 := Aside0.mk (PS2.out.below hbd)
 have R2 := Aside0.mk (roomN R2.out hbd)
 have PS3 := Aside0.mk (PS3.out.below hbd)
 have R3 := Aside0.mk (roomN R3.out hbd)
 have SPC := Aside0.mk (SPC.out.below hbd)
 clear hbd hpb2
 go_wp2_with (first | ((with_reducible refine at_load 31 (.tmp 4) ?_); refine wpList_loadW (by rfl) 31 (.tmp 4) rfl _ rfl _ lm.out ?_) | ((with_reducible refine at_build 28 #[(0, .const (.int .u8 2))] ?_); refine wpList_valueW (by rfl) (.agg K2) we1 (exec_build 28 _ _ rfl _ #[(0, .int .u8 2)] (by simp only [List.map_toArray, List.map_cons, List.map_nil]; rfl) _ (BK2.out we1)) ?_) | ((with_reducible refine at_build 28 #[(0, .const (.int .u8 1))] ?_); refine wpList_valueW (by rfl) (.agg K1) we1 (exec_build 28 _ _ rfl _ #[(0, .int .u8 1)] (by simp only [List.map_toArray, List.map_cons, List.map_nil]; rfl) _ (BK1.out we1)) ?_) | ((with_reducible refine at_build 48 #[(0, .const (.int .i64 1)), (1, .tmp 48), (2, .const (.int .i64 50)), (3, .tmp 49)] ?_); refine wpList_valueW (by rfl) (.agg PX) we1 (exec_build 48 _ _ rfl _ #[(0, .int .i64 1), (1, .agg K1), (2, .int .i64 50), (3, .slice (some ⟨sb, 0, none⟩) 1 1)] (by simp only [List.map_toArray, List.map_cons, List.map_nil]; rfl) _ B48.out) ?_) | ((with_reducible refine at_bslice 29 (.tmp 50) ?_); refine wpList_valueW (by rfl) (.slice (some ⟨pb2, 0, none⟩) 1 1) wd2 (exec_bslice 29 1 #[(0, .tmp 50)] _ rfl _ #[(0, .agg PX)] (by simp only [List.map_toArray, List.map_cons, List.map_nil]; rfl) _ BP.out) ?_) | ((with_reducible refine at_build 31 #[(0, .const (.int .i64 3)), (2, .const (.int .i64 2)), (3, .tmp 47), (4, .const (.int .i64 60)), (5, .tmp 51)] ?_); refine wpList_valueW (by rfl) (.agg LX) wd2 (exec_build 31 _ _ rfl _ #[(0, .int .i64 3), (2, .int .i64 2), (3, .agg K2), (4, .int .i64 60), (5, .slice (some ⟨pb2, 0, none⟩) 1 1)] (by simp only [List.map_toArray, List.map_cons, List.map_nil]; rfl) _ B31.out) ?_))
 refine SM.out.mono ?_
 rintro e we2 ⟨rfl, hbe⟩
 have BWC := Aside0.mk (below_step BWD.out hbe)
 have PS1 := Aside0.mk (PS1.out.below hbe)
 have R1 := Aside0.mk (roomN R1.out hbe)
 have PS2 := Aside0.mk (PS2.out.below hbe)
 have R2 := Aside0.mk (roomN R2.out hbe)
 have PS3 := Aside0.mk (PS3.out.below hbe)
 have R3 := Aside0.mk (roomN R3.out hbe)
 have SPC := Aside0.mk (SPC.out.below hbe)
 clear hbe BP PL B48 B31 lm SM BWD
 have lm := Aside0.mk (run_loadAtK Tryz.prog we2 31 37 Tryz.isAgg31 Tryz.sizeOf31 m1 0 (mapCells chMap1 PA1 pc1) (mapCells_len _ _ _) (cells_of_heap R1.out))
 have DF := Aside0.mk (diff29 chMap1 chMap1 PA1 pc1 PA1 pc1 we2 PS1.out PS1.out)
 rw [← HM1.out] at lm DF
 go_wp2_with ((with_reducible refine at_load 31 (.tmp 2) ?_); refine wpList_loadK rfl 31 (.tmp 2) rfl _ rfl _ lm.out ?_)
 refine DF.out.mono ?_
 rintro e wf ⟨hd, hbf⟩
 obtain ⟨vg, vs, rfl, hg, hs⟩ := hd
 rw [chap_diff] at hg hs ⊢
 obtain ⟨VG, cg, rfl⟩ := Kd.R_slice hg
 obtain ⟨VS, cs, rfl⟩ := Kd.R_slice hs
 obtain ⟨db, hdb⟩ : ∃ db, db = wf.heap.size := ⟨_, rfl⟩
 obtain ⟨wg, hwg⟩ : ∃ wg, wg = wf.alloc (.cells (delV 3 3 0 1 (keyU 1) 50 (.slice VG 0 cg) (.slice VS 0 cs)).toArray 55) := ⟨_, rfl⟩
 have hbg : Below wf.heap.size wf wg := by rw [hwg]; exact (Below.refl _ wf).alloc (Nat.le_refl _) _
 have qd : wg.heap[db]? = some (.cells (delV 3 3 0 1 (keyU 1) 50 (.slice VG 0 cg) (.slice VS 0 cs)).toArray 55 (0, 0)) := by rw [hwg, hdb]; exact heap_alloc_new wf _
 have g37 : wg.cell? ⟨db, 37, none⟩ = some (.slice VG 0 cg) := by rw [cell_of_heap qd]; exact delV37 _ _ _ _ _ _ _ _
 have g38 : wg.cell? ⟨db, 38, none⟩ = some (.slice VS 0 cs) := by rw [cell_of_heap qd]; exact delV38 _ _ _ _ _ _ _ _
 have l37 := Aside0.mk (fun (W : World) (hb : Below wg.heap.size wg W) => run_load1 (P := Tryz.prog) 53 Tryz.isAgg53 (show W.cell? ⟨db, 37, none⟩ = some (.slice VG 0 cg) by rw [cell_of_heap (roomN qd hb)]; exact delV37 _ _ _ _ _ _ _ _))
 have l38 := Aside0.mk (fun (W : World) (hb : Below wg.heap.size wg W) => run_load1 (P := Tryz.prog) 29 Tryz.isAgg29 (show W.cell? ⟨db, 38, none⟩ = some (.slice VS 0 cs) by rw [cell_of_heap (roomN qd hb)]; exact delV38 _ _ _ _ _ _ _ _))
 have st := Aside0.mk (fun (C : Array Value) (hc : C.size = 39) => run_storeNew Tryz.prog wf 55 39 (by kernel_rfl) C (delV 3 3 0 1 (keyU 1) 50 (.slice VG 0 cg) (.slice VS 0 cs)).toArray hc (by simpa using delV_len _ _ _ _ _ _ _ _) (fun u hu => delV_one _ _ _ _ _ _ _ _ rfl rfl u (by simpa using hu)))
 have BWG := Aside0.mk (below_step BWC.out (below_step hbf hbg))
 have PS3 := Aside0.mk (PS3.out.below (below_step hbf hbg))
 have R3 := Aside0.mk (roomN R3.out (below_step hbf hbg))
 obtain ⟨DX, hDX⟩ : ∃ DX, DX = (delV 3 3 0 1 (keyU 1) 50 (.slice VG 0 cg) (.slice VS 0 cs)).toArray := ⟨_, rfl⟩
 rw [← hDX] at hwg st
 have HDX : (delV (⟨3, 3, 0, 1, keyU 1, 50, [], []⟩ : NDel).frm (⟨3, 3, 0, 1, keyU 1, 50, [], []⟩ : NDel).til (⟨3, 3, 0, 1, keyU 1, 50, [], []⟩ : NDel).clock (⟨3, 3, 0, 1, keyU 1, 50, [], []⟩ : NDel).node (⟨3, 3, 0, 1, keyU 1, 50, [], []⟩ : NDel).key (⟨3, 3, 0, 1, keyU 1, 50, [], []⟩ : NDel).exp (.slice VG (List.length (⟨3, 3, 0, 1, keyU 1, 50, [], []⟩ : NDel).gone) cg) (.slice VS (List.length (⟨3, 3, 0, 1, keyU 1, 50, [], []⟩ : NDel).set) cs)).toArray = DX := hDX.symm
 rw [HDX]
 clear hDX HDX hg hs hbf hbg qd g37 g38 DF lm
 go_upto_region 9 with ((with_reducible refine at_store 55 (.tmp 11) (.tmp 59) ?_); refine wpList_storeK rfl 55 (.tmp 11) (.tmp 59) rfl rfl _ _ rfl rfl _ (st.out _ rfl) ?_)
 rw [← hwg, ← hdb]
 clear hwg hdb st
 have lm3 := Aside0.mk (run_loadAtK Tryz.prog wg 31 37 Tryz.isAgg31 Tryz.sizeOf31 m3 0 (mapCells chMap3 PA3 pc3) (mapCells_len _ _ _) (cells_of_heap R3.out))
 have B3 := Aside0.mk (build31_3 wg 3 3)
 have SM := Aside0.mk (same18 chMap3 chMap3 PA3 none pc3 0 wg PS3.out (PsAt.nil _ _ _))
 rw [decide_eq_true rfl] at SM
 obtain ⟨LX, hLX⟩ : ∃ LX, LX = (mapCells chMap3 none 0).toArray := ⟨_, rfl⟩
 rw [← HM3.out] at lm3 SM
 rw [← hLX] at SM
 rw [show (mapV 3 0 3 key0 0 (.slice none 0 0)).toArray = LX from hLX.symm] at B3
 clear hLX
 go_wp2_with (first | ((with_reducible refine at_load 31 (.tmp 6) ?_); refine wpList_loadW (by rfl) 31 (.tmp 6) rfl _ rfl _ lm3.out ?_) | ((with_reducible refine at_build 31 #[(0, .const (.int .i64 3)), (2, .const (.int .i64 3))] ?_); refine wpList_valueW (by rfl) (.agg LX) wg (exec_build 31 _ _ rfl _ #[(0, .int .i64 3), (2, .int .i64 3)] (by simp only [List.map_toArray, List.map_cons, List.map_nil]; rfl) _ B3.out) ?_))
 refine SM.out.mono ?_
 rintro e wh ⟨rfl, hbh⟩
 have L37 := Aside0.mk (l37.out wh hbh)
 have L38 := Aside0.mk (l38.out wh hbh)
 have hend := Aside0.mk (below_step BWG.out hbh)
 have hw0 : wrap64 ((0 : Int) + 0) = 0 := by unfold wrap64; omega
 clear hbh
 go_wp2_with (first | ((with_reducible refine at_load 53 (.tmp 79) ?_); refine wpList_loadW (by rfl) 53 (.tmp 79) rfl _ rfl _ L37.out ?_) | ((with_reducible refine at_load 29 (.tmp 82) ?_); refine wpList_loadW (by rfl) 29 (.tmp 82) rfl _ rfl _ L38.out ?_))
 go_ret
 exact ⟨rfl, hend.out⟩
end Go.Proofs.YtmgbaefgcdglpaaGreatDoor.Net
end
section
namespace Go.Proofs.YtmgbaefgcdglpaaGreatDoor.Net
open Go Go.RowKit Go.Proofs Go.Proofs.YtmgbaefgcdglpaaGreatDoorW.PrintWords Go.Proofs.YtmgbaefgcdglpaaGreatDoorW.PrintLast Go.Proofs.YtmgbaefgcdglpaaGreatDoorW.PrintMore Go.Proofs.YtmgbaefgcdglpaaGreatDoor.Dir
set_option linter.unusedVariables false
set_option linter.unusedSimpArgs false
def OfRes (B : Book) (n : Int) (m : NMap) (code : Int) : Prop := (OkB B ∧ nodeIn n = true ∧ m = ofV (spB B) B n ∧ code = 0) ∨ (¬ OkB B ∧ m = map0 ∧ code = 2) ∨ (OkB B ∧ nodeIn n = false ∧ m = map0 ∧ code = 220)
theorem OfRes.ok {B : Book} {n : Int} {m : NMap} {code : Int} (h : OfRes B n m code) (hc : code = 0) : OkB B ∧ nodeIn n = true ∧ m = ofV (spB B) B n := by
 rcases h with ⟨h1, h2, h3, -⟩ | ⟨-, -, h⟩ | ⟨-, -, -, h⟩
 ·exact ⟨h1, h2, h3⟩
 ·omega
 ·omega
theorem of_any (B : Book) (n : Int) (A1 : Option Addr) (c1 : Nat) (A2 : Option Addr) (c2 : Nat) (w : World) (h : SrcB w B A1 A2) (hx : PA.LaidW w) :
  Calls Tryz.prog 15 #[.agg (bookCells B A1 c1 A2 c2).toArray, .int .i64 n] w fun e w' => ∃ m PA pc code, e = .returned (.tuple #[.agg (mapCells m PA pc).toArray, .int .i64 code]) ∧ PsAt w' PA pc m.peers ∧ Below w.heap.size w w' ∧ OfRes B n m code ∧ kPeer.R 48 w' w.heap.size (fun _ => True) (.slice PA m.peers.length pc) m.peers := by
 refine (of15 B n A1 c1 A2 c2 w h hx).mono ?_
 rintro e w' ⟨hend, hb⟩
 rcases hend with ⟨hno, rfl⟩ | ⟨hok, hn, rfl⟩ | ⟨hok, hn, v, rfl, hR⟩
 ·exact ⟨map0, none, 0, 2, rfl, PsAt.nil _ _ _, hb, .inr (.inl ⟨hno, rfl, rfl⟩), Kd.R_nil _ _ _ _ _⟩
 ·exact ⟨map0, none, 0, 220, rfl, PsAt.nil _ _ _, hb, .inr (.inr ⟨hok, hn, rfl, rfl⟩), Kd.R_nil _ _ _ _ _⟩
 ·obtain ⟨PA, pc, rfl, hps⟩ := peerR_val hR
  have e1 : (ofV (spB B) B n).ver = B.ver ∧ (ofV (spB B) B n).clock = B.clock ∧ (ofV (spB B) B n).node = n := by
   rw [of_end (wf_of_ok hok)]
   exact ⟨rfl, rfl, rfl⟩
  refine ⟨ofV (spB B) B n, PA, pc, 0, ?_, hps, hb, .inl ⟨hok, hn, rfl, rfl⟩, hR⟩
  unfold mapCells
  rw [e1.1, e1.2.1, e1.2.2]
  rfl
theorem PIn.zero (w : World) : PIn w peerZ none 0 none 0 := ⟨⟨Nat.zero_le _, rfl, by decide, fun h => absurd h (by decide)⟩, ⟨Nat.zero_le _, rfl, by decide, fun h => absurd h (by decide)⟩⟩
theorem map_one (m : NMap) (A : Option Addr) (c : Nat) : ∀ u ∈ (mapCells m A c).toArray.toList, u.oneCell' = true := fun u hu => mapV_one _ _ _ _ _ _ rfl u (by simpa [mapCells, mapV] using hu)
theorem peer_one (p : Peer) (A1 : Option Addr) (c1 : Nat) (A2 : Option Addr) (c2 : Nat) : ∀ u ∈ (peerCells p A1 c1 A2 c2).toArray.toList, u.oneCell' = true := fun u hu => peerV_one p _ _ rfl rfl u (by simpa [peerCells] using hu)
end Go.Proofs.YtmgbaefgcdglpaaGreatDoor.Net
end
section
namespace Go.Proofs.YtmgbaefgcdglpaaGreatDoor.Net
open Go Go.RowKit Go.Proofs Go.Proofs.YtmgbaefgcdglpaaGreatDoorW.PrintWords Go.Proofs.YtmgbaefgcdglpaaGreatDoorW.PrintLast Go.Proofs.YtmgbaefgcdglpaaGreatDoorW.PrintMore Go.Proofs.YtmgbaefgcdglpaaGreatDoor.Dir
set_option linter.unusedVariables false
set_option linter.unusedSimpArgs false
def MapHas (w : World) (f : Int → Option Value) (F : Int → Option Peer) : Prop := ∀ j, match F j with
 | none => f j = none
 | some p => ∃ A1 c1 A2 c2, f j = some (.agg (peerCells p A1 c1 A2 c2).toArray) ∧ PIn w p A1 c1 A2 c2
structure OnA (w w5 : World) (mb : Nat) (F : Int → Option Peer) (W : World) : Prop where
 lo : Below w.heap.size w W
 kp : KeepBut w5 W mb none
 mp : ∃ f, IMap W mb f ∧ MapHas w f F
theorem OnA.grow {w w5 W W' : World} {mb : Nat} {F : Int → Option Peer} (h : OnA w w5 mb F W) (hb : Below W.heap.size W W') : OnA w w5 mb F W' := by
 obtain ⟨f, h1, h2⟩ := h.mp
 refine ⟨h.lo.trans (hb.mono h.lo.size), ⟨Nat.le_trans h.kp.1 hb.size, fun i hi hg hr => ?_⟩, f, h1.below hb, h2⟩
 rw [hb.block i (Nat.lt_of_lt_of_le hi h.kp.1)]
 exact h.kp.2 i hi hg hr
theorem OnA.set {w w5 W : World} {mb : Nat} {F : Int → Option Peer} (h : OnA w w5 mb F W) (hm : w.heap.size ≤ mb) (o : Obj) : Below w.heap.size w (ChangeMaps.setBlock W mb o) ∧ KeepBut w5 (ChangeMaps.setBlock W mb o) mb none := by
 refine ⟨h.lo.trans (setBlock_below W mb o hm), ⟨Nat.le_trans h.kp.1 (setBlock_below W mb o (Nat.le_refl mb)).size, fun i hi hg hr => ?_⟩⟩
 rw [setBlock_ne o hg]
 exact h.kp.2 i hi hg hr
theorem OnA.put {w w5 W : World} {mb : Nat} {F : Int → Option Peer} (h : OnA w w5 mb F W) (hm : w.heap.size ≤ mb) (p : Peer) (A1 : Option Addr) (c1 : Nat) (A2 : Option Addr) (c2 : Nat) (hin : PIn w p A1 c1 A2 c2) :
  ∃ o, (Instr.mapUpdate 110 (.map (some mb)) (.int .i64 p.node) (.agg (peerCells p A1 c1 A2 c2).toArray)).run Tryz.prog W = .ok () (ChangeMaps.setBlock W mb o) ∧ OnA w w5 mb (fun j => if j = p.node then some p else F j) (ChangeMaps.setBlock W mb o) := by
 obtain ⟨f, h1, h2⟩ := h.mp
 obtain ⟨o, hr, hi⟩ := h1.put p.node (.agg (peerCells p A1 c1 A2 c2).toArray)
 obtain ⟨s1, s2⟩ := h.set hm o
 refine ⟨o, hr, s1, s2, _, hi, fun j => ?_⟩
 by_cases hj : j = p.node
 ·simp only [hj, if_true]
  exact ⟨A1, c1, A2, c2, rfl, hin⟩
 ·simp only [if_neg hj]
  exact h2 j
theorem OnA.drop {w w5 W : World} {mb : Nat} {F : Int → Option Peer} (h : OnA w w5 mb F W) (hm : w.heap.size ≤ mb) (n : Int) (ty : TypeId) :
  ∃ o, (Builtin.delete_ #[110, 3] ty #[.map (some mb), .int .i64 n]).run Tryz.prog W = .ok (.tuple #[]) (ChangeMaps.setBlock W mb o) ∧ OnA w w5 mb (fun j => if j = n then none else F j) (ChangeMaps.setBlock W mb o) := by
 obtain ⟨f, h1, h2⟩ := h.mp
 obtain ⟨o, hr, hi⟩ := h1.drop n ty
 obtain ⟨s1, s2⟩ := h.set hm o
 refine ⟨o, hr, s1, s2, _, hi, fun j => ?_⟩
 by_cases hj : j = n
 ·simp only [hj, if_true]
 ·simp only [if_neg hj]
  exact h2 j
theorem MapHas.look {w W : World} {mb : Nat} {f : Int → Option Value} {F : Int → Option Peer} (h : MapHas w f F) (hi : IMap W mb f) (n : Int) :
  ∃ p A1 c1 A2 c2, (Instr.lookup 110 (.map (some mb)) (.int .i64 n) true).run Tryz.prog W = .ok (.tuple #[.agg (peerCells p A1 c1 A2 c2).toArray, .bool (F n).isSome]) W ∧ PIn w p A1 c1 A2 c2 ∧ (∀ q, F n = some q → p = q) := by
 have hl := hi.look n
 have hn := h n
 cases hq : F n with
 | none =>
  rw [hq] at hn
  have hn : f n = none := hn
  rw [hn] at hl
  exact ⟨peerZ, none, 0, none, 0, hl, PIn.zero _, fun q e => by cases e⟩
 | some p =>
  rw [hq] at hn
  obtain ⟨A1, c1, A2, c2, e, hin⟩ := hn
  rw [e] at hl
  exact ⟨p, A1, c1, A2, c2, hl, hin, fun q e => by cases e; rfl⟩
theorem OnA.look {w w5 W : World} {mb : Nat} {F : Int → Option Peer} (h : OnA w w5 mb F W) (n : Int) :
  ∃ p A1 c1 A2 c2, (Instr.lookup 110 (.map (some mb)) (.int .i64 n) true).run Tryz.prog W = .ok (.tuple #[.agg (peerCells p A1 c1 A2 c2).toArray, .bool (F n).isSome]) W ∧ PIn w p A1 c1 A2 c2 ∧ (∀ q, F n = some q → p = q) := by
 obtain ⟨f, h1, h2⟩ := h.mp
 exact h2.look h1 n
theorem at_look {P : Program} {ops : Array Oper} {rest : List Oper} {dst : Option Tmp} {ty : TypeId} {pos : String} {after : Array Edge} {g : Option (Nat × Bool)} {a : Act} {w : World} {Q : Exit → Act → World → Prop} (t : TypeId) (x y : Operand) (h : wpList P ops Q (⟨dst, .lookup t x y true, ty, pos, after, g⟩ :: rest) a w) : wpList P ops Q (⟨dst, .lookup t x y true, ty, pos, after, g⟩ :: rest) a w := h
theorem at_mput {P : Program} {ops : Array Oper} {rest : List Oper} {dst : Option Tmp} {ty : TypeId} {pos : String} {after : Array Edge} {g : Option (Nat × Bool)} {a : Act} {w : World} {Q : Exit → Act → World → Prop} (t : TypeId) (x y z : Operand) (h : wpList P ops Q (⟨dst, .mapUpdate t x y z, ty, pos, after, g⟩ :: rest) a w) : wpList P ops Q (⟨dst, .mapUpdate t x y z, ty, pos, after, g⟩ :: rest) a w := h
theorem at_mdel {P : Program} {ops : Array Oper} {rest : List Oper} {dst : Option Tmp} {ty : TypeId} {pos : String} {after : Array Edge} {g : Option (Nat × Bool)} {a : Act} {w : World} {Q : Exit → Act → World → Prop} (x y : Operand) (h : wpList P ops Q (⟨dst, .call { callee := .builtin .delete, args := #[x, y], argTypes := #[110, 3] }, ty, pos, after, g⟩ :: rest) a w) : wpList P ops Q (⟨dst, .call { callee := .builtin .delete, args := #[x, y], argTypes := #[110, 3] }, ty, pos, after, g⟩ :: rest) a w := h
theorem at_mmake {P : Program} {ops : Array Oper} {rest : List Oper} {dst : Option Tmp} {ty : TypeId} {pos : String} {after : Array Edge} {g : Option (Nat × Bool)} {a : Act} {w : World} {Q : Exit → Act → World → Prop} (t : TypeId) (h : wpList P ops Q (⟨dst, .makeMap t none, ty, pos, after, g⟩ :: rest) a w) : wpList P ops Q (⟨dst, .makeMap t none, ty, pos, after, g⟩ :: rest) a w := h
theorem exec_mmake {P : Program} {w : World} (t : TypeId) (o : Oper) (ho : o.op = .makeMap t none) (a : Act) : (execOp a.eval o).run P w = .ok (.value (.map (some w.heap.size))) (w.alloc (.map #[] 0)) := by
 unfold execOp
 simp only [ho, Sem.run_bind, Option.map_none]
 rw [run_makeMap]
 rfl
theorem build31_4 (w : World) (v c n : Int) (k : Key) (e : Int) : (Instr.build 31 #[(0, .int .i64 v), (1, .int .i64 c), (2, .int .i64 n), (3, .agg (encK k).toArray), (4, .int .i64 e)]).run Tryz.prog w = .ok (.agg (mapV v c n k e (.slice none 0 0)).toArray) w := by
 refine run_build31 w _ _ ?_
 refine (fill_at _ (mapV 0 0 0 key0 0 (.slice none 0 0)) (mapV v 0 0 key0 0 (.slice none 0 0)) 0 _ _ 0 1 rfl rfl (by simp [mapV]) rfl).trans ?_
 refine (fill_at _ (mapV v 0 0 key0 0 (.slice none 0 0)) (mapV v c 0 key0 0 (.slice none 0 0)) 1 _ _ 1 1 rfl rfl (by simp [mapV]) rfl).trans ?_
 refine (fill_at _ (mapV v c 0 key0 0 (.slice none 0 0)) (mapV v c n key0 0 (.slice none 0 0)) 2 _ _ 2 1 rfl rfl (by simp [mapV]) rfl).trans ?_
 refine (fill_at _ (mapV v c n key0 0 (.slice none 0 0)) (mapV v c n k 0 (.slice none 0 0)) 3 _ _ 3 32 rfl (by simp [Value.cells, encK_len]) (by simp [mapV_len]) ?_).trans ?_
 ·exact splice_mid [.int .i64 v, .int .i64 c, .int .i64 n] (encK key0) [.int .i64 0, .slice none 0 0] (encK k) 3 rfl (by rw [encK_len, encK_len])
 refine (fill_at _ (mapV v c n k 0 (.slice none 0 0)) (mapV v c n k e (.slice none 0 0)) 4 _ _ 35 1 rfl rfl (by simp [mapV_len]) ?_).trans rfl
 have := splice_mid (.int .i64 v :: .int .i64 c :: .int .i64 n :: encK k) [.int .i64 0] [.slice none 0 0] [.int .i64 e] 35 (by simp [encK_len]) rfl
 simpa [mapV, Value.cells] using this
structure OnB (v0 c0 s0 : Int) (k0 : Key) (e0 : Int) (w w9 : World) (ob : Nat) (l : List Peer) (W : World) : Prop where
 lo : Below w.heap.size w W
 kp : KeepBut w9 W ob none
 row : ∃ v, W.heap[ob]? = some (.cells (mapV v0 c0 s0 k0 e0 v).toArray 31 (0, 0)) ∧ kPeer.R 48 W w9.heap.size (fun k => w9.heap.size ≤ k) v l
section
variable {v0 c0 s0 : Int} {k0 : Key} {e0 : Int} {w w9 W W' w1 : World} {ob : Nat} {l : List Peer}
theorem OnB.grow (h : OnB v0 c0 s0 k0 e0 w w9 ob l W) (hb : Below W.heap.size W W') : OnB v0 c0 s0 k0 e0 w w9 ob l W' := by
 obtain ⟨v, h1, h2⟩ := h.row
 refine ⟨h.lo.trans (hb.mono h.lo.size), ⟨Nat.le_trans h.kp.1 hb.size, fun i hi hg hr => ?_⟩, v, roomN h1 hb, Kd.R_below h2 hb⟩
 rw [hb.block i (Nat.lt_of_lt_of_le hi h.kp.1)]
 exact h.kp.2 i hi hg hr
theorem OnB.put (h : OnB v0 c0 s0 k0 e0 w w9 ob l W) (hb : w.heap.size ≤ ob) (h9 : ob < w9.heap.size) {x : Peer} {v v1 : Value}
  (hrow : W.heap[ob]? = some (.cells (mapV v0 c0 s0 k0 e0 v).toArray 31 (0, 0))) (hR : kPeer.R 48 w1 w9.heap.size (fun k => w9.heap.size ≤ k) v1 (l ++ [x])) (hbel : Below w9.heap.size W w1) : OnB v0 c0 s0 k0 e0 w w9 ob (l ++ [x]) (w1.setCell ⟨ob, 36, none⟩ v1) := by
 have hr1 := (hbel.block ob h9).trans hrow
 refine ⟨(h.lo.trans (hbel.mono (by omega))).setCell hb _, ⟨by simpa using Nat.le_trans h.kp.1 hbel.size, fun i hi hg hr => ?_⟩, v1, ?_, Kd.R_far hR (fun k hk => by show k ≠ ob; omega) v1⟩
 ·rw [Below.heap_setCell _ _ _ _ hg, hbel.block i hi]
  exact h.kp.2 i hi hg hr
 ·have := Go.heap_setCell_same w1 ob 36 _ _ v1 hr1
  rw [this]
  simp only [List.setIfInBounds_toArray, mapV_set36]
end
section
variable (ob : Nat) (X : Array Value) (vs : Value)
def G30 : Nat → Value → World → Prop := fun i v _ => match i with
 | 0 => v = .pointer (some ⟨ob, 36, none⟩)
 | 1 => v = vs
 | 2 => v = .agg X
 | 6 => v = .pointer (some ⟨ob, 36, none⟩)
 | _ => True
end
structure MP (N : Nat) (s : List Peer) (p : Peer) (vs : Value) (fin : World → Prop) (t1 t2 t3 : Nat) (wr : World) (l : Array Bool) (y : Act) (W : World) : Prop where
 s0 : l.getD 4 false = false → Below wr.heap.size wr W
 s1 : l.getD 3 false = true → l.getD 4 false = false → ∃ x1 x2, y.tmps.getD t1 undef = .agg (peerV p x1 x2).toArray ∧ kSp.R 80 W wr.heap.size (fun k => wr.heap.size ≤ k) x1 p.inn ∧ kSp.R 80 W wr.heap.size (fun k => wr.heap.size ≤ k) x2 p.out
 s2 : l.getD 4 false = true → l.getD 5 false = false → ∃ Wp x1 x2, W = Wp.alloc (.cells (peerV p x1 x2).toArray 48) ∧ Below wr.heap.size wr Wp ∧ y.tmps.getD t2 undef = .slice (some ⟨Wp.heap.size, 0, none⟩) 1 1 ∧ kSp.R 80 Wp wr.heap.size (fun k => wr.heap.size ≤ k) x1 p.inn ∧ kSp.R 80 Wp wr.heap.size (fun k => wr.heap.size ≤ k) x2 p.out
 s3 : l.getD 5 false = true → l.getD 7 false = false → kPeer.R 48 W N (fun k => N ≤ k) (y.tmps.getD t3 undef) (s ++ [p]) ∧ Below N wr W ∧ wr.grownBy W vs.ownBlock
 s4 : l.getD 7 false = true → fin W
theorem MP.cell {N : Nat} {s : List Peer} {p : Peer} {vs : Value} {fin : World → Prop} {t1 t2 t3 : Nat} {wr : World} {l : Array Bool} {y : Act} {W : World} (h : MP N s p vs fin t1 t2 t3 wr l y W) (h5 : ¬ l.getD 5 false = true) : Below wr.heap.size wr W := by
 have h5 : l.getD 5 false = false := by simpa using h5
 cases h4 : l.getD 4 false with
 | false => exact h.s0 h4
 | true =>
  obtain ⟨Wp, x1, x2, rfl, h1, -⟩ := h.s2 h4 h5
  exact h1.alloc h1.size _
theorem MP.step {N : Nat} {s : List Peer} {p : Peer} {vs : Value} {fin : World → Prop} {t1 t2 t3 : Nat} {wr : World} {l : Array Bool} {y y' : Act} {W : World} {i : Nat} (h : MP N s p vs fin t1 t2 t3 wr l y W) (h3 : i ≠ 3) (h4 : i ≠ 4) (h5 : i ≠ 5) (h7 : i ≠ 7) (e1 : y'.tmps.getD t1 undef = y.tmps.getD t1 undef) (e2 : y'.tmps.getD t2 undef = y.tmps.getD t2 undef) (e3 : y'.tmps.getD t3 undef = y.tmps.getD t3 undef) : MP N s p vs fin t1 t2 t3 wr (l.setIfInBounds i true) y' W := by
 refine ⟨?_, ?_, ?_, ?_, ?_⟩
 ·rw [setB h4]; exact h.s0
 ·rw [setB h3, setB h4, e1]; exact h.s1
 ·rw [setB h4, setB h5, e2]; exact h.s2
 ·rw [setB h5, setB h7, e3]; exact h.s3
 ·rw [setB h7]; exact h.s4
theorem field31_5 (w : World) (b : Nat) : (Instr.fieldAt 31 (.pointer (some ⟨b, 0, none⟩)) 5).run Tryz.prog w = .ok (.pointer (some ⟨b, 36, none⟩)) w := by
 simp [Instr.fieldAt, run_underlying Tryz.underlying31, Instr.sureAddr, fieldPlace, go_sem]
def ApplyEnd (m : NMap) (d : NDel) (base : Nat) (e : Ending) (w' : World) : Prop :=
 ∃ v, e = .returned (.tuple #[.agg (mapV (applyOf m d).1.ver (applyOf m d).1.clock (applyOf m d).1.node (applyOf m d).1.key (applyOf m d).1.exp v).toArray, .int .i64 (applyOf m d).2]) ∧ kPeer.R 48 w' base (fun _ => True) v (applyOf m d).1.peers
theorem ApplyEnd.bad {m : NMap} {d : NDel} {base : Nat} {w' : World} {c : Int} (h : applyOf m d = (map0, c)) : ApplyEnd m d base (.returned (.tuple #[.agg (mapV 0 0 0 key0 0 nilV).toArray, .int .i64 c])) w' := by
 unfold ApplyEnd
 rw [h]
 exact ⟨nilV, rfl, Kd.R_nil _ _ _ _ _⟩
end Go.Proofs.YtmgbaefgcdglpaaGreatDoor.Net
end
section
namespace Go.Proofs.YtmgbaefgcdglpaaGreatDoor.Net
open Go Go.RowKit Go.Proofs Go.Proofs.YtmgbaefgcdglpaaGreatDoorW.PrintWords Go.Proofs.YtmgbaefgcdglpaaGreatDoorW.PrintLast Go.Proofs.YtmgbaefgcdglpaaGreatDoorW.PrintMore Go.Proofs.YtmgbaefgcdglpaaGreatDoor.Dir
set_option linter.unusedVariables false
set_option linter.unusedSimpArgs false
theorem read_step_none {F : Int → Option Peer} {k : Nat} (h : F ((k : Int) + 1) = none) : (nodesTo (k + 1)).filterMap F = (nodesTo k).filterMap F := by
 rw [nodesTo_step, List.filterMap_append, List.filterMap_cons_none h]
 simp
theorem read_step_some {F : Int → Option Peer} {k : Nat} {p : Peer} (h : F ((k : Int) + 1) = some p) : (nodesTo (k + 1)).filterMap F = (nodesTo k).filterMap F ++ [p] := by
 rw [nodesTo_step, List.filterMap_append, List.filterMap_cons_some h]
 rfl
theorem read_len {F : Int → Option Peer} : ∀ k : Nat, ((nodesTo k).filterMap F).length ≤ k := fun k =>
 Nat.le_trans (List.length_filterMap_le _ _) (by unfold nodesTo; simp)
end Go.Proofs.YtmgbaefgcdglpaaGreatDoor.Net
end
