/- Small functions, printed. Small functions of the netmap, in plain words. Peers compared. Spans compared by a function. -/
import Derived.Test.YtmgbaefgcdglpaaGreatDoorNc17
import Derived.Test.YtmgbaefgcdglpaaGreatDoorNc2
import Derived.Test.YtmgbaefgcdglpaaGreatDoorNc0
import Derived.Test.YtmgbaefgcdglpaaGreatDoorNc5
import Derived.Test.YtmgbaefgcdglpaaGreatDoorNc6
import Derived.Test.YtmgbaefgcdglpaaGreatDoorNc1
import Derived.Test.YtmgbaefgcdglpaaGreatDoorNc7
import Derived.Test.YtmgbaefgcdglpaaGreatDoorNc3
import Derived.Test.YtmgbaefgcdglpaaGreatDoorNc9
import Derived.Test.YtmgbaefgcdglpaaGreatDoorNc8
import Derived.Test.YtmgbaefgcdglpaaGreatDoorNc10
import Derived.Test.YtmgbaefgcdglpaaGreatDoorNc4
import Derived.SizedLaws
import Derived.ChangeSlices
section
namespace Go.Proofs.YtmgbaefgcdglpaaGreatDoor.PA
open Go.RowKit Go.Proofs.YtmgbaefgcdglpaaGreatDoorW.PrintWords Go.Proofs.YtmgbaefgcdglpaaGreatDoorW.PrintLast Go.Proofs.YtmgbaefgcdglpaaGreatDoorW.PrintMore
attribute [local go_sem] max2_int min2_int max_two min_two max_three min_three max_four min_four   -- for this text's walks alone
set_option linter.unusedVariables false
set_option linter.unusedSimpArgs false
attribute [local go_sem high] eqA80
def netmap_node.f (a0 : Int) : Option (Bool) := if a0 ≥ 1 then (some (decide (a0 ≤ 8))) else (some false)
set_option maxHeartbeats 8000000 in
set_option maxRecDepth 100000 in
theorem netmap_node.calls (a0 : Int) (r : Bool) (w : World) (h : netmap_node.f a0 = some r) :
  Calls Tryz.prog 49 #[.int .i64 a0] w fun e w' => e = .returned (.bool r) ∧ Drawn0 w w' := by
 have H : (if a0 ≥ 1 then (some (decide (a0 ≤ 8))) else (some false)) = some r := h
 clear h
 by_cases c2 : a0 ≥ 1
 ·rw [if_pos c2] at H
  have c2b0 : decide (1 ≤ a0) = true := decide_eq_true c2
  clear c2
  obtain rfl := Option.some.inj H
  go_enter Tryz.func49, Tryz.ntmps49
  go_wp2
  go_ret
  exact ⟨by first | rfl | (simp; done) | (simp [*]; done), by repeat (first | exact Drawn0.refl _ | apply Drawn0.step)⟩
 ·rw [if_neg c2] at H
  have c2b0 : decide (1 ≤ a0) = false := decide_eq_false c2
  clear c2
  obtain rfl := Option.some.inj H
  go_enter Tryz.func49, Tryz.ntmps49
  go_wp2
  go_ret
  exact ⟨by first | rfl | (simp; done) | (simp [*]; done), by repeat (first | exact Drawn0.refl _ | apply Drawn0.step)⟩
-- NOT PRINTED: function 101 (api_Device)
-- NOT PRINTED: function 50 (direct_Valid)
-- NOT PRINTED: function 15 (netmap_Of)
def netmap_number.f (a0 : Int) : Option (Bool) := if a0 ≥ 0 then (some (decide (a0 ≤ 9007199254740991))) else (some false)
set_option maxHeartbeats 8000000 in
set_option maxRecDepth 100000 in
theorem netmap_number.calls (a0 : Int) (r : Bool) (w : World) (h : netmap_number.f a0 = some r) :
  Calls Tryz.prog 63 #[.int .i64 a0] w fun e w' => e = .returned (.bool r) ∧ Drawn0 w w' := by
 have H : (if a0 ≥ 0 then (some (decide (a0 ≤ 9007199254740991))) else (some false)) = some r := h
 clear h
 by_cases c2 : a0 ≥ 0
 ·rw [if_pos c2] at H
  have c2b0 : decide (0 ≤ a0) = true := decide_eq_true c2
  clear c2
  obtain rfl := Option.some.inj H
  go_enter Tryz.func63, Tryz.ntmps63
  go_wp2
  go_ret
  exact ⟨by first | rfl | (simp; done) | (simp [*]; done), by repeat (first | exact Drawn0.refl _ | apply Drawn0.step)⟩
 ·rw [if_neg c2] at H
  have c2b0 : decide (0 ≤ a0) = false := decide_eq_false c2
  clear c2
  obtain rfl := Option.some.inj H
  go_enter Tryz.func63, Tryz.ntmps63
  go_wp2
  go_ret
  exact ⟨by first | rfl | (simp; done) | (simp [*]; done), by repeat (first | exact Drawn0.refl _ | apply Drawn0.step)⟩
-- NOT PRINTED: function 167 (api_Key_167)
-- NOT PRINTED: function 118 (api_Key_118)
def netmap_spans.l0 : Nat → List (S80) → Int → List (S80) → Int → Int → Option (Bool)
 | 0, _, _, _, _, _ => none
 | k + 1, x0, x3, x6, x7, x8 => if x8 < x7 then (if 0 ≤ x8 then (if x8 < (x6.length : Int) then (if ((rd_T80 x6 x8).f0) ≤ (wrap64 (x3 + 1)) then (some false) else (if ((rd_T80 x6 x8).f0) < 0 then (some false) else (if ((rd_T80 x6 x8).f1) < ((rd_T80 x6 x8).f0) then (some false) else (if ((rd_T80 x6 x8).f1) > 65535 then (some false) else (netmap_spans.l0 k x0 ((rd_T80 x6 x8).f1) x6 x7 (wrap64 (x8 + 1))))))) else (none)) else (none)) else (some (decide ((x0.length : Int) ≤ 33)))
def netmap_spans.f (k : Nat) (l0 : List (S80)) : Option (Bool) := netmap_spans.l0 k l0 (-2) l0 (l0.length : Int) 0
set_option maxHeartbeats 8000000 in
set_option maxRecDepth 100000 in
theorem netmap_spans.calls (k : Nat) (A0 : Option Addr) (c0 : Nat) (l0 : List (S80)) (r : Bool) (w : World) (hr0 : Kd.C k80 w A0 l0.length l0) (hc0 : l0.length ≤ c0) (h : netmap_spans.f k l0 = some r) :
  Calls Tryz.prog 119 #[.slice A0 l0.length c0] w fun e w' => e = .returned (.bool r) ∧ Below w.heap.size w w' := by
 have hu80 := Tryz.underlying80
 have HR0 := Aside0.mk hr0
 have HC0 := Aside0.mk hc0
 clear hr0 hc0
 have HB := Aside0.mk (Below.refl w.heap.size w)
 have H : (netmap_spans.l0 k l0 (-2) l0 (l0.length : Int) 0) = some r := h
 clear h
 have H' := Aside0.mk H
 clear H
 go_enter Tryz.func119, Tryz.ntmps119
 go_wp2
 go_loopg [3, 8] k (fun kq v3 v8 w' => ∃ (x3_1 : Int) (x8_1 : Int), v3 = .int .i64 x3_1 ∧ v8 = .int .i64 x8_1 ∧ Aside0 (netmap_spans.l0 kq l0 x3_1 l0 (l0.length : Int) x8_1 = some r) ∧ Aside0 (kq ≤ k) ∧ Aside0 (Below w.heap.size w w'))
 case atStart => exact ⟨((-2)), (0), (by first | rfl | (simp; done) | (simp [*]; done)), (by first | rfl | (simp; done) | (simp [*]; done)), H', ⟨Nat.le_refl _⟩, ⟨by repeat (first | (with_reducible first | exact HB.out | apply below_alloc | apply pw_below_drewN | apply below_drew1) | exact HB.out)⟩⟩
 case round =>
  clear H'
  try clear c1
  obtain ⟨x3_1, x8_1, rfl, rfl, HA, HK1, HB⟩ := hrel
  cases gk with
  | zero => exact absurd HA.out (by simp [netmap_spans.l0])
  | succ k1 =>
   have H := HA.out
   clear HA
   simp only [netmap_spans.l0] at H
   by_cases c2 : x8_1 < (l0.length : Int)
   ·rw [if_pos c2] at H
    have c2b0 : decide (x8_1 < (l0.length : Int)) = true := decide_eq_true c2
    clear c2
    by_cases c3 : 0 ≤ x8_1
    ·rw [if_pos c3] at H
     have c3b0 : decide (0 ≤ x8_1) = true := decide_eq_true c3
     clear c3
     by_cases c4 : x8_1 < (l0.length : Int)
     ·rw [if_pos c4] at H
      have c4b0 : decide (x8_1 < (l0.length : Int)) = true := decide_eq_true c4
      clear c4
      by_cases c5 : ((rd_T80 l0 x8_1).f0) ≤ (wrap64 (x3_1 + 1))
      ·rw [if_pos c5] at H
       have c5b0 : decide (((rd_T80 l0 x8_1).f0) ≤ (wrap64 (x3_1 + 1))) = true := decide_eq_true c5
       clear c5
       obtain rfl := Option.some.inj H
       have p199 : 0 ≤ (x8_1 : Int) := of_decide_eq_true (by first | (with_reducible assumption) | assumption)
       have q199 : x8_1 < (l0.length : Int) := of_decide_eq_true (by first | (with_reducible assumption) | assumption)
       obtain ⟨ad199, e199, hx199_0, hx199_1⟩ := at_T80 HR0.out x8_1 p199 q199
       cases e199
       replace hx199_0 := (HB.out.cell (World.block_lt_of_cell? w _ hx199_0)).trans hx199_0
       replace hx199_1 := (HB.out.cell (World.block_lt_of_cell? w _ hx199_1)).trans hx199_1
       replace p199 := eq_true p199
       replace q199 := eq_true q199
       go_wp2_with (first | ((with_reducible refine gate_dst (N := 5) rfl ?_); refine box_event ?hg (N := 5) ?hd (cs := #[.int .i64 0, .int .i64 0]) (t := 80) ?hr ?_; (case hd => rfl); (case hg => rfl); (case hr => first | (go_simp; done) | (go_simp; rfl)); intro gb200 hg w6 hbox hb; have n0_ := Aside0.mk (below_step (by repeat (first | (with_reducible first | exact HB.out | apply below_alloc | apply pw_below_drewN | apply below_drew1) | exact HB.out)) hb); have n1_ := Aside0.mk (hbox); have n2_ := Aside0.mk ((by rw [hg]; exact (below_size (by repeat (first | (with_reducible first | exact HB.out | apply below_alloc | apply pw_below_drewN | apply below_drew1) | exact HB.out))) : w.heap.size ≤ gb200)); have n3_ := Aside0.mk ((by rw [hg]; exact (below_size (by repeat (first | (with_reducible first | exact HB.out | apply below_alloc | apply pw_below_drewN | apply below_drew1) | exact HB.out))) : w.heap.size ≤ gb200)); clear HB; have HB := n0_; have BK200 := n1_; have GW200 := n2_; have GE200 := n3_; clear n0_ n1_ n2_ n3_; clear hb hbox hg; have hcz7_0 : w6.cell? ⟨gb200, 0, none⟩ = some (.int .i64 0) := (blk_cell BK200.out 0).trans rfl; have hcz7_1 : w6.cell? ⟨gb200, 1, none⟩ = some (.int .i64 0) := (blk_cell BK200.out 1).trans rfl; have hfz7_0 := blk_frozen BK200.out 0; have hfz7_1 := blk_frozen BK200.out 1))
       go_ret
       exact ⟨by first | rfl | (simp [errW_none, errW_some] <;> rfl) | (simp [*, errW_none, errW_some] <;> rfl), by repeat (first | (with_reducible first | exact HB.out | apply below_alloc | apply pw_below_drewN | apply below_drew1 | refine below_set ?_ GE200.out) | exact HB.out)⟩
      ·rw [if_neg c5] at H
       have c5b0 : decide (((rd_T80 l0 x8_1).f0) ≤ (wrap64 (x3_1 + 1))) = false := decide_eq_false c5
       clear c5
       by_cases c8 : ((rd_T80 l0 x8_1).f0) < 0
       ·rw [if_pos c8] at H
        have c8b0 : decide (((rd_T80 l0 x8_1).f0) < 0) = true := decide_eq_true c8
        clear c8
        obtain rfl := Option.some.inj H
        have p199 : 0 ≤ (x8_1 : Int) := of_decide_eq_true (by first | (with_reducible assumption) | assumption)
        have q199 : x8_1 < (l0.length : Int) := of_decide_eq_true (by first | (with_reducible assumption) | assumption)
        obtain ⟨ad199, e199, hx199_0, hx199_1⟩ := at_T80 HR0.out x8_1 p199 q199
        cases e199
        replace hx199_0 := (HB.out.cell (World.block_lt_of_cell? w _ hx199_0)).trans hx199_0
        replace hx199_1 := (HB.out.cell (World.block_lt_of_cell? w _ hx199_1)).trans hx199_1
        replace p199 := eq_true p199
        replace q199 := eq_true q199
        go_wp2_with (first | ((with_reducible refine gate_dst (N := 5) rfl ?_); refine box_event ?hg (N := 5) ?hd (cs := #[.int .i64 0, .int .i64 0]) (t := 80) ?hr ?_; (case hd => rfl); (case hg => rfl); (case hr => first | (go_simp; done) | (go_simp; rfl)); intro gb200 hg w9 hbox hb; have n0_ := Aside0.mk (below_step (by repeat (first | (with_reducible first | exact HB.out | apply below_alloc | apply pw_below_drewN | apply below_drew1) | exact HB.out)) hb); have n1_ := Aside0.mk (hbox); have n2_ := Aside0.mk ((by rw [hg]; exact (below_size (by repeat (first | (with_reducible first | exact HB.out | apply below_alloc | apply pw_below_drewN | apply below_drew1) | exact HB.out))) : w.heap.size ≤ gb200)); have n3_ := Aside0.mk ((by rw [hg]; exact (below_size (by repeat (first | (with_reducible first | exact HB.out | apply below_alloc | apply pw_below_drewN | apply below_drew1) | exact HB.out))) : w.heap.size ≤ gb200)); clear HB; have HB := n0_; have BK200 := n1_; have GW200 := n2_; have GE200 := n3_; clear n0_ n1_ n2_ n3_; clear hb hbox hg; have hcz10_0 : w9.cell? ⟨gb200, 0, none⟩ = some (.int .i64 0) := (blk_cell BK200.out 0).trans rfl; have hcz10_1 : w9.cell? ⟨gb200, 1, none⟩ = some (.int .i64 0) := (blk_cell BK200.out 1).trans rfl; have hfz10_0 := blk_frozen BK200.out 0; have hfz10_1 := blk_frozen BK200.out 1))
        go_ret
        exact ⟨by first | rfl | (simp [errW_none, errW_some] <;> rfl) | (simp [*, errW_none, errW_some] <;> rfl), by repeat (first | (with_reducible first | exact HB.out | apply below_alloc | apply pw_below_drewN | apply below_drew1 | refine below_set ?_ GE200.out) | exact HB.out)⟩
       ·rw [if_neg c8] at H
        have c8b0 : decide (((rd_T80 l0 x8_1).f0) < 0) = false := decide_eq_false c8
        clear c8
        by_cases c11 : ((rd_T80 l0 x8_1).f1) < ((rd_T80 l0 x8_1).f0)
        ·rw [if_pos c11] at H
         have c11b0 : decide (((rd_T80 l0 x8_1).f1) < ((rd_T80 l0 x8_1).f0)) = true := decide_eq_true c11
         clear c11
         obtain rfl := Option.some.inj H
         have p199 : 0 ≤ (x8_1 : Int) := of_decide_eq_true (by first | (with_reducible assumption) | assumption)
         have q199 : x8_1 < (l0.length : Int) := of_decide_eq_true (by first | (with_reducible assumption) | assumption)
         obtain ⟨ad199, e199, hx199_0, hx199_1⟩ := at_T80 HR0.out x8_1 p199 q199
         cases e199
         replace hx199_0 := (HB.out.cell (World.block_lt_of_cell? w _ hx199_0)).trans hx199_0
         replace hx199_1 := (HB.out.cell (World.block_lt_of_cell? w _ hx199_1)).trans hx199_1
         replace p199 := eq_true p199
         replace q199 := eq_true q199
         go_wp2_with (first | ((with_reducible refine gate_dst (N := 5) rfl ?_); refine box_event ?hg (N := 5) ?hd (cs := #[.int .i64 0, .int .i64 0]) (t := 80) ?hr ?_; (case hd => rfl); (case hg => rfl); (case hr => first | (go_simp; done) | (go_simp; rfl)); intro gb200 hg w12 hbox hb; have n0_ := Aside0.mk (below_step (by repeat (first | (with_reducible first | exact HB.out | apply below_alloc | apply pw_below_drewN | apply below_drew1) | exact HB.out)) hb); have n1_ := Aside0.mk (hbox); have n2_ := Aside0.mk ((by rw [hg]; exact (below_size (by repeat (first | (with_reducible first | exact HB.out | apply below_alloc | apply pw_below_drewN | apply below_drew1) | exact HB.out))) : w.heap.size ≤ gb200)); have n3_ := Aside0.mk ((by rw [hg]; exact (below_size (by repeat (first | (with_reducible first | exact HB.out | apply below_alloc | apply pw_below_drewN | apply below_drew1) | exact HB.out))) : w.heap.size ≤ gb200)); clear HB; have HB := n0_; have BK200 := n1_; have GW200 := n2_; have GE200 := n3_; clear n0_ n1_ n2_ n3_; clear hb hbox hg; have hcz13_0 : w12.cell? ⟨gb200, 0, none⟩ = some (.int .i64 0) := (blk_cell BK200.out 0).trans rfl; have hcz13_1 : w12.cell? ⟨gb200, 1, none⟩ = some (.int .i64 0) := (blk_cell BK200.out 1).trans rfl; have hfz13_0 := blk_frozen BK200.out 0; have hfz13_1 := blk_frozen BK200.out 1))
         go_ret
         exact ⟨by first | rfl | (simp [errW_none, errW_some] <;> rfl) | (simp [*, errW_none, errW_some] <;> rfl), by repeat (first | (with_reducible first | exact HB.out | apply below_alloc | apply pw_below_drewN | apply below_drew1 | refine below_set ?_ GE200.out) | exact HB.out)⟩
        ·rw [if_neg c11] at H
         have c11b0 : decide (((rd_T80 l0 x8_1).f1) < ((rd_T80 l0 x8_1).f0)) = false := decide_eq_false c11
         clear c11
         by_cases c14 : ((rd_T80 l0 x8_1).f1) > 65535
         ·rw [if_pos c14] at H
          have c14b0 : decide (65535 < ((rd_T80 l0 x8_1).f1)) = true := decide_eq_true c14
          clear c14
          obtain rfl := Option.some.inj H
          have p199 : 0 ≤ (x8_1 : Int) := of_decide_eq_true (by first | (with_reducible assumption) | assumption)
          have q199 : x8_1 < (l0.length : Int) := of_decide_eq_true (by first | (with_reducible assumption) | assumption)
          obtain ⟨ad199, e199, hx199_0, hx199_1⟩ := at_T80 HR0.out x8_1 p199 q199
          cases e199
          replace hx199_0 := (HB.out.cell (World.block_lt_of_cell? w _ hx199_0)).trans hx199_0
          replace hx199_1 := (HB.out.cell (World.block_lt_of_cell? w _ hx199_1)).trans hx199_1
          replace p199 := eq_true p199
          replace q199 := eq_true q199
          go_wp2_with (first | ((with_reducible refine gate_dst (N := 5) rfl ?_); refine box_event ?hg (N := 5) ?hd (cs := #[.int .i64 0, .int .i64 0]) (t := 80) ?hr ?_; (case hd => rfl); (case hg => rfl); (case hr => first | (go_simp; done) | (go_simp; rfl)); intro gb200 hg w15 hbox hb; have n0_ := Aside0.mk (below_step (by repeat (first | (with_reducible first | exact HB.out | apply below_alloc | apply pw_below_drewN | apply below_drew1) | exact HB.out)) hb); have n1_ := Aside0.mk (hbox); have n2_ := Aside0.mk ((by rw [hg]; exact (below_size (by repeat (first | (with_reducible first | exact HB.out | apply below_alloc | apply pw_below_drewN | apply below_drew1) | exact HB.out))) : w.heap.size ≤ gb200)); have n3_ := Aside0.mk ((by rw [hg]; exact (below_size (by repeat (first | (with_reducible first | exact HB.out | apply below_alloc | apply pw_below_drewN | apply below_drew1) | exact HB.out))) : w.heap.size ≤ gb200)); clear HB; have HB := n0_; have BK200 := n1_; have GW200 := n2_; have GE200 := n3_; clear n0_ n1_ n2_ n3_; clear hb hbox hg; have hcz16_0 : w15.cell? ⟨gb200, 0, none⟩ = some (.int .i64 0) := (blk_cell BK200.out 0).trans rfl; have hcz16_1 : w15.cell? ⟨gb200, 1, none⟩ = some (.int .i64 0) := (blk_cell BK200.out 1).trans rfl; have hfz16_0 := blk_frozen BK200.out 0; have hfz16_1 := blk_frozen BK200.out 1))
          go_ret
          exact ⟨by first | rfl | (simp [errW_none, errW_some] <;> rfl) | (simp [*, errW_none, errW_some] <;> rfl), by repeat (first | (with_reducible first | exact HB.out | apply below_alloc | apply pw_below_drewN | apply below_drew1 | refine below_set ?_ GE200.out) | exact HB.out)⟩
         ·rw [if_neg c14] at H
          have c14b0 : decide (65535 < ((rd_T80 l0 x8_1).f1)) = false := decide_eq_false c14
          clear c14
          have H' := Aside0.mk H
          clear H
          have p199 : 0 ≤ (x8_1 : Int) := of_decide_eq_true (by first | (with_reducible assumption) | assumption)
          have q199 : x8_1 < (l0.length : Int) := of_decide_eq_true (by first | (with_reducible assumption) | assumption)
          obtain ⟨ad199, e199, hx199_0, hx199_1⟩ := at_T80 HR0.out x8_1 p199 q199
          cases e199
          replace hx199_0 := (HB.out.cell (World.block_lt_of_cell? w _ hx199_0)).trans hx199_0
          replace hx199_1 := (HB.out.cell (World.block_lt_of_cell? w _ hx199_1)).trans hx199_1
          replace p199 := eq_true p199
          replace q199 := eq_true q199
          go_wp2_with (first | ((with_reducible refine gate_dst (N := 5) rfl ?_); refine box_event ?hg (N := 5) ?hd (cs := #[.int .i64 0, .int .i64 0]) (t := 80) ?hr ?_; (case hd => rfl); (case hg => rfl); (case hr => first | (go_simp; done) | (go_simp; rfl)); intro gb200 hg w17 hbox hb; have n0_ := Aside0.mk (below_step (by repeat (first | (with_reducible first | exact HB.out | apply below_alloc | apply pw_below_drewN | apply below_drew1) | exact HB.out)) hb); have n1_ := Aside0.mk (hbox); have n2_ := Aside0.mk ((by rw [hg]; exact (below_size (by repeat (first | (with_reducible first | exact HB.out | apply below_alloc | apply pw_below_drewN | apply below_drew1) | exact HB.out))) : w.heap.size ≤ gb200)); have n3_ := Aside0.mk ((by rw [hg]; exact (below_size (by repeat (first | (with_reducible first | exact HB.out | apply below_alloc | apply pw_below_drewN | apply below_drew1) | exact HB.out))) : w.heap.size ≤ gb200)); clear HB; have HB := n0_; have BK200 := n1_; have GW200 := n2_; have GE200 := n3_; clear n0_ n1_ n2_ n3_; clear hb hbox hg; have hcz18_0 : w17.cell? ⟨gb200, 0, none⟩ = some (.int .i64 0) := (blk_cell BK200.out 0).trans rfl; have hcz18_1 : w17.cell? ⟨gb200, 1, none⟩ = some (.int .i64 0) := (blk_cell BK200.out 1).trans rfl; have hfz18_0 := blk_frozen BK200.out 0; have hfz18_1 := blk_frozen BK200.out 1))
          go_roundg k1
          case measure => have := HK1.out; omega
          case rel => exact ⟨((rd_T80 l0 x8_1).f1), (wrap64 (x8_1 + 1)), (by first | rfl | (simp; done) | (simp [*]; done)), (by first | rfl | (simp; done) | (simp [*]; done)), H', ⟨by have := HK1.out; omega⟩, ⟨by repeat (first | (with_reducible first | exact HB.out | apply below_alloc | apply pw_below_drewN | apply below_drew1 | refine below_set ?_ GE200.out) | exact HB.out)⟩⟩
     ·rw [if_neg c4] at H
      exact absurd H (by simp)
    ·rw [if_neg c3] at H
     exact absurd H (by simp)
   ·rw [if_neg c2] at H
    have c2b0 : decide (x8_1 < (l0.length : Int)) = false := decide_eq_false c2
    clear c2
    obtain rfl := Option.some.inj H
    go_wp2
    go_ret
    exact ⟨by first | rfl | (simp [errW_none, errW_some] <;> rfl) | (simp [*, errW_none, errW_some] <;> rfl), by repeat (first | (with_reducible first | exact HB.out | apply below_alloc | apply pw_below_drewN | apply below_drew1) | exact HB.out)⟩
-- NOT PRINTED: function 64 (netmap_head_may)
-- NOT PRINTED: function 27 (netmap_Check)
-- NOT PRINTED: function 168 (api_Span_168)
-- NOT PRINTED: function 121 (api_Span_121)
def netmap_equalSpan.f (a0_0 : Int) (a0_1 : Int) (a1_0 : Int) (a1_1 : Int) : Option (Bool) := some (a0_0 == a1_0 && (a0_1 == a1_1))
set_option maxHeartbeats 8000000 in
set_option maxRecDepth 100000 in
theorem netmap_equalSpan.calls (a0_0 : Int) (a0_1 : Int) (a1_0 : Int) (a1_1 : Int) (r : Bool) (w : World) (h : netmap_equalSpan.f a0_0 a0_1 a1_0 a1_1 = some r) :
  Calls Tryz.prog 122 #[.agg #[.int .i64 a0_0, .int .i64 a0_1], .agg #[.int .i64 a1_0, .int .i64 a1_1]] w fun e w' => e = .returned (.bool r) ∧ Below w.heap.size w w' := by
 have hu80 := Tryz.underlying80
 have HB := Aside0.mk (Below.refl w.heap.size w)
 have H : (some (a0_0 == a1_0 && (a0_1 == a1_1))) = some r := h
 clear h
 obtain rfl := Option.some.inj H
 go_enter Tryz.func122, Tryz.ntmps122
 go_wp2_with (first | ((with_reducible refine gate_dst (N := 2) rfl ?_); refine box_event ?hg (N := 2) ?hd (cs := #[.int .i64 a0_0, .int .i64 a0_1]) (t := 80) ?hr ?_; (case hd => rfl); (case hg => rfl); (case hr => first | (go_simp; done) | (go_simp; rfl)); intro gb201 hg w3 hbox hb; have n0_ := Aside0.mk (below_step (by repeat (first | (with_reducible first | exact HB.out | apply below_alloc | apply pw_below_drewN | apply below_drew1) | exact HB.out)) hb); have n1_ := Aside0.mk (hbox); have n2_ := Aside0.mk ((by rw [hg]; exact (below_size (by repeat (first | (with_reducible first | exact HB.out | apply below_alloc | apply pw_below_drewN | apply below_drew1) | exact HB.out))) : w.heap.size ≤ gb201)); have n3_ := Aside0.mk ((by rw [hg]; exact (below_size (by repeat (first | (with_reducible first | exact HB.out | apply below_alloc | apply pw_below_drewN | apply below_drew1) | exact HB.out))) : w.heap.size ≤ gb201)); clear HB; have HB := n0_; have BK201 := n1_; have GW201 := n2_; have GE201 := n3_; clear n0_ n1_ n2_ n3_; clear hb hbox hg) | ((with_reducible refine gate_dst (N := 3) rfl ?_); refine box_event ?hg (N := 3) ?hd (cs := #[.int .i64 a1_0, .int .i64 a1_1]) (t := 80) ?hr ?_; (case hd => rfl); (case hg => rfl); (case hr => first | (go_simp; done) | (go_simp; rfl)); intro gb202 hg w4 hbox hb; have n0_ := Aside0.mk (blk_below (g := gb201) (o := .cells #[.int .i64 a0_0, .int .i64 a0_1] 80 (0, 0)) (by (with_reducible repeat (first | refine blk_drewN ?_ _ | refine blk_drew ?_ | refine blk_alloc ?_ _)); exact BK201.out) hb); have n1_ := Aside0.mk (below_step (by repeat (first | (with_reducible first | exact HB.out | apply below_alloc | apply pw_below_drewN | apply below_drew1 | refine below_set ?_ GE201.out) | exact HB.out)) hb); have n2_ := Aside0.mk (hbox); have n3_ := Aside0.mk ((by rw [hg]; exact (below_size (by repeat (first | (with_reducible first | exact HB.out | apply below_alloc | apply pw_below_drewN | apply below_drew1 | refine below_set ?_ GE201.out) | exact HB.out))) : w.heap.size ≤ gb202)); have n4_ := Aside0.mk ((by rw [hg]; exact (below_size (by repeat (first | (with_reducible first | exact HB.out | apply below_alloc | apply pw_below_drewN | apply below_drew1 | refine below_set ?_ GE201.out) | exact HB.out))) : w.heap.size ≤ gb202)); have n5_ := Aside0.mk ((by rw [hg]; exact Nat.ne_of_lt (blk_lt (g := gb201) (o := .cells #[.int .i64 a0_0, .int .i64 a0_1] 80 (0, 0)) (by (with_reducible repeat (first | refine blk_drewN ?_ _ | refine blk_drew ?_ | refine blk_alloc ?_ _)); exact BK201.out)) : gb201 ≠ gb202)); have n6_ := Aside0.mk ((by rw [hg]; exact Nat.ne_of_gt (blk_lt (g := gb201) (o := .cells #[.int .i64 a0_0, .int .i64 a0_1] 80 (0, 0)) (by (with_reducible repeat (first | refine blk_drewN ?_ _ | refine blk_drew ?_ | refine blk_alloc ?_ _)); exact BK201.out)) : gb202 ≠ gb201)); clear BK201; clear HB; have BK201 := n0_; have HB := n1_; have BK202 := n2_; have GW202 := n3_; have GE202 := n4_; have NB201_202 := n5_; have NB202_201 := n6_; clear n0_ n1_ n2_ n3_ n4_ n5_ n6_; clear hb hbox hg; have hnb5 := NB201_202.out; have hnc5 := NB202_201.out; have hcz6_0 : w4.cell? ⟨gb201, 0, none⟩ = some (.int .i64 a0_0) := (blk_cell BK201.out 0).trans rfl; have hcz6_1 : w4.cell? ⟨gb201, 1, none⟩ = some (.int .i64 a0_1) := (blk_cell BK201.out 1).trans rfl; have hfz6_0 := blk_frozen BK201.out 0; have hfz6_1 := blk_frozen BK201.out 1; have hcz7_0 : w4.cell? ⟨gb202, 0, none⟩ = some (.int .i64 a1_0) := (blk_cell BK202.out 0).trans rfl; have hcz7_1 : w4.cell? ⟨gb202, 1, none⟩ = some (.int .i64 a1_1) := (blk_cell BK202.out 1).trans rfl; have hfz7_0 := blk_frozen BK202.out 0; have hfz7_1 := blk_frozen BK202.out 1))
 go_ret
 exact ⟨by first | rfl | (simp [errW_none, errW_some] <;> rfl) | (simp [*, errW_none, errW_some] <;> rfl), by repeat (first | (with_reducible first | exact HB.out | apply below_alloc | apply pw_below_drewN | apply below_drew1 | refine below_set ?_ GE201.out | refine below_set ?_ GE202.out) | exact HB.out)⟩
-- NOT PRINTED: function 68 (netmap_equalPeer)
-- NOT PRINTED: function 123 (api_Span_123)
-- NOT PRINTED: function 69 (netmap_own)
-- NOT PRINTED: function 29 (netmap_Diff)
-- NOT PRINTED: function 47 (causewaylaw23_chapter)
-- NOT PRINTED: function 20 (causewaylaw23_works)
-- NOT PRINTED: function 3 (causewaylaw23_NetmapOf)
def causewayref20_SameSpans.l0 : Nat → List (S80) → List (S80) → Int → Option (Bool)
 | 0, _, _, _ => none
 | k + 1, x0, x1, x5 => if x5 < (x0.length : Int) then (if 0 ≤ x5 then (if x5 < (x1.length : Int) then (if (!(((rd_T80 x0 x5).f0) == ((rd_T80 x1 x5).f0)) || (!(((rd_T80 x0 x5).f1) == ((rd_T80 x1 x5).f1)))) = true then (some false) else (causewayref20_SameSpans.l0 k x0 x1 (wrap64 (x5 + 1)))) else (none)) else (none)) else (some true)
def causewayref20_SameSpans.f (k : Nat) (l0 : List (S80)) (l1 : List (S80)) : Option (Bool) := if (l0.length : Int) = (l1.length : Int) then (causewayref20_SameSpans.l0 k l0 l1 0) else (some false)
set_option maxHeartbeats 8000000 in
set_option maxRecDepth 100000 in
theorem causewayref20_SameSpans.calls (k : Nat) (A0 : Option Addr) (c0 : Nat) (l0 : List (S80)) (A1 : Option Addr) (c1 : Nat) (l1 : List (S80)) (r : Bool) (w : World) (hr0 : Kd.C k80 w A0 l0.length l0) (hc0 : l0.length ≤ c0) (hr1 : Kd.C k80 w A1 l1.length l1) (hc1 : l1.length ≤ c1) (h : causewayref20_SameSpans.f k l0 l1 = some r) :
  Calls Tryz.prog 24 #[.slice A0 l0.length c0, .slice A1 l1.length c1] w fun e w' => e = .returned (.bool r) ∧ Drawn0 w w' := by
 have hu80 := Tryz.underlying80
 have HR0 := Aside0.mk hr0
 have HC0 := Aside0.mk hc0
 clear hr0 hc0
 have HR1 := Aside0.mk hr1
 have HC1 := Aside0.mk hc1
 clear hr1 hc1
 have H : (if (l0.length : Int) = (l1.length : Int) then (causewayref20_SameSpans.l0 k l0 l1 0) else (some false)) = some r := h
 clear h
 by_cases c3 : (l0.length : Int) = (l1.length : Int)
 ·rw [if_pos c3] at H
  have c3b0 : ((l0.length : Int) == (l1.length : Int)) = true := beq_iff_eq.mpr c3
  have c3b1 : ((l0.length : Int) != (l1.length : Int)) = false := bne_eq_false_iff_eq.mpr c3
  have c3b2 : (l0.length == l1.length) = true := by first | simpa using c3 | (simp at c3 ⊢; omega)
  clear c3
  have H' := Aside0.mk H
  clear H
  go_enter Tryz.func24, Tryz.ntmps24
  go_wp2
  repeat (go_quiet (fail); try go_wp2)
  go_loopg [5] k (fun kq v5 w' => ∃ (x5_1 : Int), v5 = .int .i64 x5_1 ∧ Aside0 (causewayref20_SameSpans.l0 kq l0 l1 x5_1 = some r) ∧ Aside0 (kq ≤ k) ∧ Drawn0 w w')
  case atStart => exact ⟨(0), (by first | rfl | (simp; done) | (simp [*]; done)), H', ⟨Nat.le_refl _⟩, by repeat (first | exact Drawn0.refl _ | apply Drawn0.step)⟩
  case round =>
   clear H'
   try clear c1
   try clear c2
   try clear p2
   try clear c3
   try clear c3b0
   try clear c3b1
   try clear c3b2
   obtain ⟨x5_1, rfl, HA, HK1, ⟨m1, rfl⟩⟩ := hrel
   cases gk with
   | zero => exact absurd HA.out (by simp [causewayref20_SameSpans.l0])
   | succ k1 =>
    have H := HA.out
    clear HA
    simp only [causewayref20_SameSpans.l0] at H
    by_cases c4 : x5_1 < (l0.length : Int)
    ·rw [if_pos c4] at H
     have c4b0 : decide (x5_1 < (l0.length : Int)) = true := decide_eq_true c4
     clear c4
     by_cases c5 : 0 ≤ x5_1
     ·rw [if_pos c5] at H
      have c5b0 : decide (0 ≤ x5_1) = true := decide_eq_true c5
      clear c5
      by_cases c6 : x5_1 < (l1.length : Int)
      ·rw [if_pos c6] at H
       have c6b0 : decide (x5_1 < (l1.length : Int)) = true := decide_eq_true c6
       clear c6
       by_cases c7 : (!(((rd_T80 l0 x5_1).f0) == ((rd_T80 l1 x5_1).f0)) || (!(((rd_T80 l0 x5_1).f1) == ((rd_T80 l1 x5_1).f1)))) = true
       ·rw [if_pos c7] at H
        have c7b0 : (!(((rd_T80 l0 x5_1).f0) == ((rd_T80 l1 x5_1).f0)) || (!(((rd_T80 l0 x5_1).f1) == ((rd_T80 l1 x5_1).f1)))) = true := c7
        clear c7
        obtain rfl := Option.some.inj H
        have p197 : 0 ≤ (x5_1 : Int) := of_decide_eq_true (by first | (with_reducible assumption) | assumption)
        have q197 : x5_1 < (l0.length : Int) := of_decide_eq_true (by first | (with_reducible assumption) | assumption)
        obtain ⟨ad197, e197, hx197_0, hx197_1⟩ := at_T80 HR0.out x5_1 p197 q197
        cases e197
        replace p197 := eq_true p197
        replace q197 := eq_true q197
        have p198 : 0 ≤ (x5_1 : Int) := of_decide_eq_true (by first | (with_reducible assumption) | assumption)
        have q198 : x5_1 < (l1.length : Int) := of_decide_eq_true (by first | (with_reducible assumption) | assumption)
        obtain ⟨ad198, e198, hx198_0, hx198_1⟩ := at_T80 HR1.out x5_1 p198 q198
        cases e198
        replace p198 := eq_true p198
        replace q198 := eq_true q198
        go_wp2
        repeat (go_quiet (fail); try go_wp2)
        go_ret
        exact ⟨by first | rfl | (simp; done) | (simp [*]; done), by repeat (first | exact Drawn0.refl _ | apply Drawn0.step)⟩
       ·rw [if_neg c7] at H
        have c7b0 : (!(((rd_T80 l0 x5_1).f0) == ((rd_T80 l1 x5_1).f0)) || (!(((rd_T80 l0 x5_1).f1) == ((rd_T80 l1 x5_1).f1)))) = false := by simpa using c7
        clear c7
        have H' := Aside0.mk H
        clear H
        have p197 : 0 ≤ (x5_1 : Int) := of_decide_eq_true (by first | (with_reducible assumption) | assumption)
        have q197 : x5_1 < (l0.length : Int) := of_decide_eq_true (by first | (with_reducible assumption) | assumption)
        obtain ⟨ad197, e197, hx197_0, hx197_1⟩ := at_T80 HR0.out x5_1 p197 q197
        cases e197
        replace p197 := eq_true p197
        replace q197 := eq_true q197
        have p198 : 0 ≤ (x5_1 : Int) := of_decide_eq_true (by first | (with_reducible assumption) | assumption)
        have q198 : x5_1 < (l1.length : Int) := of_decide_eq_true (by first | (with_reducible assumption) | assumption)
        obtain ⟨ad198, e198, hx198_0, hx198_1⟩ := at_T80 HR1.out x5_1 p198 q198
        cases e198
        replace p198 := eq_true p198
        replace q198 := eq_true q198
        go_wp2
        repeat (go_quiet (fail); try go_wp2)
        go_roundg k1
        case measure => have := HK1.out; omega
        case rel => exact ⟨(wrap64 (x5_1 + 1)), (by first | rfl | (simp; done) | (simp [*]; done)), H', ⟨by have := HK1.out; omega⟩, by repeat (first | exact Drawn0.refl _ | apply Drawn0.step)⟩
      ·rw [if_neg c6] at H
       exact absurd H (by simp)
     ·rw [if_neg c5] at H
      exact absurd H (by simp)
    ·rw [if_neg c4] at H
     have c4b0 : decide (x5_1 < (l0.length : Int)) = false := decide_eq_false c4
     clear c4
     obtain rfl := Option.some.inj H
     go_wp2
     repeat (go_quiet (fail); try go_wp2)
     go_ret
     exact ⟨by first | rfl | (simp; done) | (simp [*]; done), by repeat (first | exact Drawn0.refl _ | apply Drawn0.step)⟩
 ·rw [if_neg c3] at H
  have c3b0 : ((l0.length : Int) == (l1.length : Int)) = false := beq_eq_false_iff_ne.mpr c3
  have c3b1 : ((l0.length : Int) != (l1.length : Int)) = true := bne_iff_ne.mpr c3
  have c3b2 : (l0.length == l1.length) = false := by first | simpa using c3 | (simp at c3 ⊢; omega)
  obtain rfl := Option.some.inj H
  go_enter Tryz.func24, Tryz.ntmps24
  go_wp2
  repeat (go_quiet (fail); try go_wp2)
  go_ret
  exact ⟨by first | rfl | (simp; done) | (simp [*]; done), by repeat (first | exact Drawn0.refl _ | apply Drawn0.step)⟩
-- NOT PRINTED: function 71 (causewayref23_SamePeer)
-- NOT PRINTED: function 55 (causewayref23_SamePeers)
-- NOT PRINTED: function 18 (causewayref23_Same)
-- NOT PRINTED: function 19 (causewayref21_Same)
-- NOT PRINTED: function 104 (causewayref21_Less)
-- NOT PRINTED: function 105 (causewayref21_keys)
-- NOT PRINTED: function 51 (causewayref21_Check)
-- NOT PRINTED: function 81 (api_Key_81)
-- NOT PRINTED: function 76 (direct_taken)
end Go.Proofs.YtmgbaefgcdglpaaGreatDoor.PA
end
section
namespace Go.Proofs.YtmgbaefgcdglpaaGreatDoor.Net
open Go Go.RowKit Go.Proofs Go.Proofs.YtmgbaefgcdglpaaGreatDoorW.PrintWords Go.Proofs.YtmgbaefgcdglpaaGreatDoorW.PrintLast Go.Proofs.YtmgbaefgcdglpaaGreatDoorW.PrintMore Go.Proofs.YtmgbaefgcdglpaaGreatDoor.Dir
set_option linter.unusedVariables false
set_option linter.unusedSimpArgs false
theorem wrapN (i : Nat) (h : i < 9223372036854775807) : wrap64 ((i : Int) + 1) = ((i + 1 : Nat) : Int) := by unfold wrap64; omega
theorem dropSp {l : List Sp} {i : Nat} (h : i < l.length) : l.drop i = PA.rd_T80 l (i : Int) :: l.drop (i + 1) := by
 rw [List.drop_eq_getElem_cons h]
 simp [PA.rd_T80, List.getD_eq_getElem?_getD, List.getElem?_eq_getElem h]
theorem sp_eq (a b : Sp) : (a = b) ↔ (a.f0 = b.f0 ∧ a.f1 = b.f1) := by cases a; cases b; simp
theorem sameSpans_l0 (l m : List Sp) (hlm : l.length = m.length) (hl : l.length ≤ 9223372036854775807) : ∀ (n k i : Nat), l.length - i ≤ n → n < k → PA.causewayref20_SameSpans.l0 k l m (i : Int) = some (decide (l.drop i = m.drop i)) := by
 intro n
 induction n with
 | zero =>
  intro k i hn hk
  obtain ⟨k, rfl⟩ : ∃ j, k = j + 1 := ⟨k - 1, by omega⟩
  unfold PA.causewayref20_SameSpans.l0
  rw [if_neg (by omega), List.drop_of_length_le (by omega), List.drop_of_length_le (by omega)]
  simp
 | succ n ih =>
  intro k i hn hk
  by_cases h : i < l.length
  ·obtain ⟨k, rfl⟩ : ∃ j, k = j + 1 := ⟨k - 1, by omega⟩
   unfold PA.causewayref20_SameSpans.l0
   rw [if_pos (by omega), if_pos (by omega), if_pos (by omega), wrapN i (by omega), dropSp h, dropSp (show i < m.length by omega)]
   have e := sp_eq (PA.rd_T80 l (i : Int)) (PA.rd_T80 m (i : Int))
   by_cases h0 : (PA.rd_T80 l (i : Int)).f0 = (PA.rd_T80 m (i : Int)).f0
   ·by_cases h1 : (PA.rd_T80 l (i : Int)).f1 = (PA.rd_T80 m (i : Int)).f1
    ·rw [if_neg (by simp [h0, h1]), ih k (i + 1) (by omega) (by omega), e.2 ⟨h0, h1⟩]
     simp
    ·rw [if_pos (by simp [h1])]
     simp only [List.cons.injEq, e, h1, and_false, false_and, decide_false]
   ·rw [if_pos (by simp [h0])]
    simp only [List.cons.injEq, e, h0, false_and, decide_false]
  ·exact ih k i (by omega) (by omega)
theorem sameSpans_eq (l m : List Sp) (hl : l.length ≤ 9223372036854775807) (k : Nat) (hk : l.length < k) : PA.causewayref20_SameSpans.f k l m = some (decide (l = m)) := by
 unfold PA.causewayref20_SameSpans.f
 by_cases h : l.length = m.length
 ·rw [if_pos (by omega)]
  have := sameSpans_l0 l m h hl l.length k 0 (by omega) hk
  simpa using this
 ·rw [if_neg (by omega), decide_eq_false (fun e => h (by rw [e]))]
theorem spans_l0 (l : List Sp) (hl : l.length ≤ 9223372036854775807) : ∀ (n k i : Nat) (last : Int), l.length - i ≤ n → n < k → -2 ≤ last → last ≤ 65535 → PA.netmap_spans.l0 k l last l (l.length : Int) (i : Int) = some (spanGo last (l.drop i) && decide (l.length ≤ 33)) := by
 intro n
 induction n with
 | zero =>
  intro k i last hn hk h1 h2
  obtain ⟨k, rfl⟩ : ∃ j, k = j + 1 := ⟨k - 1, by omega⟩
  unfold PA.netmap_spans.l0
  rw [if_neg (by omega), List.drop_of_length_le (by omega)]
  have : decide ((l.length : Int) ≤ 33) = decide (l.length ≤ 33) := by
   by_cases h : l.length ≤ 33
   ·rw [decide_eq_true h, decide_eq_true (by omega)]
   ·rw [decide_eq_false h, decide_eq_false (by omega)]
  rw [this]
  rfl
 | succ n ih =>
  intro k i last hn hk h1 h2
  by_cases h : i < l.length
  ·obtain ⟨k, rfl⟩ : ∃ j, k = j + 1 := ⟨k - 1, by omega⟩
   unfold PA.netmap_spans.l0
   have hw : wrap64 (last + 1) = last + 1 := by unfold wrap64; omega
   rw [if_pos (by omega), if_pos (by omega), if_pos (by omega), wrapN i (by omega), dropSp h, hw]
   unfold spanGo
   by_cases a1 : (PA.rd_T80 l (i : Int)).f0 ≤ last + 1
   ·rw [if_pos a1, decide_eq_false (by omega)]; rfl
   ·rw [if_neg a1]
    by_cases a2 : (PA.rd_T80 l (i : Int)).f0 < 0
    ·rw [if_pos a2, decide_eq_false (by omega)]; rfl
    ·rw [if_neg a2]
     by_cases a3 : (PA.rd_T80 l (i : Int)).f1 < (PA.rd_T80 l (i : Int)).f0
     ·rw [if_pos a3, decide_eq_false (by omega)]; rfl
     ·rw [if_neg a3]
      by_cases a4 : (PA.rd_T80 l (i : Int)).f1 > 65535
      ·rw [if_pos a4, decide_eq_false (by omega)]; rfl
      ·rw [if_neg a4, decide_eq_true (by omega), Bool.true_and]
       exact ih k (i + 1) _ (by omega) (by omega) (by omega) (by omega)
  ·exact ih k i last (by omega) (by omega) h1 h2
theorem spans_eq (l : List Sp) (hl : l.length ≤ 9223372036854775807) (k : Nat) (hk : l.length < k) : PA.netmap_spans.f k l = some (spansOk l) := by
 have := spans_l0 l hl l.length k 0 (-2) (by omega) hk (by decide) (by decide)
 unfold PA.netmap_spans.f spansOk
 simpa using this
theorem number63 (n : Int) (w : World) : Calls Tryz.prog 63 #[.int .i64 n] w fun e w' => e = .returned (.bool (number n)) ∧ Below w.heap.size w w' := by
 have h : PA.netmap_number.f n = some (number n) := by
  unfold PA.netmap_number.f number maxN
  by_cases h : n ≥ 0
  ·rw [if_pos h]; simp [h]
  ·rw [if_neg h]; simp; omega
 exact (PA.netmap_number.calls n (number n) w h).mono fun e w' h => ⟨h.1, by first | exact h.2 | (rw [h.2]; exact Below.refl _ _) | exact h.2.below⟩
theorem node49 (n : Int) (w : World) : Calls Tryz.prog 49 #[.int .i64 n] w fun e w' => e = .returned (.bool (nodeIn n)) ∧ Below w.heap.size w w' := by
 have h : PA.netmap_node.f n = some (nodeIn n) := by
  unfold PA.netmap_node.f nodeIn
  by_cases h : n ≥ 1
  ·rw [if_pos h]; simp [h]
  ·rw [if_neg h]; simp; omega
 exact (PA.netmap_node.calls n (nodeIn n) w h).mono fun e w' h => ⟨h.1, by first | exact h.2 | (rw [h.2]; exact Below.refl _ _) | exact h.2.below⟩
end Go.Proofs.YtmgbaefgcdglpaaGreatDoor.Net
end
section
namespace Go.Proofs.YtmgbaefgcdglpaaGreatDoor.Net
open Go Go.RowKit Go.Proofs Go.Proofs.YtmgbaefgcdglpaaGreatDoorW.PrintWords Go.Proofs.YtmgbaefgcdglpaaGreatDoorW.PrintLast Go.Proofs.YtmgbaefgcdglpaaGreatDoorW.PrintMore Go.Proofs.YtmgbaefgcdglpaaGreatDoor.Dir
set_option linter.unusedVariables false
set_option linter.unusedSimpArgs false
theorem sameSpans24 (l m : List Sp) (A0 A1 : Option Addr) (c0 c1 : Nat) (w : World) (h0 : SpAt w A0 c0 l) (h1 : SpAt w A1 c1 m) :
  Calls Tryz.prog 24 #[.slice A0 l.length c0, .slice A1 m.length c1] w fun e w' => e = .returned (.bool (decide (l = m))) ∧ Below w.heap.size w w' :=
 (PA.causewayref20_SameSpans.calls (l.length + 1) A0 c0 l A1 c1 m (decide (l = m)) w h0.2 h0.1 h1.2 h1.1 (sameSpans_eq l m h0.len _ (Nat.lt_succ_self _))).mono fun e w' h => ⟨h.1, h.2.below⟩
theorem spans119 (l : List Sp) (A : Option Addr) (c : Nat) (w : World) (h : SpAt w A c l) :
  Calls Tryz.prog 119 #[.slice A l.length c] w fun e w' => e = .returned (.bool (spansOk l)) ∧ Below w.heap.size w w' :=
 PA.netmap_spans.calls (l.length + 1) A c l (spansOk l) w h.2 h.1 (spans_eq l h.len _ (Nat.lt_succ_self _))
theorem peer_eq (p q : Peer) : p = q ↔ p.node = q.node ∧ p.key = q.key ∧ p.exp = q.exp ∧ p.inn = q.inn ∧ p.out = q.out := by
 constructor
 ·rintro rfl; exact ⟨rfl, rfl, rfl, rfl, rfl⟩
 ·rintro ⟨h1, h2, h3, h4, h5⟩
  cases p; cases q
  simp only at h1 h2 h3 h4 h5
  rw [h1, h2, h3, h4, h5]
set_option maxHeartbeats 4000000 in
set_option maxRecDepth 100000 in
theorem samePeer71 (p q : Peer) (A1 A2 A3 A4 : Option Addr) (c1 c2 c3 c4 : Nat) (w : World) (hp : PIn w p A1 c1 A2 c2) (hq : PIn w q A3 c3 A4 c4) :
  Calls Tryz.prog 71 #[.agg (peerCells p A1 c1 A2 c2).toArray, .agg (peerCells q A3 c3 A4 c4).toArray] w fun e w' => e = .returned (.bool (decide (p = q))) ∧ Below w.heap.size w w' := by
 obtain ⟨W0, hW0⟩ : ∃ W0, W0 = (w.alloc (.cells (peerCells p A1 c1 A2 c2).toArray 48)).alloc (.cells (peerCells q A3 c3 A4 c4).toArray 48) := ⟨_, rfl⟩
 obtain ⟨b0, hb0⟩ : ∃ b0, b0 = w.heap.size := ⟨_, rfl⟩
 have hbw : Below w.heap.size w W0 := by rw [hW0]; exact ((Below.refl _ w).alloc (Nat.le_refl _) _).alloc (by simp) _
 have q1 : W0.heap[b0]? = some (.cells (peerCells p A1 c1 A2 c2).toArray 48 (0, 0)) := by rw [hW0, hb0, Below.heap_alloc _ _ _ (by simp)]; exact heap_alloc_new w _
 have q2 : W0.heap[b0 + 1]? = some (.cells (peerCells q A3 c3 A4 c4).toArray 48 (0, 0)) := by rw [hW0, hb0]; have := heap_alloc_new (w.alloc (.cells (peerCells p A1 c1 A2 c2).toArray 48)) (.cells (peerCells q A3 c3 A4 c4).toArray 48); simpa using this
 have k0 : W0.cell? ⟨b0, 0, none⟩ = some (.int .i64 p.node) := by rw [cell_of_heap q1]; rfl
 have m0 : W0.cell? ⟨b0 + 1, 0, none⟩ = some (.int .i64 q.node) := by rw [cell_of_heap q2]; rfl
 have k33 : W0.cell? ⟨b0, 33, none⟩ = some (.int .i64 p.exp) := by rw [cell_of_heap q1]; exact peer33 p A1 c1 A2 c2
 have m33 : W0.cell? ⟨b0 + 1, 33, none⟩ = some (.int .i64 q.exp) := by rw [cell_of_heap q2]; exact peer33 q A3 c3 A4 c4
 have k34 : W0.cell? ⟨b0, 34, none⟩ = some (.slice A1 p.inn.length c1) := by rw [cell_of_heap q1]; exact peer34 p A1 c1 A2 c2
 have m34 : W0.cell? ⟨b0 + 1, 34, none⟩ = some (.slice A3 q.inn.length c3) := by rw [cell_of_heap q2]; exact peer34 q A3 c3 A4 c4
 have l1 := Aside0.mk (run_loadAtK Tryz.prog W0 28 32 Tryz.isAgg28 Tryz.sizeOf28 b0 1 (encK p.key) (encK_len _) (fun j v hj => by rw [cell_of_heap q1]; exact peerK p A1 c1 A2 c2 j v hj))
 have l2 := Aside0.mk (run_loadAtK Tryz.prog W0 28 32 Tryz.isAgg28 Tryz.sizeOf28 (b0 + 1) 1 (encK q.key) (encK_len _) (fun j v hj => by rw [cell_of_heap q2]; exact peerK q A3 c3 A4 c4 j v hj))
 have HI := Aside0.mk (sameSpans24 p.inn q.inn A1 A3 c1 c3 W0 (hp.inn.below hbw) (hq.inn.below hbw))
 have HO := Aside0.mk (fun (W : World) (hb : Below W0.heap.size W0 W) => And.intro (sameSpans24 p.out q.out A2 A4 c2 c4 W ((hp.out.below hbw).below hb) ((hq.out.below hbw).below hb)) (And.intro (show W.cell? ⟨b0, 35, none⟩ = some (.slice A2 p.out.length c2) by rw [cell_of_heap (roomN q1 hb)]; exact peer35 p A1 c1 A2 c2) (show W.cell? ⟨b0 + 1, 35, none⟩ = some (.slice A4 q.out.length c4) by rw [cell_of_heap (roomN q2 hb)]; exact peer35 q A3 c3 A4 c4)))
 have HB := Aside0.mk hbw
 obtain ⟨X, hX⟩ : ∃ X, X = (peerCells p A1 c1 A2 c2).toArray := ⟨_, rfl⟩
 obtain ⟨Y, hY⟩ : ∃ Y, Y = (peerCells q A3 c3 A4 c4).toArray := ⟨_, rfl⟩
 rw [← hX, ← hY] at hW0 ⊢
 have he := eqlK p.key q.key
 have hgd := fun op a b w => guardK op a b p.key q.key w
 have he3 := eqlK q.key q.key
 have hgd3 := fun op a b w => guardK op a b q.key q.key w
 clear q1 q2 hbw hp hq hX hY
 go_enter Tryz.func71, Tryz.ntmps71
 go_upto_region 1 with fail
 rw [← hW0, ← hb0]
 clear hW0 hb0
 by_cases h1 : p.node = q.node
 case neg =>
  have d1 : decide (p.node = q.node) = false := decide_eq_false h1
  go_wp2_with fail
  go_ret
  exact ⟨by rw [decide_eq_false (fun e => h1 (by rw [e]))]; rfl, HB.out⟩
 have d1 : decide (p.node = q.node) = true := decide_eq_true h1
 by_cases h2 : p.key = q.key
 case neg =>
  have d2 : decide (p.key = q.key) = false := decide_eq_false h2
  go_wp2_with (first | ((with_reducible refine at_load 28 (.tmp 11) ?_); refine wpList_loadW (by rfl) 28 (.tmp 11) rfl _ rfl _ l1.out ?_) | ((with_reducible refine at_load 28 (.tmp 13) ?_); refine wpList_loadW (by rfl) 28 (.tmp 13) rfl _ rfl _ l2.out ?_))
  go_ret
  exact ⟨by rw [decide_eq_false (fun e => h2 (by rw [e]))]; rfl, HB.out⟩
 have d2 : decide (p.key = q.key) = true := decide_eq_true h2
 by_cases h3 : p.exp = q.exp
 case neg =>
  have d3 : decide (p.exp = q.exp) = false := decide_eq_false h3
  go_wp2_with (first | ((with_reducible refine at_load 28 (.tmp 11) ?_); refine wpList_loadW (by rfl) 28 (.tmp 11) rfl _ rfl _ l1.out ?_) | ((with_reducible refine at_load 28 (.tmp 13) ?_); refine wpList_loadW (by rfl) 28 (.tmp 13) rfl _ rfl _ l2.out ?_))
  go_ret
  exact ⟨by rw [decide_eq_false (fun e => h3 (by rw [e]))]; rfl, HB.out⟩
 have d3 : decide (p.exp = q.exp) = true := decide_eq_true h3
 go_wp2_with (first | ((with_reducible refine at_load 28 (.tmp 11) ?_); refine wpList_loadW (by rfl) 28 (.tmp 11) rfl _ rfl _ l1.out ?_) | ((with_reducible refine at_load 28 (.tmp 13) ?_); refine wpList_loadW (by rfl) 28 (.tmp 13) rfl _ rfl _ l2.out ?_))
 refine HI.out.mono ?_
 rintro e w1 ⟨rfl, hb1⟩
 obtain ⟨ho, k35, m35⟩ := HO.out w1 hb1
 have HOO := Aside0.mk ho
 have HB1 := Aside0.mk (below_step HB.out hb1)
 clear ho hb1
 by_cases h4 : p.inn = q.inn
 case neg =>
  have d4 : decide (p.inn = q.inn) = false := decide_eq_false h4
  go_wp2_with fail
  go_ret
  exact ⟨by rw [decide_eq_false (fun e => h4 (by rw [e]))]; rfl, HB1.out⟩
 have d4 : decide (p.inn = q.inn) = true := decide_eq_true h4
 go_wp2_with fail
 refine HOO.out.mono ?_
 rintro e w2 ⟨rfl, hb2⟩
 have HB2 := Aside0.mk (below_step HB1.out hb2)
 clear hb2
 go_wp2_with fail
 go_ret
 have hd : decide (p = q) = decide (p.out = q.out) := by
  by_cases h5 : p.out = q.out
  ·rw [decide_eq_true h5, decide_eq_true ((peer_eq p q).2 ⟨h1, h2, h3, h4, h5⟩)]
  ·rw [decide_eq_false h5, decide_eq_false (fun e => h5 (by rw [e]))]
 exact ⟨by rw [hd]; rfl, HB2.out⟩
end Go.Proofs.YtmgbaefgcdglpaaGreatDoor.Net
end
section
namespace Go.Proofs.YtmgbaefgcdglpaaGreatDoor.Net
open Go Go.RowKit Go.Proofs Go.Proofs.YtmgbaefgcdglpaaGreatDoorW.PrintWords Go.Proofs.YtmgbaefgcdglpaaGreatDoorW.PrintLast Go.Proofs.YtmgbaefgcdglpaaGreatDoorW.PrintMore Go.Proofs.YtmgbaefgcdglpaaGreatDoor.Dir
set_option linter.unusedVariables false
set_option linter.unusedSimpArgs false
theorem equalSpan122 (a b : Sp) (w : World) : Calls Tryz.prog 122 #[.agg #[.int .i64 a.f0, .int .i64 a.f1], .agg #[.int .i64 b.f0, .int .i64 b.f1]] w fun e w' => e = .returned (.bool (decide (a = b))) ∧ Below w.heap.size w w' := by
 have h : PA.netmap_equalSpan.f a.f0 a.f1 b.f0 b.f1 = some (decide (a = b)) := by
  unfold PA.netmap_equalSpan.f
  have e := sp_eq a b
  by_cases h0 : a.f0 = b.f0
  ·by_cases h1 : a.f1 = b.f1
   ·rw [decide_eq_true (e.2 ⟨h0, h1⟩)]; simp [h0, h1]
   ·rw [decide_eq_false (fun q => h1 (e.1 q).2)]; simp [h1]
  ·rw [decide_eq_false (fun q => h0 (e.1 q).1)]; simp [h0]
 exact (PA.netmap_equalSpan.calls a.f0 a.f1 b.f0 b.f1 (decide (a = b)) w h).mono fun e w' h => ⟨h.1, by first | exact h.2 | (rw [h.2]; exact Below.refl _ _) | exact h.2.below⟩
theorem drop_sp {l : List Sp} {i : Nat} {x : Sp} (h : l[i]? = some x) : l.drop i = x :: l.drop (i + 1) := by
 obtain ⟨hl, e⟩ := List.getElem?_eq_some_iff.1 h
 rw [List.drop_eq_getElem_cons hl, e]
theorem SpAt.get {w : World} {A : Option Addr} {c : Nat} {l : List Sp} (h : SpAt w A c l) {j : Nat} {x : Sp} (hj : l[j]? = some x) : ∃ g o, A = some ⟨g, o, none⟩ ∧ ∀ W, Below w.heap.size w W → W.cell? ⟨g, o + j * 2, none⟩ = some (.int .i64 x.f0) ∧ W.cell? ⟨g, o + j * 2 + 1, none⟩ = some (.int .i64 x.f1) := by
 have hlt := (List.getElem?_eq_some_iff.1 hj).1
 obtain ⟨ad, hA, hc⟩ := h.2.2.2 (by omega)
 obtain ⟨cs, hl, hK, hcell⟩ := hc j x hj
 have hK := PA.k80_open hK
 subst hK
 obtain ⟨g, o, sp⟩ := ad
 cases sp with
 | some s =>
  obtain ⟨cs0, hl0, hK0, hcell0⟩ := hc 0 _ (List.getElem?_eq_getElem (show 0 < l.length by omega))
  have hK0 := PA.k80_open hK0
  subst hK0
  have h0 := hcell0 0 _ rfl
  rw [Nat.zero_mul] at h0
  have hn : w.cell? ((⟨g, o, some s⟩ : Addr).add (0 + 0)) = none := by unfold World.cell?; split <;> rfl
  rw [hn] at h0
  cases h0
 | none =>
  refine ⟨g, o, hA, fun W hb => ⟨?_, ?_⟩⟩
  ·have h1 := hcell 0 _ rfl
   have h2 := (hb.cell (World.block_lt_of_cell? w _ h1)).trans h1
   have e : (⟨g, o, none⟩ : Addr).add (j * kSp.sz + 0) = ⟨g, o + j * 2, none⟩ := Dir.add_at g o (j * 2)
   rw [e] at h2
   exact h2
  ·have h1 := hcell 1 _ rfl
   have h2 := (hb.cell (World.block_lt_of_cell? w _ h1)).trans h1
   have e : (⟨g, o, none⟩ : Addr).add (j * kSp.sz + 1) = ⟨g, o + j * 2 + 1, none⟩ := Dir.add_at g o (j * 2 + 1)
   rw [e] at h2
   exact h2
set_option maxHeartbeats 4000000 in
set_option maxRecDepth 100000 in
theorem equalFunc168 (l m : List Sp) (A0 A1 : Option Addr) (c0 c1 : Nat) (w : World) (h0 : SpAt w A0 c0 l) (h1 : SpAt w A1 c1 m) :
  Calls Tryz.prog 168 #[.slice A0 l.length c0, .slice A1 m.length c1, .func (.func 122) #[] #[]] w fun e w' => e = .returned (.bool (decide (l = m))) ∧ Below w.heap.size w w' := by
 have H0 := Aside0.mk h0
 have H1 := Aside0.mk h1
 have hlen := h0.len
 have hu80 := Tryz.underlying80
 by_cases hn : l.length = m.length
 case neg =>
  have hz : ¬ (l.length : Int) = (m.length : Int) := by omega
  have hd : decide ((l.length : Int) = (m.length : Int)) = false := decide_eq_false hz
  clear h0 h1
  go_enter Tryz.func168, Tryz.ntmps168
  go_wp2_with fail
  go_ret
  exact ⟨by rw [decide_eq_false (fun e => hn (by rw [e]))]; rfl, Below.refl _ _⟩
 have HN := Aside0.mk hn
 have hz : (l.length : Int) = (m.length : Int) := by omega
 have hd : decide ((l.length : Int) = (m.length : Int)) = true := decide_eq_true hz
 clear h0 h1 hn
 go_enter Tryz.func168, Tryz.ntmps168
 go_upto_region 4 with fail
 clear hz hd
 go_loopg [17] l.length (fun kx s17 wr => ∃ kk : Nat, s17 = .int .i64 kk ∧ kk + kx = l.length ∧ Aside0 (Below w.heap.size w wr) ∧ Aside0 (decide (l = m) = decide (l.drop kk = m.drop kk)))
 case atStart => exact ⟨0, rfl, by omega, ⟨Below.refl _ _⟩, ⟨rfl⟩⟩
 case round =>
  obtain ⟨kk, rfl, hkk, BW, AL⟩ := hrel
  by_cases hlt : kk < l.length
  ·have hltz : (kk : Int) < (l.length : Int) := by omega
   have hltm : (kk : Int) < (m.length : Int) := by have := HN.out; omega
   obtain ⟨x, hx⟩ : ∃ x, l[kk]? = some x := ⟨_, List.getElem?_eq_getElem hlt⟩
   obtain ⟨y, hy⟩ : ∃ y, m[kk]? = some y := ⟨_, List.getElem?_eq_getElem (by have := HN.out; omega)⟩
   obtain ⟨g, o, hA0, hc0⟩ := H0.out.get hx
   obtain ⟨g', o', hA1, hc1⟩ := H1.out.get hy
   subst hA0 hA1
   have HC1 := Aside0.mk hc1
   obtain ⟨i0, i1⟩ := hc0 wr BW.out
   obtain ⟨nb, hnb⟩ : ∃ nb, nb = wr.heap.size := ⟨_, rfl⟩
   obtain ⟨W6, hW6⟩ : ∃ W6, W6 = wr.alloc (.cells #[.int .i64 x.f0, .int .i64 x.f1] 80) := ⟨_, rfl⟩
   obtain ⟨nc, hnc⟩ : ∃ nc, nc = W6.heap.size := ⟨_, rfl⟩
   obtain ⟨W7, hW7⟩ : ∃ W7, W7 = W6.alloc (.cells #[.int .i64 y.f0, .int .i64 y.f1] 80) := ⟨_, rfl⟩
   have B6 := Aside0.mk (show Below w.heap.size w W6 by rw [hW6]; exact BW.out.alloc BW.out.size _)
   have hb67 : Below W6.heap.size W6 W7 := by rw [hW7]; exact (Below.refl _ _).alloc (Nat.le_refl _) _
   have B7 := Aside0.mk (below_step B6.out hb67)
   have x6 : W6.heap[nb]? = some (.cells #[.int .i64 x.f0, .int .i64 x.f1] 80 (0, 0)) := by rw [hW6, hnb]; exact heap_alloc_new wr _
   have y7 : W7.heap[nc]? = some (.cells #[.int .i64 y.f0, .int .i64 y.f1] 80 (0, 0)) := by rw [hW7, hnc]; exact heap_alloc_new W6 _
   have x7 := roomN x6 hb67
   have a0 : W7.cell? ⟨nb, 0, none⟩ = some (.int .i64 x.f0) := by rw [cell_of_heap (cur := [.int .i64 x.f0, .int .i64 x.f1]) x7]; rfl
   have a1 : W7.cell? ⟨nb, 1, none⟩ = some (.int .i64 x.f1) := by rw [cell_of_heap (cur := [.int .i64 x.f0, .int .i64 x.f1]) x7]; rfl
   have e0 : W7.cell? ⟨nc, 0, none⟩ = some (.int .i64 y.f0) := by rw [cell_of_heap (cur := [.int .i64 y.f0, .int .i64 y.f1]) y7]; rfl
   have e1 : W7.cell? ⟨nc, 1, none⟩ = some (.int .i64 y.f1) := by rw [cell_of_heap (cur := [.int .i64 y.f0, .int .i64 y.f1]) y7]; rfl
   obtain ⟨j0, j1⟩ := hc1 W6 B6.out
   have HXY := Aside0.mk (And.intro (drop_sp hx) (drop_sp hy))
   have hcall := Aside0.mk (equalSpan122 x y W7)
   obtain ⟨ko, rfl⟩ : ∃ ko, gk = ko + 1 := ⟨gk - 1, by omega⟩
   have HKK := Aside0.mk (And.intro hkk hlt)
   clear hc0 hc1 hx hy x6 y7 x7 hb67 hkk hlt
   go_upto_region 6 with fail
   rw [← hW6, ← hnb]
   clear hW6 hnb i0 i1
   go_upto_region 7 with fail
   rw [← hW7, ← hnc]
   clear hW7 hnc j0 j1
   by_cases hxy : x = y
   ·have hde : decide (x = y) = true := decide_eq_true hxy
    rw [hde] at hcall
    have HE := Aside0.mk hxy
    clear hxy hde
    go_wp2_with (go_at_call 122; refine hcall.out.mono ?_; rintro e w' ⟨rfl, hb'⟩)
    have B8 := Aside0.mk (below_step B7.out hb')
    clear hb'
    go_wp2_with fail
    go_roundg ko
    case measure => have := HKK.out; omega
    case rel => exact ⟨kk + 1, by go_num, by have := HKK.out; omega, B8, ⟨by rw [AL.out, HXY.out.1, HXY.out.2, HE.out]; simp⟩⟩
   ·have hde : decide (x = y) = false := decide_eq_false hxy
    rw [hde] at hcall
    have HE := Aside0.mk hxy
    clear hxy hde
    go_wp2_with (go_at_call 122; refine hcall.out.mono ?_; rintro e w' ⟨rfl, hb'⟩)
    have B8 := Aside0.mk (below_step B7.out hb')
    clear hb'
    go_wp2_with fail
    go_ret
    exact ⟨by rw [AL.out, HXY.out.1, HXY.out.2, decide_eq_false (fun e => HE.out (List.cons.inj e).1)]; rfl, B8.out⟩
  ·have hltz : ¬ (kk : Int) < (l.length : Int) := by omega
   have hltm : ¬ (kk : Int) < (m.length : Int) := by have := HN.out; omega
   have HK := Aside0.mk (show l.length ≤ kk by omega)
   go_wp2_with fail
   go_ret
   exact ⟨by rw [AL.out, List.drop_of_length_le HK.out, List.drop_of_length_le (by have := HN.out; have := HK.out; omega)]; rfl, BW.out⟩
end Go.Proofs.YtmgbaefgcdglpaaGreatDoor.Net
end
