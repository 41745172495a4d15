/- acl.Spans, printed. -/
import Derived.Test.YtmgbaefgcdglpaaGreatDoorNc21
import Derived.Test.YtmgbaefgcdglpaaGreatDoorNc22
section
namespace Go.Proofs.YtmgbaefgcdglpaaGreatDoor.PA
open Go.RowKit Go.Proofs.YtmgbaefgcdglpaaGreatDoorW.PrintWords Go.Proofs.YtmgbaefgcdglpaaGreatDoorW.PrintLast Go.Proofs.YtmgbaefgcdglpaaGreatDoorW.PrintMore
attribute [local go_sem] max2_int min2_int max_two min_two max_three min_three max_four min_four   -- for this text's walks alone
set_option linter.unusedVariables false
set_option linter.unusedSimpArgs false
mutual
def acl_Spans.l0 : Nat → List (S96) → Int → Int → List Int → List (S96) → Int → Int → Option ((List (S80)))
 | 0, _, _, _, _, _, _, _ => none
 | k + 1, x0, x1, x2, x7, x16, x17, x18 => if x18 < x17 then (if 0 ≤ x18 then (if x18 < (x16.length : Int) then (if ((rd_T96 x16 x18).f3) > 0 then (acl_Spans.j1 k x0 x1 x2 x7 x16 x17 x18 (decide (((rd_T96 x16 x18).f3) ≤ 65535)) ((rd_T96 x16 x18).f0) ((rd_T96 x16 x18).f1) ((rd_T96 x16 x18).f2) ((rd_T96 x16 x18).f3) ((rd_T96 x16 x18).f4)) else (acl_Spans.j1 k x0 x1 x2 x7 x16 x17 x18 false ((rd_T96 x16 x18).f0) ((rd_T96 x16 x18).f1) ((rd_T96 x16 x18).f2) ((rd_T96 x16 x18).f3) ((rd_T96 x16 x18).f4))) else (none)) else (none)) else ((slices_Sort_int_int.f x7).bind fun t119 => ((slices_Compact_int_int.f t119).bind fun t120 => (if t120.length < 17592186044416 then ((some (t120 ++ [65536] : List Int)).bind fun y123 => (if 0 ≤ (wrap64 ((y123.length : Int) - 1)) then (if (wrap64 ((y123.length : Int) - 1)) ≤ (y123.length : Int) then ((some (y123.take ((wrap64 ((y123.length : Int) - 1)) : Int).toNat : List Int)).bind fun y126 => (acl_Spans.l1 k x0 x1 x2 y123 ([] : List (S80)) y126 (y126.length : Int) 0)) else (none)) else (none))) else (none))))
def acl_Spans.j1 : Nat → List (S96) → Int → Int → List Int → List (S96) → Int → Int → Bool → Bool → Int → Int → Int → Int → Option ((List (S80)))
 | 0, _, _, _, _, _, _, _, _, _, _, _, _, _ => none
 | k + 1, x0, x1, x2, x7, x16, x17, x18, x29, x110000, x110001, x110002, x110003, x110004 => if x29 = true then (if x7.length < 17592186044416 then ((some (x7 ++ [x110003] : List Int)).bind fun y110 => (if x110004 ≥ 0 then (if x110004 < 65535 then (if y110.length < 17592186044416 then (acl_Spans.l0 k x0 x1 x2 (y110 ++ [wrap64 (x110004 + 1)]) x16 x17 (wrap64 (x18 + 1))) else (none)) else (acl_Spans.l0 k x0 x1 x2 y110 x16 x17 (wrap64 (x18 + 1)))) else (acl_Spans.l0 k x0 x1 x2 y110 x16 x17 (wrap64 (x18 + 1))))) else (none)) else (if x110004 ≥ 0 then (if x110004 < 65535 then (if x7.length < 17592186044416 then (acl_Spans.l0 k x0 x1 x2 (x7 ++ [wrap64 (x110004 + 1)]) x16 x17 (wrap64 (x18 + 1))) else (none)) else (acl_Spans.l0 k x0 x1 x2 x7 x16 x17 (wrap64 (x18 + 1)))) else (acl_Spans.l0 k x0 x1 x2 x7 x16 x17 (wrap64 (x18 + 1))))
def acl_Spans.l1 : Nat → List (S96) → Int → Int → List Int → List (S80) → List Int → Int → Int → Option ((List (S80)))
 | 0, _, _, _, _, _, _, _, _ => none
 | k + 1, x0, x1, x2, x7, x10, x60, x61, x62 => if x62 < x61 then (if 0 ≤ x62 then (if x62 < (x60.length : Int) then ((acl_Allows.f k x0 x1 x2 (rd x60 x62)).bind fun t132 => (if t132 = true then (if 0 ≤ (wrap64 (x62 + 1)) then (if (wrap64 (x62 + 1)) < (x7.length : Int) then (if (x10.length : Int) > 0 then (if 0 ≤ (wrap64 ((x10.length : Int) - 1)) then (if (wrap64 ((x10.length : Int) - 1)) < (x10.length : Int) then (if ((rd_T80 x10 (wrap64 ((x10.length : Int) - 1))).f1) = (wrap64 ((rd x60 x62) - 1)) then (acl_Spans.l1 k x0 x1 x2 x7 (x10.set ((wrap64 ((x10.length : Int) - 1)) : Int).toNat (⟨(rd_T80 x10 (wrap64 ((x10.length : Int) - 1))).f0, wrap64 ((rd x7 (wrap64 (x62 + 1))) - 1)⟩ : S80)) x60 x61 (wrap64 (x62 + 1))) else (if x10.length < 8796093022208 then (acl_Spans.l1 k x0 x1 x2 x7 (x10 ++ [(⟨rd x60 x62, wrap64 ((rd x7 (wrap64 (x62 + 1))) - 1)⟩ : S80)]) x60 x61 (wrap64 (x62 + 1))) else (none))) else (none)) else (none)) else (if x10.length < 8796093022208 then (acl_Spans.l1 k x0 x1 x2 x7 (x10 ++ [(⟨rd x60 x62, wrap64 ((rd x7 (wrap64 (x62 + 1))) - 1)⟩ : S80)]) x60 x61 (wrap64 (x62 + 1))) else (none))) else (none)) else (none)) else (acl_Spans.l1 k x0 x1 x2 x7 x10 x60 x61 (wrap64 (x62 + 1))))) else (none)) else (none)) else (some x10)
end
def acl_Spans.f (k : Nat) (l0 : List (S96)) (a1 : Int) (a2 : Int) : Option ((List (S80))) := acl_Spans.l0 k l0 a1 a2 (([0] : List Int)) l0 (l0.length : Int) 0
set_option maxHeartbeats 8000000 in
set_option maxRecDepth 100000 in
theorem acl_Spans.calls (k : Nat) (A0 : Option Addr) (c0 : Nat) (l0 : List (S96)) (a1 : Int) (a2 : Int) (r : List (S80)) (w : World) (hr0 : Kd.C k96 w A0 l0.length l0) (hc0 : l0.length ≤ c0) (h : acl_Spans.f k l0 a1 a2 = some r) :
  Calls Tryz.prog 23 #[.slice A0 l0.length c0, .int .i64 a1, .int .i64 a2] w fun e w' => ∃ v0_ : Value, e = .returned (v0_) ∧ Kd.R k80 80 w' w.heap.size (fun _ => True) v0_ r ∧ Below w.heap.size w w' := by
 have hu96 := Tryz.underlying96
 have hu80 := Tryz.underlying80
 have HR0 := Aside0.mk hr0
 have HC0 := Aside0.mk hc0
 clear hr0 hc0
 have HB := Aside0.mk (Below.refl w.heap.size w)
 have H : (acl_Spans.l0 k l0 a1 a2 (([0] : List Int)) l0 (l0.length : Int) 0) = some r := h
 clear h
 obtain ⟨y105, hy105⟩ : ∃ y_ : List Int, y_ = (([0] : List Int)) := ⟨_, rfl⟩
 replace H : (acl_Spans.l0 k l0 a1 a2 y105 l0 (l0.length : Int) 0) = some r := by first | (rw [hy105]; with_reducible exact H) | (have H2_ := (Option.bind_some _ _).symm.trans H; rw [hy105]; with_reducible exact H2_) | (have H2_ := (Option.bind_some _ _).symm.trans H; with_reducible exact H2_) | with_reducible exact H | (rw [hy105]; exact H) | exact H
 have Ny105 := Aside0.mk hy105
 clear hy105
 have H' := Aside0.mk H
 clear H
 go_enter Tryz.func23, Tryz.ntmps23
 go_wp2_with (first | ((with_reducible refine gate_dst (N := 15) rfl ?_); refine Kd.R_lit (Kd.int .i64) _ 3 ?hg (N := 15) ?hd (xs := ([0] : List Int)) (inner := [.int .i64 0]) (ok := fun _ => True) (okp := fun _ => True) ?hr ?hp (fun _ hk => hk) trivial (Below.refl _ _) (Nat.le_refl _) (by simp) ?_; (case hd => rfl); (case hg => rfl); (case hr => first | (go_simp; done) | (go_simp; rfl)); (case hp => exact (Reps.one (show Kd.M (Kd.int .i64) _ _ _ 0 [.int .i64 0] from rfl) (Reps.none _ _))); intro v106 w4 ho5 hb hg_ hnew_; clear hg_ hnew_; (first | rw [← Ny105.out] at ho5 | (simp only [Int.reduceToNat] at ho5; rw [← Ny105.out] at ho5)); have n0_ := Aside0.mk (Kd.R_lower ho5 (below_size (by repeat (first | (with_reducible first | exact HB.out | apply below_alloc | apply pw_below_drewN | apply below_drew1) | exact HB.out)))); have n1_ := Aside0.mk (below_step (by repeat (first | (with_reducible first | exact HB.out | apply below_alloc | apply pw_below_drewN | apply below_drew1) | exact HB.out)) hb); clear HB; have HO107 := n0_; have HB := n1_; clear n0_ n1_; clear hb ho5))
 go_loopg [7, 18] k (fun kq v7 v18 w' => ∃ (x7_1 : List Int) (x18_1 : Int), v18 = .int .i64 x18_1 ∧ Aside0 (acl_Spans.l0 kq l0 a1 a2 x7_1 l0 (l0.length : Int) x18_1 = some r) ∧ Aside0 (kq ≤ k) ∧ Aside0 (Kd.R (Kd.int .i64) 3 w' w.heap.size (fun _ => True) v7 x7_1) ∧ Aside0 (Below w.heap.size w w'))
 case atStart => exact ⟨(y105), (0), (by first | rfl | (simp; done) | (simp [*]; done)), H', ⟨Nat.le_refl _⟩, ⟨by (with_reducible repeat (first | apply Kd.R_alloc | apply Kd.R_drewN | apply Kd.R_drew)); exact HO107.out⟩, ⟨by repeat (first | (with_reducible first | exact HB.out | apply below_alloc | apply pw_below_drewN | apply below_drew1) | exact HB.out)⟩⟩
 case round =>
  clear H'
  try clear c2
  try clear p2
  obtain ⟨x7_1, x18_1, rfl, HA, HK1, HO_7, HB⟩ := hrel
  cases gk with
  | zero => exact absurd HA.out (by simp [acl_Spans.l0])
  | succ k1 =>
   have H := HA.out
   clear HA
   simp only [acl_Spans.l0] at H
   by_cases c6 : x18_1 < (l0.length : Int)
   ·rw [if_pos c6] at H
    have c6b0 : decide (x18_1 < (l0.length : Int)) = true := decide_eq_true c6
    clear c6
    by_cases c7 : 0 ≤ x18_1
    ·rw [if_pos c7] at H
     have c7b0 : decide (0 ≤ x18_1) = true := decide_eq_true c7
     clear c7
     by_cases c8 : x18_1 < (l0.length : Int)
     ·rw [if_pos c8] at H
      have c8b0 : decide (x18_1 < (l0.length : Int)) = true := decide_eq_true c8
      clear c8
      have HC9 := Aside0.mk H
      clear H
      have p108 : 0 ≤ (x18_1 : Int) := of_decide_eq_true (by first | (with_reducible assumption) | assumption)
      have q108 : x18_1 < (l0.length : Int) := of_decide_eq_true (by first | (with_reducible assumption) | assumption)
      obtain ⟨ad108, e108, hx108_0, hx108_1, hx108_2, hx108_3, hx108_4⟩ := at_T96 HR0.out x18_1 p108 q108
      cases e108
      replace hx108_0 := (HB.out.cell (World.block_lt_of_cell? w _ hx108_0)).trans hx108_0
      replace hx108_1 := (HB.out.cell (World.block_lt_of_cell? w _ hx108_1)).trans hx108_1
      replace hx108_2 := (HB.out.cell (World.block_lt_of_cell? w _ hx108_2)).trans hx108_2
      replace hx108_3 := (HB.out.cell (World.block_lt_of_cell? w _ hx108_3)).trans hx108_3
      replace hx108_4 := (HB.out.cell (World.block_lt_of_cell? w _ hx108_4)).trans hx108_4
      replace p108 := eq_true p108
      replace q108 := eq_true q108
      go_upto_region 5 with (first | ((with_reducible refine gate_dst (N := 9) rfl ?_); refine box_event ?hg (N := 9) ?hd (cs := #[.bool false, .int .i64 0, .int .i64 0, .int .i64 0, .int .i64 0]) (t := 96) ?hr ?_; (case hd => rfl); (case hg => rfl); (case hr => first | (go_simp; done) | (go_simp; rfl)); intro gb109 hg w10 hbox hb; have n0_ := Aside0.mk (Kd.R_below (by (with_reducible repeat (first | apply Kd.R_alloc | apply Kd.R_drewN | apply Kd.R_drew)); exact HO_7.out) hb); have n1_ := Aside0.mk (below_step (by repeat (first | (with_reducible first | exact HB.out | apply below_alloc | apply pw_below_drewN | apply below_drew1) | exact HB.out)) hb); have n2_ := Aside0.mk (hbox); have n3_ := Aside0.mk ((by rw [hg]; exact (below_size (by repeat (first | (with_reducible first | exact HB.out | apply below_alloc | apply pw_below_drewN | apply below_drew1) | exact HB.out))) : w.heap.size ≤ gb109)); have n4_ := Aside0.mk ((by rw [hg]; exact (below_size (by repeat (first | (with_reducible first | exact HB.out | apply below_alloc | apply pw_below_drewN | apply below_drew1) | exact HB.out))) : w.heap.size ≤ gb109)); clear HO_7; clear HB; have HO_7 := n0_; have HB := n1_; have BK109 := n2_; have GW109 := n3_; have GE109 := n4_; clear n0_ n1_ n2_ n3_ n4_; clear hb hbox hg; have hcz11_0 : w10.cell? ⟨gb109, 0, none⟩ = some (.bool false) := (blk_cell BK109.out 0).trans rfl; have hcz11_1 : w10.cell? ⟨gb109, 1, none⟩ = some (.int .i64 0) := (blk_cell BK109.out 1).trans rfl; have hcz11_2 : w10.cell? ⟨gb109, 2, none⟩ = some (.int .i64 0) := (blk_cell BK109.out 2).trans rfl; have hcz11_3 : w10.cell? ⟨gb109, 3, none⟩ = some (.int .i64 0) := (blk_cell BK109.out 3).trans rfl; have hcz11_4 : w10.cell? ⟨gb109, 4, none⟩ = some (.int .i64 0) := (blk_cell BK109.out 4).trans rfl; have hfz11_0 := blk_frozen BK109.out 0; have hfz11_1 := blk_frozen BK109.out 1; have hfz11_2 := blk_frozen BK109.out 2; have hfz11_3 := blk_frozen BK109.out 3; have hfz11_4 := blk_frozen BK109.out 4))
      (try simp only [Act.put, List.setIfInBounds_toArray, List.set_cons_zero, List.set_cons_succ])
      go_cut [29] (fun v29 wc => ∃ (kq : Nat) (x29_8 : Bool), v29 = .bool x29_8 ∧ Aside0 (acl_Spans.j1 kq l0 a1 a2 x7_1 l0 (l0.length : Int) x18_1 x29_8 ((rd_T96 l0 x18_1).f0) ((rd_T96 l0 x18_1).f1) ((rd_T96 l0 x18_1).f2) ((rd_T96 l0 x18_1).f3) ((rd_T96 l0 x18_1).f4) = some r) ∧ Aside0 (kq ≤ k1) ∧ Aside0 (Kd.R (Kd.int .i64) 3 wc w.heap.size (fun _ => True) u7 x7_1) ∧ Aside0 (wc.heap[gb109]? = some (.cells #[.bool ((rd_T96 l0 x18_1).f0), .int .i64 ((rd_T96 l0 x18_1).f1), .int .i64 ((rd_T96 l0 x18_1).f2), .int .i64 ((rd_T96 l0 x18_1).f3), .int .i64 ((rd_T96 l0 x18_1).f4)] 96 (0, 0))) ∧ Aside0 (Below w.heap.size w wc))
      case first =>
       have H := HC9.out
       clear HC9
       by_cases c12 : ((rd_T96 l0 x18_1).f3) > 0
       ·rw [if_pos c12] at H
        have c12b0 : decide (0 < ((rd_T96 l0 x18_1).f3)) = true := decide_eq_true c12
        clear c12
        (first | rw [c12b0] | (simp only [i64_w, i32_w]; rw [c12b0]) | skip)
        have H' := Aside0.mk H
        clear H
        have hcz13_0 : w10.cell? ⟨gb109, 0, none⟩ = some (.bool false) := (blk_cell BK109.out 0).trans rfl
        have hcz13_1 : w10.cell? ⟨gb109, 1, none⟩ = some (.int .i64 0) := (blk_cell BK109.out 1).trans rfl
        have hcz13_2 : w10.cell? ⟨gb109, 2, none⟩ = some (.int .i64 0) := (blk_cell BK109.out 2).trans rfl
        have hcz13_3 : w10.cell? ⟨gb109, 3, none⟩ = some (.int .i64 0) := (blk_cell BK109.out 3).trans rfl
        have hcz13_4 : w10.cell? ⟨gb109, 4, none⟩ = some (.int .i64 0) := (blk_cell BK109.out 4).trans rfl
        have hfz13_0 := blk_frozen BK109.out 0
        have hfz13_1 := blk_frozen BK109.out 1
        have hfz13_2 := blk_frozen BK109.out 2
        have hfz13_3 := blk_frozen BK109.out 3
        have hfz13_4 := blk_frozen BK109.out 4
        go_wp2
        go_meet
        case rel => exact ⟨_, (decide (((rd_T96 l0 x18_1).f3) ≤ 65535)), (by first | rfl | (simp; done) | (simp [*]; done)), H', ⟨by have := HK1.out; first | omega | exact Nat.le_refl _⟩, ⟨by (with_reducible repeat (first | apply Kd.R_alloc | apply Kd.R_drewN | apply Kd.R_drew)); exact Kd.R_mono (Kd.R_far (p := ⟨gb109, 4, none⟩) (Kd.R_far (p := ⟨gb109, 3, none⟩) (Kd.R_far (p := ⟨gb109, 2, none⟩) (Kd.R_far (p := ⟨gb109, 1, none⟩) (Kd.R_far (p := ⟨gb109, 0, none⟩) (Kd.R_types HO_7.out BK109.out (by decide)) (fun _ hk => hk.2) (.bool ((rd_T96 l0 x18_1).f0))) (fun _ hk => hk.2) (.int .i64 ((rd_T96 l0 x18_1).f1))) (fun _ hk => hk.2) (.int .i64 ((rd_T96 l0 x18_1).f2))) (fun _ hk => hk.2) (.int .i64 ((rd_T96 l0 x18_1).f3))) (fun _ hk => hk.2) (.int .i64 ((rd_T96 l0 x18_1).f4))) (fun _ hk => trivial)⟩, ⟨by (with_reducible repeat (first | refine blk_drewN ?_ _ | refine blk_drew ?_ | refine blk_alloc ?_ _)); refine blk_put (cs := #[.bool ((rd_T96 l0 x18_1).f0), .int .i64 ((rd_T96 l0 x18_1).f1), .int .i64 ((rd_T96 l0 x18_1).f2), .int .i64 ((rd_T96 l0 x18_1).f3), .int .i64 0]) ?_ 4 _ rfl; (with_reducible repeat (first | refine blk_drewN ?_ _ | refine blk_drew ?_ | refine blk_alloc ?_ _)); refine blk_put (cs := #[.bool ((rd_T96 l0 x18_1).f0), .int .i64 ((rd_T96 l0 x18_1).f1), .int .i64 ((rd_T96 l0 x18_1).f2), .int .i64 0, .int .i64 0]) ?_ 3 _ rfl; (with_reducible repeat (first | refine blk_drewN ?_ _ | refine blk_drew ?_ | refine blk_alloc ?_ _)); refine blk_put (cs := #[.bool ((rd_T96 l0 x18_1).f0), .int .i64 ((rd_T96 l0 x18_1).f1), .int .i64 0, .int .i64 0, .int .i64 0]) ?_ 2 _ rfl; (with_reducible repeat (first | refine blk_drewN ?_ _ | refine blk_drew ?_ | refine blk_alloc ?_ _)); refine blk_put (cs := #[.bool ((rd_T96 l0 x18_1).f0), .int .i64 0, .int .i64 0, .int .i64 0, .int .i64 0]) ?_ 1 _ rfl; (with_reducible repeat (first | refine blk_drewN ?_ _ | refine blk_drew ?_ | refine blk_alloc ?_ _)); refine blk_put (cs := #[.bool false, .int .i64 0, .int .i64 0, .int .i64 0, .int .i64 0]) ?_ 0 _ rfl; (with_reducible repeat (first | refine blk_drewN ?_ _ | refine blk_drew ?_ | refine blk_alloc ?_ _)); exact BK109.out⟩, ⟨by repeat (first | (with_reducible first | exact HB.out | apply below_alloc | apply pw_below_drewN | apply below_drew1 | refine below_set ?_ GE109.out) | exact HB.out)⟩⟩
       ·rw [if_neg c12] at H
        have c12b0 : decide (0 < ((rd_T96 l0 x18_1).f3)) = false := decide_eq_false c12
        clear c12
        (first | rw [c12b0] | (simp only [i64_w, i32_w]; rw [c12b0]) | skip)
        have H' := Aside0.mk H
        clear H
        have hcz14_0 : w10.cell? ⟨gb109, 0, none⟩ = some (.bool false) := (blk_cell BK109.out 0).trans rfl
        have hcz14_1 : w10.cell? ⟨gb109, 1, none⟩ = some (.int .i64 0) := (blk_cell BK109.out 1).trans rfl
        have hcz14_2 : w10.cell? ⟨gb109, 2, none⟩ = some (.int .i64 0) := (blk_cell BK109.out 2).trans rfl
        have hcz14_3 : w10.cell? ⟨gb109, 3, none⟩ = some (.int .i64 0) := (blk_cell BK109.out 3).trans rfl
        have hcz14_4 : w10.cell? ⟨gb109, 4, none⟩ = some (.int .i64 0) := (blk_cell BK109.out 4).trans rfl
        have hfz14_0 := blk_frozen BK109.out 0
        have hfz14_1 := blk_frozen BK109.out 1
        have hfz14_2 := blk_frozen BK109.out 2
        have hfz14_3 := blk_frozen BK109.out 3
        have hfz14_4 := blk_frozen BK109.out 4
        go_wp2
        go_meet
        case rel => exact ⟨_, (false), (by first | rfl | (simp; done) | (simp [*]; done)), H', ⟨by have := HK1.out; first | omega | exact Nat.le_refl _⟩, ⟨by (with_reducible repeat (first | apply Kd.R_alloc | apply Kd.R_drewN | apply Kd.R_drew)); exact Kd.R_mono (Kd.R_far (p := ⟨gb109, 4, none⟩) (Kd.R_far (p := ⟨gb109, 3, none⟩) (Kd.R_far (p := ⟨gb109, 2, none⟩) (Kd.R_far (p := ⟨gb109, 1, none⟩) (Kd.R_far (p := ⟨gb109, 0, none⟩) (Kd.R_types HO_7.out BK109.out (by decide)) (fun _ hk => hk.2) (.bool ((rd_T96 l0 x18_1).f0))) (fun _ hk => hk.2) (.int .i64 ((rd_T96 l0 x18_1).f1))) (fun _ hk => hk.2) (.int .i64 ((rd_T96 l0 x18_1).f2))) (fun _ hk => hk.2) (.int .i64 ((rd_T96 l0 x18_1).f3))) (fun _ hk => hk.2) (.int .i64 ((rd_T96 l0 x18_1).f4))) (fun _ hk => trivial)⟩, ⟨by (with_reducible repeat (first | refine blk_drewN ?_ _ | refine blk_drew ?_ | refine blk_alloc ?_ _)); refine blk_put (cs := #[.bool ((rd_T96 l0 x18_1).f0), .int .i64 ((rd_T96 l0 x18_1).f1), .int .i64 ((rd_T96 l0 x18_1).f2), .int .i64 ((rd_T96 l0 x18_1).f3), .int .i64 0]) ?_ 4 _ rfl; (with_reducible repeat (first | refine blk_drewN ?_ _ | refine blk_drew ?_ | refine blk_alloc ?_ _)); refine blk_put (cs := #[.bool ((rd_T96 l0 x18_1).f0), .int .i64 ((rd_T96 l0 x18_1).f1), .int .i64 ((rd_T96 l0 x18_1).f2), .int .i64 0, .int .i64 0]) ?_ 3 _ rfl; (with_reducible repeat (first | refine blk_drewN ?_ _ | refine blk_drew ?_ | refine blk_alloc ?_ _)); refine blk_put (cs := #[.bool ((rd_T96 l0 x18_1).f0), .int .i64 ((rd_T96 l0 x18_1).f1), .int .i64 0, .int .i64 0, .int .i64 0]) ?_ 2 _ rfl; (with_reducible repeat (first | refine blk_drewN ?_ _ | refine blk_drew ?_ | refine blk_alloc ?_ _)); refine blk_put (cs := #[.bool ((rd_T96 l0 x18_1).f0), .int .i64 0, .int .i64 0, .int .i64 0, .int .i64 0]) ?_ 1 _ rfl; (with_reducible repeat (first | refine blk_drewN ?_ _ | refine blk_drew ?_ | refine blk_alloc ?_ _)); refine blk_put (cs := #[.bool false, .int .i64 0, .int .i64 0, .int .i64 0, .int .i64 0]) ?_ 0 _ rfl; (with_reducible repeat (first | refine blk_drewN ?_ _ | refine blk_drew ?_ | refine blk_alloc ?_ _)); exact BK109.out⟩, ⟨by repeat (first | (with_reducible first | exact HB.out | apply below_alloc | apply pw_below_drewN | apply below_drew1 | refine below_set ?_ GE109.out) | exact HB.out)⟩⟩
      case rest =>
       clear HC9
       try clear c1
       try clear p1
       try clear q1
       try clear hx1
       try clear c2
       try clear p2
       try clear c6
       try clear c6b0
       try clear c7
       try clear c7b0
       try clear c8
       try clear c8b0
       try clear p10
       try clear q10
       try clear hx10
       try clear c12
       try clear c12b0
       try clear hcz11_0
       try clear hcz11_1
       try clear hcz11_2
       try clear hcz11_3
       try clear hcz11_4
       try clear hcz13_0
       try clear hcz13_1
       try clear hcz13_2
       try clear hcz13_3
       try clear hcz13_4
       try clear hcz14_0
       try clear hcz14_1
       try clear hcz14_2
       try clear hcz14_3
       try clear hcz14_4
       try clear hfz11_0
       try clear hfz11_1
       try clear hfz11_2
       try clear hfz11_3
       try clear hfz11_4
       try clear hfz13_0
       try clear hfz13_1
       try clear hfz13_2
       try clear hfz13_3
       try clear hfz13_4
       try clear hfz14_0
       try clear hfz14_1
       try clear hfz14_2
       try clear hfz14_3
       try clear hfz14_4
       try clear hx108_0
       try clear hx108_1
       try clear hx108_2
       try clear hx108_3
       try clear hx108_4
       try clear p108
       try clear p2
       try clear q108
       obtain ⟨kq, x29_8, rfl, HA, HJ8, HO_7, BK109, HB⟩ := hcut
       cases kq with
       | zero => exact absurd HA.out (by simp [acl_Spans.j1])
       | succ kj8 =>
        have H := HA.out
        clear HA
        simp only [acl_Spans.j1] at H
        by_cases c15 : x29_8 = true
        ·subst c15
         have H1 : (if x7_1.length < 17592186044416 then ((some (x7_1 ++ [((rd_T96 l0 x18_1).f3)] : List Int)).bind fun y110 => (if ((rd_T96 l0 x18_1).f4) ≥ 0 then (if ((rd_T96 l0 x18_1).f4) < 65535 then (if y110.length < 17592186044416 then (acl_Spans.l0 kj8 l0 a1 a2 (y110 ++ [wrap64 (((rd_T96 l0 x18_1).f4) + 1)]) l0 (l0.length : Int) (wrap64 (x18_1 + 1))) else (none)) else (acl_Spans.l0 kj8 l0 a1 a2 y110 l0 (l0.length : Int) (wrap64 (x18_1 + 1)))) else (acl_Spans.l0 kj8 l0 a1 a2 y110 l0 (l0.length : Int) (wrap64 (x18_1 + 1))))) else (none)) = some r := by rw [if_pos rfl] at H; exact H
         clear H
         have H := H1
         clear H1
         by_cases c16 : x7_1.length < 17592186044416
         ·rw [if_pos c16] at H
          have LMc16 := Aside0.mk c16
          clear c16
          obtain ⟨y110, hy110⟩ : ∃ y_ : List Int, y_ = (x7_1 ++ [((rd_T96 l0 x18_1).f3)]) := ⟨_, rfl⟩
          replace H : (if ((rd_T96 l0 x18_1).f4) ≥ 0 then (if ((rd_T96 l0 x18_1).f4) < 65535 then (if y110.length < 17592186044416 then (acl_Spans.l0 kj8 l0 a1 a2 (y110 ++ [wrap64 (((rd_T96 l0 x18_1).f4) + 1)]) l0 (l0.length : Int) (wrap64 (x18_1 + 1))) else (none)) else (acl_Spans.l0 kj8 l0 a1 a2 y110 l0 (l0.length : Int) (wrap64 (x18_1 + 1)))) else (acl_Spans.l0 kj8 l0 a1 a2 y110 l0 (l0.length : Int) (wrap64 (x18_1 + 1)))) = some r := by first | (rw [hy110]; with_reducible exact H) | (have H2_ := (Option.bind_some _ _).symm.trans H; rw [hy110]; with_reducible exact H2_) | (have H2_ := (Option.bind_some _ _).symm.trans H; with_reducible exact H2_) | with_reducible exact H | (rw [hy110]; exact H) | exact H
          have Ny110 := Aside0.mk hy110
          clear hy110
          by_cases c17 : ((rd_T96 l0 x18_1).f4) ≥ 0
          ·rw [if_pos c17] at H
           have c17b0 : decide (0 ≤ ((rd_T96 l0 x18_1).f4)) = true := decide_eq_true c17
           clear c17
           by_cases c18 : ((rd_T96 l0 x18_1).f4) < 65535
           ·rw [if_pos c18] at H
            have c18b0 : decide (((rd_T96 l0 x18_1).f4) < 65535) = true := decide_eq_true c18
            clear c18
            by_cases c19 : y110.length < 17592186044416
            ·rw [if_pos c19] at H
             have LMc19 := Aside0.mk c19
             clear c19
             obtain ⟨y113, hy113⟩ : ∃ y_ : List Int, y_ = (y110 ++ [wrap64 (((rd_T96 l0 x18_1).f4) + 1)]) := ⟨_, rfl⟩
             replace H : (acl_Spans.l0 kj8 l0 a1 a2 y113 l0 (l0.length : Int) (wrap64 (x18_1 + 1))) = some r := by first | (rw [hy113]; with_reducible exact H) | (have H2_ := (Option.bind_some _ _).symm.trans H; rw [hy113]; with_reducible exact H2_) | (have H2_ := (Option.bind_some _ _).symm.trans H; with_reducible exact H2_) | with_reducible exact H | (rw [hy113]; exact H) | exact H
             have Ny113 := Aside0.mk hy113
             clear hy113
             have H' := Aside0.mk H
             clear H
             have hcz20_0 : wc.cell? ⟨gb109, 0, none⟩ = some (.bool ((rd_T96 l0 x18_1).f0)) := (blk_cell BK109.out 0).trans rfl
             have hcz20_1 : wc.cell? ⟨gb109, 1, none⟩ = some (.int .i64 ((rd_T96 l0 x18_1).f1)) := (blk_cell BK109.out 1).trans rfl
             have hcz20_2 : wc.cell? ⟨gb109, 2, none⟩ = some (.int .i64 ((rd_T96 l0 x18_1).f2)) := (blk_cell BK109.out 2).trans rfl
             have hcz20_3 : wc.cell? ⟨gb109, 3, none⟩ = some (.int .i64 ((rd_T96 l0 x18_1).f3)) := (blk_cell BK109.out 3).trans rfl
             have hcz20_4 : wc.cell? ⟨gb109, 4, none⟩ = some (.int .i64 ((rd_T96 l0 x18_1).f4)) := (blk_cell BK109.out 4).trans rfl
             have hfz20_0 := blk_frozen BK109.out 0
             have hfz20_1 := blk_frozen BK109.out 1
             have hfz20_2 := blk_frozen BK109.out 2
             have hfz20_3 := blk_frozen BK109.out 3
             have hfz20_4 := blk_frozen BK109.out 4
             go_wp2_with (first | ((with_reducible refine gate_builtin (b := .append) (xs := #[.tmp 30, .tmp 33]) rfl ?_); at_builtin; refine Kd.R_append (Kd.int .i64) (w0 := w) w.heap.size rfl (.tmp 30) (.tmp 33) 53 3 (.int .i64 0) 8 rfl Tryz.underlying53 info3 rfl (by decide) (by omega) u7 x7_1 ((rd_T96 l0 x18_1).f3) [.int .i64 ((rd_T96 l0 x18_1).f3)] (fun _ => True) (fun _ => False) rfl rfl ?aP (fun _ hk => hk.elim) ?aF ?aO ?aB ?aS ?aL ?_; (case aP => exact rfl); (case aB => exact (by repeat (first | (with_reducible first | exact HB.out | apply below_alloc | apply pw_below_drewN | apply below_drew1 | refine below_set ?_ GE109.out) | exact HB.out))); (case aF => exact (fun _ _ => trivial)); (case aO => exact (by (with_reducible repeat (first | apply Kd.R_alloc | apply Kd.R_drewN | apply Kd.R_drew)); exact HO_7.out)); (case aS => exact (below_size (by repeat (first | (with_reducible first | exact HB.out | apply below_alloc | apply pw_below_drewN | apply below_drew1 | refine below_set ?_ GE109.out) | exact HB.out)))); (case aL => have := LMc16.out; omega); intro v111 w21 ho hb hg hat; rw [← Ny110.out] at ho; have n0_ := Aside0.mk (blk_grown (g := gb109) (o := .cells #[.bool ((rd_T96 l0 x18_1).f0), .int .i64 ((rd_T96 l0 x18_1).f1), .int .i64 ((rd_T96 l0 x18_1).f2), .int .i64 ((rd_T96 l0 x18_1).f3), .int .i64 ((rd_T96 l0 x18_1).f4)] 96 (0, 0)) (by (with_reducible repeat (first | refine blk_drewN ?_ _ | refine blk_drew ?_ | refine blk_alloc ?_ _)); exact BK109.out) hg (Kd.R_ne HO_7.out BK109.out (by decide))); have n1_ := Aside0.mk (hb); have n2_ := Aside0.mk (ho); clear BK109; clear HB; clear HO_7; have BK109 := n0_; have HB := n1_; have HO112 := n2_; clear n0_ n1_ n2_; clear ho hb hg hat; have hcz22_0 : w21.cell? ⟨gb109, 0, none⟩ = some (.bool ((rd_T96 l0 x18_1).f0)) := (blk_cell BK109.out 0).trans rfl; have hcz22_1 : w21.cell? ⟨gb109, 1, none⟩ = some (.int .i64 ((rd_T96 l0 x18_1).f1)) := (blk_cell BK109.out 1).trans rfl; have hcz22_2 : w21.cell? ⟨gb109, 2, none⟩ = some (.int .i64 ((rd_T96 l0 x18_1).f2)) := (blk_cell BK109.out 2).trans rfl; have hcz22_3 : w21.cell? ⟨gb109, 3, none⟩ = some (.int .i64 ((rd_T96 l0 x18_1).f3)) := (blk_cell BK109.out 3).trans rfl; have hcz22_4 : w21.cell? ⟨gb109, 4, none⟩ = some (.int .i64 ((rd_T96 l0 x18_1).f4)) := (blk_cell BK109.out 4).trans rfl; have hfz22_0 := blk_frozen BK109.out 0; have hfz22_1 := blk_frozen BK109.out 1; have hfz22_2 := blk_frozen BK109.out 2; have hfz22_3 := blk_frozen BK109.out 3; have hfz22_4 := blk_frozen BK109.out 4) | ((with_reducible refine gate_builtin (b := .append) (xs := #[.tmp 43, .tmp 47]) rfl ?_); at_builtin; refine Kd.R_append (Kd.int .i64) (w0 := w) w.heap.size rfl (.tmp 43) (.tmp 47) 53 3 (.int .i64 0) 8 rfl Tryz.underlying53 info3 rfl (by decide) (by omega) v111 y110 (wrap64 (((rd_T96 l0 x18_1).f4) + 1)) [.int .i64 (wrap64 (((rd_T96 l0 x18_1).f4) + 1))] (fun _ => True) (fun _ => False) rfl rfl ?aP (fun _ hk => hk.elim) ?aF ?aO ?aB ?aS ?aL ?_; (case aP => exact rfl); (case aB => exact (by repeat (first | (with_reducible first | exact HB.out | apply below_alloc | apply pw_below_drewN | apply below_drew1 | refine below_set ?_ GE109.out) | exact HB.out))); (case aF => exact (fun _ _ => trivial)); (case aO => exact (by (with_reducible repeat (first | apply Kd.R_alloc | apply Kd.R_drewN | apply Kd.R_drew)); exact HO112.out)); (case aS => exact (below_size (by repeat (first | (with_reducible first | exact HB.out | apply below_alloc | apply pw_below_drewN | apply below_drew1 | refine below_set ?_ GE109.out) | exact HB.out)))); (case aL => have := LMc19.out; omega); intro v114 w23 ho hb hg hat; rw [← Ny113.out] at ho; have n0_ := Aside0.mk (blk_grown (g := gb109) (o := .cells #[.bool ((rd_T96 l0 x18_1).f0), .int .i64 ((rd_T96 l0 x18_1).f1), .int .i64 ((rd_T96 l0 x18_1).f2), .int .i64 ((rd_T96 l0 x18_1).f3), .int .i64 ((rd_T96 l0 x18_1).f4)] 96 (0, 0)) (by (with_reducible repeat (first | refine blk_drewN ?_ _ | refine blk_drew ?_ | refine blk_alloc ?_ _)); exact BK109.out) hg (Kd.R_ne HO112.out BK109.out (by decide))); have n1_ := Aside0.mk (hb); have n2_ := Aside0.mk (ho); clear BK109; clear HB; clear HO112; have BK109 := n0_; have HB := n1_; have HO115 := n2_; clear n0_ n1_ n2_; clear ho hb hg hat))
             go_roundg kj8
             case measure => have := HK1.out; have := HJ8.out; omega
             case rel => exact ⟨(y113), (wrap64 (x18_1 + 1)), (by first | rfl | (simp; done) | (simp [*]; done)), H', ⟨by have := HK1.out; have := HJ8.out; omega⟩, ⟨by (with_reducible repeat (first | apply Kd.R_alloc | apply Kd.R_drewN | apply Kd.R_drew)); exact HO115.out⟩, ⟨by repeat (first | (with_reducible first | exact HB.out | apply below_alloc | apply pw_below_drewN | apply below_drew1 | refine below_set ?_ GE109.out) | exact HB.out)⟩⟩
            ·rw [if_neg c19] at H
             exact absurd H (by simp)
           ·rw [if_neg c18] at H
            have c18b0 : decide (((rd_T96 l0 x18_1).f4) < 65535) = false := decide_eq_false c18
            clear c18
            have H' := Aside0.mk H
            clear H
            have hcz24_0 : wc.cell? ⟨gb109, 0, none⟩ = some (.bool ((rd_T96 l0 x18_1).f0)) := (blk_cell BK109.out 0).trans rfl
            have hcz24_1 : wc.cell? ⟨gb109, 1, none⟩ = some (.int .i64 ((rd_T96 l0 x18_1).f1)) := (blk_cell BK109.out 1).trans rfl
            have hcz24_2 : wc.cell? ⟨gb109, 2, none⟩ = some (.int .i64 ((rd_T96 l0 x18_1).f2)) := (blk_cell BK109.out 2).trans rfl
            have hcz24_3 : wc.cell? ⟨gb109, 3, none⟩ = some (.int .i64 ((rd_T96 l0 x18_1).f3)) := (blk_cell BK109.out 3).trans rfl
            have hcz24_4 : wc.cell? ⟨gb109, 4, none⟩ = some (.int .i64 ((rd_T96 l0 x18_1).f4)) := (blk_cell BK109.out 4).trans rfl
            have hfz24_0 := blk_frozen BK109.out 0
            have hfz24_1 := blk_frozen BK109.out 1
            have hfz24_2 := blk_frozen BK109.out 2
            have hfz24_3 := blk_frozen BK109.out 3
            have hfz24_4 := blk_frozen BK109.out 4
            go_wp2_with (first | ((with_reducible refine gate_builtin (b := .append) (xs := #[.tmp 30, .tmp 33]) rfl ?_); at_builtin; refine Kd.R_append (Kd.int .i64) (w0 := w) w.heap.size rfl (.tmp 30) (.tmp 33) 53 3 (.int .i64 0) 8 rfl Tryz.underlying53 info3 rfl (by decide) (by omega) u7 x7_1 ((rd_T96 l0 x18_1).f3) [.int .i64 ((rd_T96 l0 x18_1).f3)] (fun _ => True) (fun _ => False) rfl rfl ?aP (fun _ hk => hk.elim) ?aF ?aO ?aB ?aS ?aL ?_; (case aP => exact rfl); (case aB => exact (by repeat (first | (with_reducible first | exact HB.out | apply below_alloc | apply pw_below_drewN | apply below_drew1 | refine below_set ?_ GE109.out) | exact HB.out))); (case aF => exact (fun _ _ => trivial)); (case aO => exact (by (with_reducible repeat (first | apply Kd.R_alloc | apply Kd.R_drewN | apply Kd.R_drew)); exact HO_7.out)); (case aS => exact (below_size (by repeat (first | (with_reducible first | exact HB.out | apply below_alloc | apply pw_below_drewN | apply below_drew1 | refine below_set ?_ GE109.out) | exact HB.out)))); (case aL => have := LMc16.out; omega); intro v111 w25 ho hb hg hat; rw [← Ny110.out] at ho; have n0_ := Aside0.mk (blk_grown (g := gb109) (o := .cells #[.bool ((rd_T96 l0 x18_1).f0), .int .i64 ((rd_T96 l0 x18_1).f1), .int .i64 ((rd_T96 l0 x18_1).f2), .int .i64 ((rd_T96 l0 x18_1).f3), .int .i64 ((rd_T96 l0 x18_1).f4)] 96 (0, 0)) (by (with_reducible repeat (first | refine blk_drewN ?_ _ | refine blk_drew ?_ | refine blk_alloc ?_ _)); exact BK109.out) hg (Kd.R_ne HO_7.out BK109.out (by decide))); have n1_ := Aside0.mk (hb); have n2_ := Aside0.mk (ho); clear BK109; clear HB; clear HO_7; have BK109 := n0_; have HB := n1_; have HO112 := n2_; clear n0_ n1_ n2_; clear ho hb hg hat; have hcz26_0 : w25.cell? ⟨gb109, 0, none⟩ = some (.bool ((rd_T96 l0 x18_1).f0)) := (blk_cell BK109.out 0).trans rfl; have hcz26_1 : w25.cell? ⟨gb109, 1, none⟩ = some (.int .i64 ((rd_T96 l0 x18_1).f1)) := (blk_cell BK109.out 1).trans rfl; have hcz26_2 : w25.cell? ⟨gb109, 2, none⟩ = some (.int .i64 ((rd_T96 l0 x18_1).f2)) := (blk_cell BK109.out 2).trans rfl; have hcz26_3 : w25.cell? ⟨gb109, 3, none⟩ = some (.int .i64 ((rd_T96 l0 x18_1).f3)) := (blk_cell BK109.out 3).trans rfl; have hcz26_4 : w25.cell? ⟨gb109, 4, none⟩ = some (.int .i64 ((rd_T96 l0 x18_1).f4)) := (blk_cell BK109.out 4).trans rfl; have hfz26_0 := blk_frozen BK109.out 0; have hfz26_1 := blk_frozen BK109.out 1; have hfz26_2 := blk_frozen BK109.out 2; have hfz26_3 := blk_frozen BK109.out 3; have hfz26_4 := blk_frozen BK109.out 4))
            go_roundg kj8
            case measure => have := HK1.out; have := HJ8.out; omega
            case rel => exact ⟨(y110), (wrap64 (x18_1 + 1)), (by first | rfl | (simp; done) | (simp [*]; done)), H', ⟨by have := HK1.out; have := HJ8.out; omega⟩, ⟨by (with_reducible repeat (first | apply Kd.R_alloc | apply Kd.R_drewN | apply Kd.R_drew)); exact HO112.out⟩, ⟨by repeat (first | (with_reducible first | exact HB.out | apply below_alloc | apply pw_below_drewN | apply below_drew1 | refine below_set ?_ GE109.out) | exact HB.out)⟩⟩
          ·rw [if_neg c17] at H
           have c17b0 : decide (0 ≤ ((rd_T96 l0 x18_1).f4)) = false := decide_eq_false c17
           clear c17
           have H' := Aside0.mk H
           clear H
           have hcz27_0 : wc.cell? ⟨gb109, 0, none⟩ = some (.bool ((rd_T96 l0 x18_1).f0)) := (blk_cell BK109.out 0).trans rfl
           have hcz27_1 : wc.cell? ⟨gb109, 1, none⟩ = some (.int .i64 ((rd_T96 l0 x18_1).f1)) := (blk_cell BK109.out 1).trans rfl
           have hcz27_2 : wc.cell? ⟨gb109, 2, none⟩ = some (.int .i64 ((rd_T96 l0 x18_1).f2)) := (blk_cell BK109.out 2).trans rfl
           have hcz27_3 : wc.cell? ⟨gb109, 3, none⟩ = some (.int .i64 ((rd_T96 l0 x18_1).f3)) := (blk_cell BK109.out 3).trans rfl
           have hcz27_4 : wc.cell? ⟨gb109, 4, none⟩ = some (.int .i64 ((rd_T96 l0 x18_1).f4)) := (blk_cell BK109.out 4).trans rfl
           have hfz27_0 := blk_frozen BK109.out 0
           have hfz27_1 := blk_frozen BK109.out 1
           have hfz27_2 := blk_frozen BK109.out 2
           have hfz27_3 := blk_frozen BK109.out 3
           have hfz27_4 := blk_frozen BK109.out 4
           go_wp2_with (first | ((with_reducible refine gate_builtin (b := .append) (xs := #[.tmp 30, .tmp 33]) rfl ?_); at_builtin; refine Kd.R_append (Kd.int .i64) (w0 := w) w.heap.size rfl (.tmp 30) (.tmp 33) 53 3 (.int .i64 0) 8 rfl Tryz.underlying53 info3 rfl (by decide) (by omega) u7 x7_1 ((rd_T96 l0 x18_1).f3) [.int .i64 ((rd_T96 l0 x18_1).f3)] (fun _ => True) (fun _ => False) rfl rfl ?aP (fun _ hk => hk.elim) ?aF ?aO ?aB ?aS ?aL ?_; (case aP => exact rfl); (case aB => exact (by repeat (first | (with_reducible first | exact HB.out | apply below_alloc | apply pw_below_drewN | apply below_drew1 | refine below_set ?_ GE109.out) | exact HB.out))); (case aF => exact (fun _ _ => trivial)); (case aO => exact (by (with_reducible repeat (first | apply Kd.R_alloc | apply Kd.R_drewN | apply Kd.R_drew)); exact HO_7.out)); (case aS => exact (below_size (by repeat (first | (with_reducible first | exact HB.out | apply below_alloc | apply pw_below_drewN | apply below_drew1 | refine below_set ?_ GE109.out) | exact HB.out)))); (case aL => have := LMc16.out; omega); intro v111 w28 ho hb hg hat; rw [← Ny110.out] at ho; have n0_ := Aside0.mk (blk_grown (g := gb109) (o := .cells #[.bool ((rd_T96 l0 x18_1).f0), .int .i64 ((rd_T96 l0 x18_1).f1), .int .i64 ((rd_T96 l0 x18_1).f2), .int .i64 ((rd_T96 l0 x18_1).f3), .int .i64 ((rd_T96 l0 x18_1).f4)] 96 (0, 0)) (by (with_reducible repeat (first | refine blk_drewN ?_ _ | refine blk_drew ?_ | refine blk_alloc ?_ _)); exact BK109.out) hg (Kd.R_ne HO_7.out BK109.out (by decide))); have n1_ := Aside0.mk (hb); have n2_ := Aside0.mk (ho); clear BK109; clear HB; clear HO_7; have BK109 := n0_; have HB := n1_; have HO112 := n2_; clear n0_ n1_ n2_; clear ho hb hg hat; have hcz29_0 : w28.cell? ⟨gb109, 0, none⟩ = some (.bool ((rd_T96 l0 x18_1).f0)) := (blk_cell BK109.out 0).trans rfl; have hcz29_1 : w28.cell? ⟨gb109, 1, none⟩ = some (.int .i64 ((rd_T96 l0 x18_1).f1)) := (blk_cell BK109.out 1).trans rfl; have hcz29_2 : w28.cell? ⟨gb109, 2, none⟩ = some (.int .i64 ((rd_T96 l0 x18_1).f2)) := (blk_cell BK109.out 2).trans rfl; have hcz29_3 : w28.cell? ⟨gb109, 3, none⟩ = some (.int .i64 ((rd_T96 l0 x18_1).f3)) := (blk_cell BK109.out 3).trans rfl; have hcz29_4 : w28.cell? ⟨gb109, 4, none⟩ = some (.int .i64 ((rd_T96 l0 x18_1).f4)) := (blk_cell BK109.out 4).trans rfl; have hfz29_0 := blk_frozen BK109.out 0; have hfz29_1 := blk_frozen BK109.out 1; have hfz29_2 := blk_frozen BK109.out 2; have hfz29_3 := blk_frozen BK109.out 3; have hfz29_4 := blk_frozen BK109.out 4))
           go_roundg kj8
           case measure => have := HK1.out; have := HJ8.out; omega
           case rel => exact ⟨(y110), (wrap64 (x18_1 + 1)), (by first | rfl | (simp; done) | (simp [*]; done)), H', ⟨by have := HK1.out; have := HJ8.out; omega⟩, ⟨by (with_reducible repeat (first | apply Kd.R_alloc | apply Kd.R_drewN | apply Kd.R_drew)); exact HO112.out⟩, ⟨by repeat (first | (with_reducible first | exact HB.out | apply below_alloc | apply pw_below_drewN | apply below_drew1 | refine below_set ?_ GE109.out) | exact HB.out)⟩⟩
         ·rw [if_neg c16] at H
          exact absurd H (by simp)
        ·replace c15 := Bool.eq_false_iff.mpr c15
         subst c15
         have H1 : (if ((rd_T96 l0 x18_1).f4) ≥ 0 then (if ((rd_T96 l0 x18_1).f4) < 65535 then (if x7_1.length < 17592186044416 then (acl_Spans.l0 kj8 l0 a1 a2 (x7_1 ++ [wrap64 (((rd_T96 l0 x18_1).f4) + 1)]) l0 (l0.length : Int) (wrap64 (x18_1 + 1))) else (none)) else (acl_Spans.l0 kj8 l0 a1 a2 x7_1 l0 (l0.length : Int) (wrap64 (x18_1 + 1)))) else (acl_Spans.l0 kj8 l0 a1 a2 x7_1 l0 (l0.length : Int) (wrap64 (x18_1 + 1)))) = some r := by rw [if_neg (show ¬ (false = true) by decide)] at H; exact H
         clear H
         have H := H1
         clear H1
         by_cases c30 : ((rd_T96 l0 x18_1).f4) ≥ 0
         ·rw [if_pos c30] at H
          have c30b0 : decide (0 ≤ ((rd_T96 l0 x18_1).f4)) = true := decide_eq_true c30
          clear c30
          by_cases c31 : ((rd_T96 l0 x18_1).f4) < 65535
          ·rw [if_pos c31] at H
           have c31b0 : decide (((rd_T96 l0 x18_1).f4) < 65535) = true := decide_eq_true c31
           clear c31
           by_cases c32 : x7_1.length < 17592186044416
           ·rw [if_pos c32] at H
            have LMc32 := Aside0.mk c32
            clear c32
            obtain ⟨y116, hy116⟩ : ∃ y_ : List Int, y_ = (x7_1 ++ [wrap64 (((rd_T96 l0 x18_1).f4) + 1)]) := ⟨_, rfl⟩
            replace H : (acl_Spans.l0 kj8 l0 a1 a2 y116 l0 (l0.length : Int) (wrap64 (x18_1 + 1))) = some r := by first | (rw [hy116]; with_reducible exact H) | (have H2_ := (Option.bind_some _ _).symm.trans H; rw [hy116]; with_reducible exact H2_) | (have H2_ := (Option.bind_some _ _).symm.trans H; with_reducible exact H2_) | with_reducible exact H | (rw [hy116]; exact H) | exact H
            have Ny116 := Aside0.mk hy116
            clear hy116
            have H' := Aside0.mk H
            clear H
            have hcz33_0 : wc.cell? ⟨gb109, 0, none⟩ = some (.bool ((rd_T96 l0 x18_1).f0)) := (blk_cell BK109.out 0).trans rfl
            have hcz33_1 : wc.cell? ⟨gb109, 1, none⟩ = some (.int .i64 ((rd_T96 l0 x18_1).f1)) := (blk_cell BK109.out 1).trans rfl
            have hcz33_2 : wc.cell? ⟨gb109, 2, none⟩ = some (.int .i64 ((rd_T96 l0 x18_1).f2)) := (blk_cell BK109.out 2).trans rfl
            have hcz33_3 : wc.cell? ⟨gb109, 3, none⟩ = some (.int .i64 ((rd_T96 l0 x18_1).f3)) := (blk_cell BK109.out 3).trans rfl
            have hcz33_4 : wc.cell? ⟨gb109, 4, none⟩ = some (.int .i64 ((rd_T96 l0 x18_1).f4)) := (blk_cell BK109.out 4).trans rfl
            have hfz33_0 := blk_frozen BK109.out 0
            have hfz33_1 := blk_frozen BK109.out 1
            have hfz33_2 := blk_frozen BK109.out 2
            have hfz33_3 := blk_frozen BK109.out 3
            have hfz33_4 := blk_frozen BK109.out 4
            go_wp2_with (first | ((with_reducible refine gate_builtin (b := .append) (xs := #[.tmp 43, .tmp 47]) rfl ?_); at_builtin; refine Kd.R_append (Kd.int .i64) (w0 := w) w.heap.size rfl (.tmp 43) (.tmp 47) 53 3 (.int .i64 0) 8 rfl Tryz.underlying53 info3 rfl (by decide) (by omega) u7 x7_1 (wrap64 (((rd_T96 l0 x18_1).f4) + 1)) [.int .i64 (wrap64 (((rd_T96 l0 x18_1).f4) + 1))] (fun _ => True) (fun _ => False) rfl rfl ?aP (fun _ hk => hk.elim) ?aF ?aO ?aB ?aS ?aL ?_; (case aP => exact rfl); (case aB => exact (by repeat (first | (with_reducible first | exact HB.out | apply below_alloc | apply pw_below_drewN | apply below_drew1 | refine below_set ?_ GE109.out) | exact HB.out))); (case aF => exact (fun _ _ => trivial)); (case aO => exact (by (with_reducible repeat (first | apply Kd.R_alloc | apply Kd.R_drewN | apply Kd.R_drew)); exact HO_7.out)); (case aS => exact (below_size (by repeat (first | (with_reducible first | exact HB.out | apply below_alloc | apply pw_below_drewN | apply below_drew1 | refine below_set ?_ GE109.out) | exact HB.out)))); (case aL => have := LMc32.out; omega); intro v117 w34 ho hb hg hat; rw [← Ny116.out] at ho; have n0_ := Aside0.mk (blk_grown (g := gb109) (o := .cells #[.bool ((rd_T96 l0 x18_1).f0), .int .i64 ((rd_T96 l0 x18_1).f1), .int .i64 ((rd_T96 l0 x18_1).f2), .int .i64 ((rd_T96 l0 x18_1).f3), .int .i64 ((rd_T96 l0 x18_1).f4)] 96 (0, 0)) (by (with_reducible repeat (first | refine blk_drewN ?_ _ | refine blk_drew ?_ | refine blk_alloc ?_ _)); exact BK109.out) hg (Kd.R_ne HO_7.out BK109.out (by decide))); have n1_ := Aside0.mk (hb); have n2_ := Aside0.mk (ho); clear BK109; clear HB; clear HO_7; have BK109 := n0_; have HB := n1_; have HO118 := n2_; clear n0_ n1_ n2_; clear ho hb hg hat))
            go_roundg kj8
            case measure => have := HK1.out; have := HJ8.out; omega
            case rel => exact ⟨(y116), (wrap64 (x18_1 + 1)), (by first | rfl | (simp; done) | (simp [*]; done)), H', ⟨by have := HK1.out; have := HJ8.out; omega⟩, ⟨by (with_reducible repeat (first | apply Kd.R_alloc | apply Kd.R_drewN | apply Kd.R_drew)); exact HO118.out⟩, ⟨by repeat (first | (with_reducible first | exact HB.out | apply below_alloc | apply pw_below_drewN | apply below_drew1 | refine below_set ?_ GE109.out) | exact HB.out)⟩⟩
           ·rw [if_neg c32] at H
            exact absurd H (by simp)
          ·rw [if_neg c31] at H
           have c31b0 : decide (((rd_T96 l0 x18_1).f4) < 65535) = false := decide_eq_false c31
           clear c31
           have H' := Aside0.mk H
           clear H
           have hcz35_0 : wc.cell? ⟨gb109, 0, none⟩ = some (.bool ((rd_T96 l0 x18_1).f0)) := (blk_cell BK109.out 0).trans rfl
           have hcz35_1 : wc.cell? ⟨gb109, 1, none⟩ = some (.int .i64 ((rd_T96 l0 x18_1).f1)) := (blk_cell BK109.out 1).trans rfl
           have hcz35_2 : wc.cell? ⟨gb109, 2, none⟩ = some (.int .i64 ((rd_T96 l0 x18_1).f2)) := (blk_cell BK109.out 2).trans rfl
           have hcz35_3 : wc.cell? ⟨gb109, 3, none⟩ = some (.int .i64 ((rd_T96 l0 x18_1).f3)) := (blk_cell BK109.out 3).trans rfl
           have hcz35_4 : wc.cell? ⟨gb109, 4, none⟩ = some (.int .i64 ((rd_T96 l0 x18_1).f4)) := (blk_cell BK109.out 4).trans rfl
           have hfz35_0 := blk_frozen BK109.out 0
           have hfz35_1 := blk_frozen BK109.out 1
           have hfz35_2 := blk_frozen BK109.out 2
           have hfz35_3 := blk_frozen BK109.out 3
           have hfz35_4 := blk_frozen BK109.out 4
           go_wp2
           go_roundg kj8
           case measure => have := HK1.out; have := HJ8.out; omega
           case rel => exact ⟨(x7_1), (wrap64 (x18_1 + 1)), (by first | rfl | (simp; done) | (simp [*]; done)), H', ⟨by have := HK1.out; have := HJ8.out; omega⟩, ⟨by (with_reducible repeat (first | apply Kd.R_alloc | apply Kd.R_drewN | apply Kd.R_drew)); exact HO_7.out⟩, ⟨by repeat (first | (with_reducible first | exact HB.out | apply below_alloc | apply pw_below_drewN | apply below_drew1 | refine below_set ?_ GE109.out) | exact HB.out)⟩⟩
         ·rw [if_neg c30] at H
          have c30b0 : decide (0 ≤ ((rd_T96 l0 x18_1).f4)) = false := decide_eq_false c30
          clear c30
          have H' := Aside0.mk H
          clear H
          have hcz36_0 : wc.cell? ⟨gb109, 0, none⟩ = some (.bool ((rd_T96 l0 x18_1).f0)) := (blk_cell BK109.out 0).trans rfl
          have hcz36_1 : wc.cell? ⟨gb109, 1, none⟩ = some (.int .i64 ((rd_T96 l0 x18_1).f1)) := (blk_cell BK109.out 1).trans rfl
          have hcz36_2 : wc.cell? ⟨gb109, 2, none⟩ = some (.int .i64 ((rd_T96 l0 x18_1).f2)) := (blk_cell BK109.out 2).trans rfl
          have hcz36_3 : wc.cell? ⟨gb109, 3, none⟩ = some (.int .i64 ((rd_T96 l0 x18_1).f3)) := (blk_cell BK109.out 3).trans rfl
          have hcz36_4 : wc.cell? ⟨gb109, 4, none⟩ = some (.int .i64 ((rd_T96 l0 x18_1).f4)) := (blk_cell BK109.out 4).trans rfl
          have hfz36_0 := blk_frozen BK109.out 0
          have hfz36_1 := blk_frozen BK109.out 1
          have hfz36_2 := blk_frozen BK109.out 2
          have hfz36_3 := blk_frozen BK109.out 3
          have hfz36_4 := blk_frozen BK109.out 4
          go_wp2
          go_roundg kj8
          case measure => have := HK1.out; have := HJ8.out; omega
          case rel => exact ⟨(x7_1), (wrap64 (x18_1 + 1)), (by first | rfl | (simp; done) | (simp [*]; done)), H', ⟨by have := HK1.out; have := HJ8.out; omega⟩, ⟨by (with_reducible repeat (first | apply Kd.R_alloc | apply Kd.R_drewN | apply Kd.R_drew)); exact HO_7.out⟩, ⟨by repeat (first | (with_reducible first | exact HB.out | apply below_alloc | apply pw_below_drewN | apply below_drew1 | refine below_set ?_ GE109.out) | exact HB.out)⟩⟩
     ·rw [if_neg c8] at H
      exact absurd H (by simp)
    ·rw [if_neg c7] at H
     exact absurd H (by simp)
   ·rw [if_neg c6] at H
    have c6b0 : decide (x18_1 < (l0.length : Int)) = false := decide_eq_false c6
    clear c6
    replace H := Option.bind_eq_some_iff.mp H
    obtain ⟨t119, A370, H⟩ := H
    replace H : ((slices_Compact_int_int.f t119).bind fun t120 => (if t120.length < 17592186044416 then ((some (t120 ++ [65536] : List Int)).bind fun y123 => (if 0 ≤ (wrap64 ((y123.length : Int) - 1)) then (if (wrap64 ((y123.length : Int) - 1)) ≤ (y123.length : Int) then ((some (y123.take ((wrap64 ((y123.length : Int) - 1)) : Int).toNat : List Int)).bind fun y126 => (acl_Spans.l1 k1 l0 a1 a2 y123 ([] : List (S80)) y126 (y126.length : Int) 0)) else (none)) else (none))) else (none))) = some r := H
    have A37 := Aside0.mk A370
    clear A370
    replace H := Option.bind_eq_some_iff.mp H
    obtain ⟨t120, A380, H⟩ := H
    replace H : (if t120.length < 17592186044416 then ((some (t120 ++ [65536] : List Int)).bind fun y123 => (if 0 ≤ (wrap64 ((y123.length : Int) - 1)) then (if (wrap64 ((y123.length : Int) - 1)) ≤ (y123.length : Int) then ((some (y123.take ((wrap64 ((y123.length : Int) - 1)) : Int).toNat : List Int)).bind fun y126 => (acl_Spans.l1 k1 l0 a1 a2 y123 ([] : List (S80)) y126 (y126.length : Int) 0)) else (none)) else (none))) else (none)) = some r := H
    have A38 := Aside0.mk A380
    clear A380
    by_cases c39 : t120.length < 17592186044416
    ·rw [if_pos c39] at H
     have LMc39 := Aside0.mk c39
     clear c39
     obtain ⟨y123, hy123⟩ : ∃ y_ : List Int, y_ = (t120 ++ [65536]) := ⟨_, rfl⟩
     replace H : (if 0 ≤ (wrap64 ((y123.length : Int) - 1)) then (if (wrap64 ((y123.length : Int) - 1)) ≤ (y123.length : Int) then ((some (y123.take ((wrap64 ((y123.length : Int) - 1)) : Int).toNat : List Int)).bind fun y126 => (acl_Spans.l1 k1 l0 a1 a2 y123 ([] : List (S80)) y126 (y126.length : Int) 0)) else (none)) else (none)) = some r := by first | (rw [hy123]; with_reducible exact H) | (have H2_ := (Option.bind_some _ _).symm.trans H; rw [hy123]; with_reducible exact H2_) | (have H2_ := (Option.bind_some _ _).symm.trans H; with_reducible exact H2_) | with_reducible exact H | (rw [hy123]; exact H) | exact H
     have Ny123 := Aside0.mk hy123
     clear hy123
     obtain ⟨ji40, hji40⟩ : ∃ j_ : Int, (wrap64 ((y123.length : Int) - 1)) = j_ := ⟨_, rfl⟩
     replace H : (if 0 ≤ (ji40) then (if (ji40) ≤ (y123.length : Int) then ((some (y123.take ((ji40) : Int).toNat : List Int)).bind fun y126 => (acl_Spans.l1 k1 l0 a1 a2 y123 ([] : List (S80)) y126 (y126.length : Int) 0)) else (none)) else (none)) = some r := by first | (rw [hji40] at H; exact H) | (simp only [hji40] at H ⊢; exact H)
     (try rw [hji40] at A37)
     (try rw [hji40] at A38)
     have hji40w : (IntKind.i64.wrap ((y123.length : Int) - 1)) = ji40 := (i64_w _).trans hji40
     by_cases c41 : 0 ≤ (ji40)
     ·rw [if_pos c41] at H
      have c41b0 := eq_true c41
      have c41b1 : decide (0 ≤ (ji40)) = true := decide_eq_true c41
      clear c41
      by_cases c42 : (ji40) ≤ (y123.length : Int)
      ·rw [if_pos c42] at H
       have c42b0 := eq_true c42
       have c42b1 : decide ((ji40) ≤ (y123.length : Int)) = true := decide_eq_true c42
       clear c42
       obtain ⟨y126, hy126⟩ : ∃ y_ : List Int, y_ = (y123.take ((ji40) : Int).toNat) := ⟨_, rfl⟩
       replace H : (acl_Spans.l1 k1 l0 a1 a2 y123 ([] : List (S80)) y126 (y126.length : Int) 0) = some r := by first | (rw [hy126]; with_reducible exact H) | (have H2_ := (Option.bind_some _ _).symm.trans H; rw [hy126]; with_reducible exact H2_) | (have H2_ := (Option.bind_some _ _).symm.trans H; with_reducible exact H2_) | with_reducible exact H | (rw [hy126]; exact H) | exact H
       have Ny126 := Aside0.mk hy126
       clear hy126
       have H' := Aside0.mk H
       clear H
       obtain ⟨Ao43, co43, eo43⟩ := Kd.R_slice HO_7.out
       subst eo43
       go_wp2_with (first | ((with_reducible refine gate_callee (f := 60) rfl ?_); refine goesL_ (some 51) rfl rfl Tryz.func60 (by kernel_rfl) rfl #[.slice Ao43 x7_1.length co43] rfl (by (try simp only [List.map_toArray, List.map_cons, List.map_nil]); first | done | rfl | (simp only [List.length_drop, List.length_take]; rfl)) ?_; (with_reducible refine (slices_Sort_int_int.calls (fun k_ => some k_ = (.slice Ao43 x7_1.length co43 : Value).ownBlock) (.slice Ao43 x7_1.length co43) x7_1 t119 w _ ?side1 ?side2 A37.out).mono ?_); (case side1 => repeat (first | (with_reducible first | exact HB.out | apply below_alloc | apply pw_below_drewN | apply below_drew1) | exact HB.out)); (case side2 => exact Kd.R_tight rfl HO_7.out); rintro e w44 ⟨rfl, hy0, hb, hkp⟩; refine ⟨_, rfl, ?_⟩; have n0_ := Aside0.mk (Kd.R_reok rfl hy0 (fun k_ e_ => HO_7.out.1 k_ e_)); have n1_ := Aside0.mk (hb); clear HO_7; clear HB; have HO_7 := n0_; have HB := n1_; clear n0_ n1_; (try clear hb); (try clear hkp); (try clear hy0)) | ((with_reducible refine gate_callee (f := 61) rfl ?_); refine goesL_ (some 53) rfl rfl Tryz.func61 (by kernel_rfl) rfl #[.slice Ao43 x7_1.length co43] rfl (by (try simp only [List.map_toArray, List.map_cons, List.map_nil]); first | done | rfl | (simp only [List.length_drop, List.length_take]; rfl)) ?_; (with_reducible refine (slices_Compact_int_int.calls (fun k_ => some k_ = (.slice Ao43 x7_1.length co43 : Value).ownBlock) (.slice Ao43 x7_1.length co43) t119 t120 w _ ?side1 ?side2 A38.out).mono ?_); (case side1 => repeat (first | (with_reducible first | exact HB.out | apply below_alloc | apply pw_below_drewN | apply below_drew1) | exact HB.out)); (case side2 => exact Kd.R_tight rfl HO_7.out); rintro e w45 ⟨v121, rfl, ho0, hb, hkp⟩; refine ⟨_, rfl, ?_⟩; have n0_ := Aside0.mk (Kd.R_mono (ok' := fun k_ => True) ho0 (fun k_ hk_ => trivial)); have n1_ := Aside0.mk (hb); clear HB; clear HO_7; have HO122 := n0_; have HB := n1_; clear n0_ n1_; (try clear hb); (try clear hkp); (try clear ho0)) | ((with_reducible refine gate_builtin (b := .append) (xs := #[.tmp 53, .tmp 54]) rfl ?_); at_builtin; refine Kd.R_append (Kd.int .i64) (w0 := w) w.heap.size rfl (.tmp 53) (.tmp 54) 53 3 (.int .i64 0) 8 rfl Tryz.underlying53 info3 rfl (by decide) (by omega) v121 t120 65536 [.int .i64 65536] (fun _ => True) (fun _ => False) rfl rfl ?aP (fun _ hk => hk.elim) ?aF ?aO ?aB ?aS ?aL ?_; (case aP => exact rfl); (case aB => exact (by repeat (first | (with_reducible first | exact HB.out | apply below_alloc | apply pw_below_drewN | apply below_drew1) | exact HB.out))); (case aF => exact (fun _ _ => trivial)); (case aO => exact (by (with_reducible repeat (first | apply Kd.R_alloc | apply Kd.R_drewN | apply Kd.R_drew)); exact HO122.out)); (case aS => exact (below_size (by repeat (first | (with_reducible first | exact HB.out | apply below_alloc | apply pw_below_drewN | apply below_drew1) | exact HB.out)))); (case aL => have := LMc39.out; omega); intro v124 w46 ho hb hg hat; rw [← Ny123.out] at ho; have n0_ := Aside0.mk (hb); have n1_ := Aside0.mk (ho); clear HB; clear HO122; have HB := n0_; have HO125 := n1_; clear n0_ n1_; clear ho hb hg hat; obtain ⟨Ao47, co47, eo47⟩ := Kd.R_slice HO125.out; subst eo47; have q48 : ((ji40) : Int) ≤ ((y123.length : Int) : Int) := of_decide_eq_true (by first | (with_reducible assumption) | assumption); obtain ⟨i048, hi048, _, hsz48, _⟩ := info_parts info3; have hroom48 : y123.length ≤ co47 := (Kd.R_reads' HO125.out).2.1; have hC48 : Kd.F (Kd.int .i64) _ _ Ao47 y123.length y123 := (Kd.V_at (base := w.heap.size) (Kd.R_V HO125.out)).2.2; have hcut48 := cut_to (P := Tryz.prog) 53 3 .i64 Tryz.underlying53 hi048 Ao47 y123.length co47 (ji40) (of_decide_eq_true (by first | (with_reducible assumption) | assumption)) q48 hroom48; have hr48 := Kd.F_take (m := ((ji40) : Int).toNat) hC48 (by omega); have hy48 : y126.length = ((ji40) : Int).toNat := (by rw [Ny126.out, List.length_take]; omega); rw [← Ny126.out] at hr48; rw [← hy48] at hcut48; have HO130 := Aside0.mk (show Kd.V (Kd.int .i64) 3 _ w.heap.size _ (.slice Ao47 y126.length co47) y126 from Kd.V_mk (by omega) hr48); have HC130 := Aside0.mk (show y126.length ≤ co47 from by omega); clear hr48 hC48 hroom48 hi048 hsz48; have KY48 := Aside0.mk hy48; clear hy48; replace q48 := eq_true q48))
       go_loopg [10, 62] k1 (fun kq v10 v62 w' => ∃ (x10_2 : List (S80)) (x62_2 : Int), v62 = .int .i64 x62_2 ∧ Aside0 (acl_Spans.l1 kq l0 a1 a2 y123 x10_2 y126 (y126.length : Int) x62_2 = some r) ∧ Aside0 (kq ≤ k1) ∧ Aside0 (Kd.R (Kd.int .i64) 3 w' w.heap.size (fun _ => True) (.slice Ao47 y123.length co47) y123) ∧ Aside0 (Kd.R k80 80 w' w.heap.size (fun _ => True) v10 x10_2) ∧ Aside0 (Kd.V (Kd.int .i64) 3 w' w.heap.size (fun k_ => some k_ ≠ (v10 : Value).ownBlock) (.slice Ao47 y126.length co47) y126) ∧ Aside0 (Below w.heap.size w w'))
       case atStart => exact ⟨(([] : List (S80))), (0), (by first | rfl | (simp; done) | (simp [*]; done)), H', ⟨Nat.le_refl _⟩, ⟨by (with_reducible repeat (first | apply Kd.R_alloc | apply Kd.R_drewN | apply Kd.R_drew)); exact HO125.out⟩, ⟨by first | exact Kd.R_nil _ _ _ _ _ | exact Kd.N_nil _ _ _ _ _ | exact Kd.V_nil _ _ _ _ _ | exact Kd.Q_nil _ _ _ _ _ | exact Kd.S_nil _ _ _ _ _⟩, ⟨by (with_reducible repeat (first | apply Kd.V_alloc | apply Kd.V_drewN | apply Kd.V_drew)); exact Kd.V_mono HO130.out (fun _ hk => (by simp [Value.ownBlock]))⟩, ⟨by repeat (first | (with_reducible first | exact HB.out | apply below_alloc | apply pw_below_drewN | apply below_drew1) | exact HB.out)⟩⟩
       case round =>
        clear H'
        try clear c1
        try clear p1
        try clear q1
        try clear hx1
        try clear c2
        try clear p2
        try clear c3
        try clear c4
        try clear q4
        try clear c6
        try clear c6b0
        try clear p6
        try clear c7
        try clear c7b0
        try clear c8
        try clear c8b0
        try clear p10
        try clear q10
        try clear hx10
        try clear c12
        try clear c12b0
        try clear c15
        try clear c16
        try clear c17
        try clear c17b0
        try clear c18
        try clear c18b0
        try clear c19
        try clear c23
        try clear c30
        try clear c30b0
        try clear c31
        try clear c31b0
        try clear c32
        try clear c39
        try clear c41
        try clear c41b0
        try clear c41b1
        try clear c42
        try clear c42b0
        try clear c42b1
        try clear q48
        try clear hcz11_0
        try clear hcz11_1
        try clear hcz11_2
        try clear hcz11_3
        try clear hcz11_4
        try clear hcz13_0
        try clear hcz13_1
        try clear hcz13_2
        try clear hcz13_3
        try clear hcz13_4
        try clear hcz14_0
        try clear hcz14_1
        try clear hcz14_2
        try clear hcz14_3
        try clear hcz14_4
        try clear hcz20_0
        try clear hcz20_1
        try clear hcz20_2
        try clear hcz20_3
        try clear hcz20_4
        try clear hcz22_0
        try clear hcz22_1
        try clear hcz22_2
        try clear hcz22_3
        try clear hcz22_4
        try clear hcz24_0
        try clear hcz24_1
        try clear hcz24_2
        try clear hcz24_3
        try clear hcz24_4
        try clear hcz26_0
        try clear hcz26_1
        try clear hcz26_2
        try clear hcz26_3
        try clear hcz26_4
        try clear hcz27_0
        try clear hcz27_1
        try clear hcz27_2
        try clear hcz27_3
        try clear hcz27_4
        try clear hcz29_0
        try clear hcz29_1
        try clear hcz29_2
        try clear hcz29_3
        try clear hcz29_4
        try clear hcz33_0
        try clear hcz33_1
        try clear hcz33_2
        try clear hcz33_3
        try clear hcz33_4
        try clear hcz35_0
        try clear hcz35_1
        try clear hcz35_2
        try clear hcz35_3
        try clear hcz35_4
        try clear hcz36_0
        try clear hcz36_1
        try clear hcz36_2
        try clear hcz36_3
        try clear hcz36_4
        try clear hfz11_0
        try clear hfz11_1
        try clear hfz11_2
        try clear hfz11_3
        try clear hfz11_4
        try clear hfz13_0
        try clear hfz13_1
        try clear hfz13_2
        try clear hfz13_3
        try clear hfz13_4
        try clear hfz14_0
        try clear hfz14_1
        try clear hfz14_2
        try clear hfz14_3
        try clear hfz14_4
        try clear hfz20_0
        try clear hfz20_1
        try clear hfz20_2
        try clear hfz20_3
        try clear hfz20_4
        try clear hfz22_0
        try clear hfz22_1
        try clear hfz22_2
        try clear hfz22_3
        try clear hfz22_4
        try clear hfz24_0
        try clear hfz24_1
        try clear hfz24_2
        try clear hfz24_3
        try clear hfz24_4
        try clear hfz26_0
        try clear hfz26_1
        try clear hfz26_2
        try clear hfz26_3
        try clear hfz26_4
        try clear hfz27_0
        try clear hfz27_1
        try clear hfz27_2
        try clear hfz27_3
        try clear hfz27_4
        try clear hfz29_0
        try clear hfz29_1
        try clear hfz29_2
        try clear hfz29_3
        try clear hfz29_4
        try clear hfz33_0
        try clear hfz33_1
        try clear hfz33_2
        try clear hfz33_3
        try clear hfz33_4
        try clear hfz35_0
        try clear hfz35_1
        try clear hfz35_2
        try clear hfz35_3
        try clear hfz35_4
        try clear hfz36_0
        try clear hfz36_1
        try clear hfz36_2
        try clear hfz36_3
        try clear hfz36_4
        try clear hx108_0
        try clear hx108_1
        try clear hx108_2
        try clear hx108_3
        try clear hx108_4
        try clear p1
        try clear p10
        try clear p108
        try clear p2
        try clear q1
        try clear q10
        try clear q108
        try clear q48
        obtain ⟨x10_2, x62_2, rfl, HA, HK2, HO_7, HO_10, HO_60, HB⟩ := hrel
        cases gk with
        | zero => exact absurd HA.out (by simp [acl_Spans.l1])
        | succ k2 =>
         have H := HA.out
         clear HA
         simp only [acl_Spans.l1] at H
         by_cases c49 : x62_2 < (y126.length : Int)
         ·rw [if_pos c49] at H
          have c49b0 : decide (x62_2 < (y126.length : Int)) = true := decide_eq_true c49
          clear c49
          by_cases c50 : 0 ≤ x62_2
          ·rw [if_pos c50] at H
           have c50b0 : decide (0 ≤ x62_2) = true := decide_eq_true c50
           clear c50
           by_cases c51 : x62_2 < (y126.length : Int)
           ·rw [if_pos c51] at H
            have c51b0 : decide (x62_2 < (y126.length : Int)) = true := decide_eq_true c51
            clear c51
            replace H := Option.bind_eq_some_iff.mp H
            obtain ⟨t132, A520, H⟩ := H
            replace H : (if t132 = true then (if 0 ≤ (wrap64 (x62_2 + 1)) then (if (wrap64 (x62_2 + 1)) < (y123.length : Int) then (if (x10_2.length : Int) > 0 then (if 0 ≤ (wrap64 ((x10_2.length : Int) - 1)) then (if (wrap64 ((x10_2.length : Int) - 1)) < (x10_2.length : Int) then (if ((rd_T80 x10_2 (wrap64 ((x10_2.length : Int) - 1))).f1) = (wrap64 ((rd y126 x62_2) - 1)) then (acl_Spans.l1 k2 l0 a1 a2 y123 (x10_2.set ((wrap64 ((x10_2.length : Int) - 1)) : Int).toNat (⟨(rd_T80 x10_2 (wrap64 ((x10_2.length : Int) - 1))).f0, wrap64 ((rd y123 (wrap64 (x62_2 + 1))) - 1)⟩ : S80)) y126 (y126.length : Int) (wrap64 (x62_2 + 1))) else (if x10_2.length < 8796093022208 then (acl_Spans.l1 k2 l0 a1 a2 y123 (x10_2 ++ [(⟨rd y126 x62_2, wrap64 ((rd y123 (wrap64 (x62_2 + 1))) - 1)⟩ : S80)]) y126 (y126.length : Int) (wrap64 (x62_2 + 1))) else (none))) else (none)) else (none)) else (if x10_2.length < 8796093022208 then (acl_Spans.l1 k2 l0 a1 a2 y123 (x10_2 ++ [(⟨rd y126 x62_2, wrap64 ((rd y123 (wrap64 (x62_2 + 1))) - 1)⟩ : S80)]) y126 (y126.length : Int) (wrap64 (x62_2 + 1))) else (none))) else (none)) else (none)) else (acl_Spans.l1 k2 l0 a1 a2 y123 x10_2 y126 (y126.length : Int) (wrap64 (x62_2 + 1)))) = some r := H
            have A52 := Aside0.mk A520
            clear A520
            by_cases c53 : t132 = true
            ·subst c53
             have H1 : (if 0 ≤ (wrap64 (x62_2 + 1)) then (if (wrap64 (x62_2 + 1)) < (y123.length : Int) then (if (x10_2.length : Int) > 0 then (if 0 ≤ (wrap64 ((x10_2.length : Int) - 1)) then (if (wrap64 ((x10_2.length : Int) - 1)) < (x10_2.length : Int) then (if ((rd_T80 x10_2 (wrap64 ((x10_2.length : Int) - 1))).f1) = (wrap64 ((rd y126 x62_2) - 1)) then (acl_Spans.l1 k2 l0 a1 a2 y123 (x10_2.set ((wrap64 ((x10_2.length : Int) - 1)) : Int).toNat (⟨(rd_T80 x10_2 (wrap64 ((x10_2.length : Int) - 1))).f0, wrap64 ((rd y123 (wrap64 (x62_2 + 1))) - 1)⟩ : S80)) y126 (y126.length : Int) (wrap64 (x62_2 + 1))) else (if x10_2.length < 8796093022208 then (acl_Spans.l1 k2 l0 a1 a2 y123 (x10_2 ++ [(⟨rd y126 x62_2, wrap64 ((rd y123 (wrap64 (x62_2 + 1))) - 1)⟩ : S80)]) y126 (y126.length : Int) (wrap64 (x62_2 + 1))) else (none))) else (none)) else (none)) else (if x10_2.length < 8796093022208 then (acl_Spans.l1 k2 l0 a1 a2 y123 (x10_2 ++ [(⟨rd y126 x62_2, wrap64 ((rd y123 (wrap64 (x62_2 + 1))) - 1)⟩ : S80)]) y126 (y126.length : Int) (wrap64 (x62_2 + 1))) else (none))) else (none)) else (none)) = some r := by rw [if_pos rfl] at H; exact H
             clear H
             have H := H1
             clear H1
             obtain ⟨ji54, hji54⟩ : ∃ j_ : Int, (wrap64 (x62_2 + 1)) = j_ := ⟨_, rfl⟩
             replace H : (if 0 ≤ (ji54) then (if (ji54) < (y123.length : Int) then (if (x10_2.length : Int) > 0 then (if 0 ≤ (wrap64 ((x10_2.length : Int) - 1)) then (if (wrap64 ((x10_2.length : Int) - 1)) < (x10_2.length : Int) then (if ((rd_T80 x10_2 (wrap64 ((x10_2.length : Int) - 1))).f1) = (wrap64 ((rd y126 x62_2) - 1)) then (acl_Spans.l1 k2 l0 a1 a2 y123 (x10_2.set ((wrap64 ((x10_2.length : Int) - 1)) : Int).toNat (⟨(rd_T80 x10_2 (wrap64 ((x10_2.length : Int) - 1))).f0, wrap64 ((rd y123 (ji54)) - 1)⟩ : S80)) y126 (y126.length : Int) ji54) else (if x10_2.length < 8796093022208 then (acl_Spans.l1 k2 l0 a1 a2 y123 (x10_2 ++ [(⟨rd y126 x62_2, wrap64 ((rd y123 (ji54)) - 1)⟩ : S80)]) y126 (y126.length : Int) ji54) else (none))) else (none)) else (none)) else (if x10_2.length < 8796093022208 then (acl_Spans.l1 k2 l0 a1 a2 y123 (x10_2 ++ [(⟨rd y126 x62_2, wrap64 ((rd y123 (ji54)) - 1)⟩ : S80)]) y126 (y126.length : Int) ji54) else (none))) else (none)) else (none)) = some r := by first | (rw [hji54] at H; exact H) | (simp only [hji54] at H ⊢; exact H)
             (try rw [hji54] at A52)
             have hji54w : (IntKind.i64.wrap (x62_2 + 1)) = ji54 := (i64_w _).trans hji54
             by_cases c55 : 0 ≤ (ji54)
             ·rw [if_pos c55] at H
              have c55b0 : decide (0 ≤ (ji54)) = true := decide_eq_true c55
              clear c55
              by_cases c56 : (ji54) < (y123.length : Int)
              ·rw [if_pos c56] at H
               have c56b0 : decide ((ji54) < (y123.length : Int)) = true := decide_eq_true c56
               clear c56
               by_cases c57 : (x10_2.length : Int) > 0
               ·rw [if_pos c57] at H
                have c57b0 : decide (0 < (x10_2.length : Int)) = true := decide_eq_true c57
                have c57b1 : decide (0 < x10_2.length) = true := decide_eq_true (by omega)
                clear c57
                obtain ⟨ji58, hji58⟩ : ∃ j_ : Int, (wrap64 ((x10_2.length : Int) - 1)) = j_ := ⟨_, rfl⟩
                replace H : (if 0 ≤ (ji58) then (if (ji58) < (x10_2.length : Int) then (if ((rd_T80 x10_2 (ji58)).f1) = (wrap64 ((rd y126 x62_2) - 1)) then (acl_Spans.l1 k2 l0 a1 a2 y123 (x10_2.set ((ji58) : Int).toNat (⟨(rd_T80 x10_2 (ji58)).f0, wrap64 ((rd y123 (ji54)) - 1)⟩ : S80)) y126 (y126.length : Int) ji54) else (if x10_2.length < 8796093022208 then (acl_Spans.l1 k2 l0 a1 a2 y123 (x10_2 ++ [(⟨rd y126 x62_2, wrap64 ((rd y123 (ji54)) - 1)⟩ : S80)]) y126 (y126.length : Int) ji54) else (none))) else (none)) else (none)) = some r := by first | (rw [hji58] at H; exact H) | (simp only [hji58] at H ⊢; exact H)
                (try rw [hji58] at A52)
                have hji58w : (IntKind.i64.wrap ((x10_2.length : Int) - 1)) = ji58 := (i64_w _).trans hji58
                by_cases c59 : 0 ≤ (ji58)
                ·rw [if_pos c59] at H
                 have c59b0 : decide (0 ≤ (ji58)) = true := decide_eq_true c59
                 clear c59
                 by_cases c60 : (ji58) < (x10_2.length : Int)
                 ·rw [if_pos c60] at H
                  have c60b0 : decide ((ji58) < (x10_2.length : Int)) = true := decide_eq_true c60
                  clear c60
                  by_cases c61 : ((rd_T80 x10_2 (ji58)).f1) = (wrap64 ((rd y126 x62_2) - 1))
                  ·rw [if_pos c61] at H
                   have c61b0 : (((rd_T80 x10_2 (ji58)).f1) == (wrap64 ((rd y126 x62_2) - 1))) = true := beq_iff_eq.mpr c61
                   have c61b1 : (((rd_T80 x10_2 (ji58)).f1) != (wrap64 ((rd y126 x62_2) - 1))) = false := bne_eq_false_iff_eq.mpr c61
                   clear c61
                   obtain ⟨y135, hy135⟩ : ∃ y_ : List (S80), y_ = (x10_2.set ((ji58) : Int).toNat (⟨(rd_T80 x10_2 (ji58)).f0, wrap64 ((rd y123 (ji54)) - 1)⟩ : S80)) := ⟨_, rfl⟩
                   replace H : (acl_Spans.l1 k2 l0 a1 a2 y123 y135 y126 (y126.length : Int) ji54) = some r := by first | (rw [hy135]; with_reducible exact H) | (have H2_ := (Option.bind_some _ _).symm.trans H; rw [hy135]; with_reducible exact H2_) | (have H2_ := (Option.bind_some _ _).symm.trans H; with_reducible exact H2_) | with_reducible exact H | (rw [hy135]; exact H) | exact H
                   have Ny135 := Aside0.mk hy135
                   clear hy135
                   have H' := Aside0.mk H
                   clear H
                   have p131 : 0 ≤ (x62_2 : Int) := of_decide_eq_true (by first | (with_reducible assumption) | assumption)
                   have q131 : x62_2 < (y126.length : Int) := of_decide_eq_true (by first | (with_reducible assumption) | assumption)
                   obtain ⟨ad131, e131, hx131_0⟩ := Kd.at_int (Kd.V_reads' HO_60.out).2.2 x62_2 p131 q131
                   cases e131
                   replace p131 := eq_true p131
                   replace q131 := eq_true q131
                   go_wp2_with (first | ((with_reducible refine gate_callee (f := 62) rfl ?_); refine goesL_ (some 71) rfl rfl Tryz.func62 (by kernel_rfl) rfl #[.slice A0 l0.length c0, .int .i64 a1, .int .i64 a2, .int .i64 (rd y126 x62_2)] rfl (by (try simp only [List.map_toArray, List.map_cons, List.map_nil]); first | done | rfl | (simp only [List.length_drop, List.length_take]; rfl)) ?_; (with_reducible refine (acl_Allows.calls k2 _ _ l0 a1 a2 (rd y126 x62_2) true _ ?side1 ?side2 A52.out).mono ?_); (case side1 => repeat (first | exact (Kd.C_below HR0.out HB.out) | (with_reducible refine Kd.C_alloc ?_ _) | (with_reducible refine Kd.C_drewN ?_ _) | (with_reducible refine Kd.C_drew ?_))); (case side2 => exact HC0.out); rintro e w63 ⟨rfl, hb⟩; refine ⟨_, rfl, ?_⟩; have n0_ := Aside0.mk (Kd.R_below (by (with_reducible repeat (first | apply Kd.R_alloc | apply Kd.R_drewN | apply Kd.R_drew)); exact HO_7.out) hb); have n1_ := Aside0.mk (Kd.R_below (by (with_reducible repeat (first | apply Kd.R_alloc | apply Kd.R_drewN | apply Kd.R_drew)); exact HO_10.out) hb); have n2_ := Aside0.mk (Kd.V_below (by (with_reducible repeat (first | apply Kd.V_alloc | apply Kd.V_drewN | apply Kd.V_drew)); exact HO_60.out) hb); have n3_ := Aside0.mk (below_step (by repeat (first | (with_reducible first | exact HB.out | apply below_alloc | apply pw_below_drewN | apply below_drew1) | exact HB.out)) hb); clear HO_7; clear HO_10; clear HO_60; clear HB; have HO_7 := n0_; have HO_10 := n1_; have HO_60 := n2_; have HB := n3_; clear n0_ n1_ n2_ n3_; (try clear hb); (try clear hb2); (try clear hk); (try clear hi); have p133 : 0 ≤ ((ji54) : Int) := of_decide_eq_true (by first | (with_reducible assumption) | assumption); have q133 : (ji54) < (y123.length : Int) := of_decide_eq_true (by first | (with_reducible assumption) | assumption); obtain ⟨ad133, e133, hx133_0⟩ := Kd.at_int (Kd.R_reads' HO_7.out).2.2 (ji54) p133 q133; obtain rfl : ad131 = ad133 := (by injection e133); replace p133 := eq_true p133; replace q133 := eq_true q133; obtain ⟨Ao64, co64, eo64⟩ := Kd.R_slice HO_10.out; subst eo64; have p134 : 0 ≤ ((ji58) : Int) := of_decide_eq_true (by first | (with_reducible assumption) | assumption); have q134 : (ji58) < (x10_2.length : Int) := of_decide_eq_true (by first | (with_reducible assumption) | assumption); obtain ⟨ad134, e134, hx134_0, hx134_1⟩ := at_T80 (Kd.R_reads' HO_10.out).2.2 (ji58) p134 q134; cases e134; replace p134 := eq_true p134; replace q134 := eq_true q134; have p62 : 0 ≤ ((ji58) : Int) := of_decide_eq_true (by first | (with_reducible assumption) | assumption); have q62 : ((ji58) : Int) < ((x10_2.length : Int) : Int) := of_decide_eq_true (by first | (with_reducible assumption) | assumption); obtain ⟨go62, co62, eo62, gb62, gl62, cl62, HG62⟩ := Kd.R_form HO_10.out (by omega); (first | cases eo62 | (injection eo62 with ea_ en_ ec_; (first | subst ea_ | (injection ea_ with ea_; subst ea_)); subst ec_; clear en_)); have GB62 := Aside0.mk gb62; have GG62 := Aside0.mk HG62; clear gb62 gl62 HG62; (first | simp only [add_plain] at hx134_0 | skip); (first | simp only [add_plain] at hx134_1 | skip); obtain ⟨ce62, hcl62, hM62, hcc62, hfr62⟩ := Kd.R_elem HO_10.out z80 ((ji58) : Int) p62 q62; obtain rfl := k80_openM hM62; have hx62_0 : w63.cell? ⟨go62, ((ji58) : Int).toNat * 2, none⟩ = some (.int .i64 ((rd_T80 x10_2 (ji58)).f0)) := hcc62 0 _ rfl; have hx62_1 : w63.cell? ⟨go62, ((ji58) : Int).toNat * 2 + 1, none⟩ = some (.int .i64 ((rd_T80 x10_2 (ji58)).f1)) := hcc62 1 _ rfl; have hf62_0 : w63.frozen? ⟨go62, ((ji58) : Int).toNat * 2, none⟩ = false := hfr62 0; have hf62_1 : w63.frozen? ⟨go62, ((ji58) : Int).toNat * 2 + 1, none⟩ = false := hfr62 1; clear hcl62 hcc62 hfr62 hM62; replace p62 := eq_true p62; replace q62 := eq_true q62; have HX65 := Aside0.mk (show Kd.R k80 80 w63 w.heap.size (fun _ => True) (.slice (some ⟨go62, 0, none⟩) x10_2.length co64) x10_2 from (by (with_reducible repeat (first | apply Kd.R_alloc | apply Kd.R_drewN | apply Kd.R_drew)); exact HO_10.out)); obtain ⟨ce65, hcl65, hM65, hcc65, hfr65⟩ := Kd.R_elem HX65.out z80 ((ji58) : Int) (of_decide_eq_true (by first | (with_reducible assumption) | assumption)) (by have h_ : ((ji58) : Int) < ((x10_2.length : Int) : Int) := of_decide_eq_true (by first | (with_reducible assumption) | assumption); first | exact h_ | (have e_ := (Kd.R_reads' HO_10.out).1; omega) | simpa using h_); obtain rfl := k80_openM hM65; have HP65 := Kd.R_seg HX65.out ((ji58) : Int) (of_decide_eq_true (by first | (with_reducible assumption) | assumption)) (by have h_ : ((ji58) : Int) < ((x10_2.length : Int) : Int) := of_decide_eq_true (by first | (with_reducible assumption) | assumption); first | exact h_ | (have e_ := (Kd.R_reads' HO_10.out).1; omega) | simpa using h_) (seg := [.int .i64 (wrap64 ((rd y123 (ji54)) - 1))]) (j := 1) hcl65 hcc65 (show 2 ≤ 2 from by decide) (x' := (⟨(rd_T80 x10_2 (ji58)).f0, wrap64 ((rd y123 (ji54)) - 1)⟩ : S80)) (k80_mkM _ _ _ (⟨(rd_T80 x10_2 (ji58)).f0, wrap64 ((rd y123 (ji54)) - 1)⟩ : S80) ) (fun _ hk => hk); have hx65_1 := hcc65 1 _ rfl; (try simp only [show (k80).sz = 2 from rfl, Nat.mul_one, Nat.add_zero] at hx65_1); have hf65_1 := hfr65 1; (try simp only [show (k80).sz = 2 from rfl, Nat.mul_one, Nat.add_zero] at hf65_1); clear hcl65 hcc65 hfr65 hM65) | ((with_reducible refine gate_store (t := 3) (p := 99) rfl ?_); refine store_event (t := 3) (p := 99) (v := ?vo_w66) (w1 := (w63.setCell ⟨go62, ((ji58) : Int).toNat * 2 + 1, none⟩ (.int .i64 (wrap64 ((rd y123 (ji54)) - 1))))) ?hg ?ho ?hn ?hr ?_; (case ho => rfl); (case hg => rfl); (case hn => rfl); (case hr => first | (go_simp; done) | (go_simp; rfl)); intro w66 hw; have hg : w63.grownBy w66 (some go62) := (by rw [hw]; exact HP65.2); have hp_ : Kd.R k80 80 w66 w.heap.size (fun _ => True) (.slice (some ⟨go62, 0, none⟩) x10_2.length co64) y135 := (by rw [hw, Ny135.out]; exact HP65.1); clear HP65; have n0_ := Aside0.mk (Kd.R_over' (v := (.slice (some ⟨go62, 0, none⟩) x10_2.length co64)) (by (with_reducible repeat (first | apply Kd.R_alloc | apply Kd.R_drewN | apply Kd.R_drew)); exact HO_7.out) (Kd.R_typed HO_10.out) (by decide) hg); have n1_ := Aside0.mk (hp_); have n2_ := Aside0.mk (Kd.V_afterv (v := (.slice (some ⟨go62, 0, none⟩) x10_2.length co64)) (v1 := (.slice (some ⟨go62, 0, none⟩) x10_2.length co64)) (ok := (fun _ => True)) (by (with_reducible repeat (first | apply Kd.V_alloc | apply Kd.V_drewN | apply Kd.V_drew)); exact Kd.V_mono HO_60.out (fun _ hk => ⟨trivial, hk⟩)) hg (.inl rfl)); have n3_ := Aside0.mk ((by rw [hw]; exact below_set (HB.out) GB62.out : Below w.heap.size w w66)); clear HO_7; clear HO_10; clear HO_60; clear HB; have HO_7 := n0_; have HO_10 := n1_; have HO_60 := n2_; have HB := n3_; clear n0_ n1_ n2_ n3_; clear hg hw hp_))
                   go_roundg k2
                   case measure => have := HK1.out; have := HK2.out; omega
                   case rel => exact ⟨(y135), (ji54), (by first | rfl | (simp; done) | (simp only [← hji54] <;> (first | rfl | simp)) | (simp [*]; done)), H', ⟨by have := HK1.out; have := HK2.out; omega⟩, ⟨by (with_reducible repeat (first | apply Kd.R_alloc | apply Kd.R_drewN | apply Kd.R_drew)); exact HO_7.out⟩, ⟨by (with_reducible repeat (first | apply Kd.R_alloc | apply Kd.R_drewN | apply Kd.R_drew)); exact HO_10.out⟩, ⟨by (with_reducible repeat (first | apply Kd.V_alloc | apply Kd.V_drewN | apply Kd.V_drew)); exact Kd.V_mono HO_60.out (fun _ hk => hk.2)⟩, ⟨by repeat (first | (with_reducible first | exact HB.out | apply below_alloc | apply pw_below_drewN | apply below_drew1) | exact HB.out)⟩⟩
                  ·rw [if_neg c61] at H
                   have c61b0 : (((rd_T80 x10_2 (ji58)).f1) == (wrap64 ((rd y126 x62_2) - 1))) = false := beq_eq_false_iff_ne.mpr c61
                   have c61b1 : (((rd_T80 x10_2 (ji58)).f1) != (wrap64 ((rd y126 x62_2) - 1))) = true := bne_iff_ne.mpr c61
                   by_cases c67 : x10_2.length < 8796093022208
                   ·rw [if_pos c67] at H
                    have LMc67 := Aside0.mk c67
                    clear c67
                    obtain ⟨y136, hy136⟩ : ∃ y_ : List (S80), y_ = (x10_2 ++ [(⟨rd y126 x62_2, wrap64 ((rd y123 (ji54)) - 1)⟩ : S80)]) := ⟨_, rfl⟩
                    replace H : (acl_Spans.l1 k2 l0 a1 a2 y123 y136 y126 (y126.length : Int) ji54) = some r := by first | (rw [hy136]; with_reducible exact H) | (have H2_ := (Option.bind_some _ _).symm.trans H; rw [hy136]; with_reducible exact H2_) | (have H2_ := (Option.bind_some _ _).symm.trans H; with_reducible exact H2_) | with_reducible exact H | (rw [hy136]; exact H) | exact H
                    have Ny136 := Aside0.mk hy136
                    clear hy136
                    have H' := Aside0.mk H
                    clear H
                    have p131 : 0 ≤ (x62_2 : Int) := of_decide_eq_true (by first | (with_reducible assumption) | assumption)
                    have q131 : x62_2 < (y126.length : Int) := of_decide_eq_true (by first | (with_reducible assumption) | assumption)
                    obtain ⟨ad131, e131, hx131_0⟩ := Kd.at_int (Kd.V_reads' HO_60.out).2.2 x62_2 p131 q131
                    cases e131
                    replace p131 := eq_true p131
                    replace q131 := eq_true q131
                    go_wp2_with (first | ((with_reducible refine gate_callee (f := 62) rfl ?_); refine goesL_ (some 71) rfl rfl Tryz.func62 (by kernel_rfl) rfl #[.slice A0 l0.length c0, .int .i64 a1, .int .i64 a2, .int .i64 (rd y126 x62_2)] rfl (by (try simp only [List.map_toArray, List.map_cons, List.map_nil]); first | done | rfl | (simp only [List.length_drop, List.length_take]; rfl)) ?_; (with_reducible refine (acl_Allows.calls k2 _ _ l0 a1 a2 (rd y126 x62_2) true _ ?side1 ?side2 A52.out).mono ?_); (case side1 => repeat (first | exact (Kd.C_below HR0.out HB.out) | (with_reducible refine Kd.C_alloc ?_ _) | (with_reducible refine Kd.C_drewN ?_ _) | (with_reducible refine Kd.C_drew ?_))); (case side2 => exact HC0.out); rintro e w68 ⟨rfl, hb⟩; refine ⟨_, rfl, ?_⟩; have n0_ := Aside0.mk (Kd.R_below (by (with_reducible repeat (first | apply Kd.R_alloc | apply Kd.R_drewN | apply Kd.R_drew)); exact HO_7.out) hb); have n1_ := Aside0.mk (Kd.R_below (by (with_reducible repeat (first | apply Kd.R_alloc | apply Kd.R_drewN | apply Kd.R_drew)); exact HO_10.out) hb); have n2_ := Aside0.mk (Kd.V_below (by (with_reducible repeat (first | apply Kd.V_alloc | apply Kd.V_drewN | apply Kd.V_drew)); exact HO_60.out) hb); have n3_ := Aside0.mk (below_step (by repeat (first | (with_reducible first | exact HB.out | apply below_alloc | apply pw_below_drewN | apply below_drew1) | exact HB.out)) hb); clear HO_7; clear HO_10; clear HO_60; clear HB; have HO_7 := n0_; have HO_10 := n1_; have HO_60 := n2_; have HB := n3_; clear n0_ n1_ n2_ n3_; (try clear hb); (try clear hb2); (try clear hk); (try clear hi); have p133 : 0 ≤ ((ji54) : Int) := of_decide_eq_true (by first | (with_reducible assumption) | assumption); have q133 : (ji54) < (y123.length : Int) := of_decide_eq_true (by first | (with_reducible assumption) | assumption); obtain ⟨ad133, e133, hx133_0⟩ := Kd.at_int (Kd.R_reads' HO_7.out).2.2 (ji54) p133 q133; obtain rfl : ad131 = ad133 := (by injection e133); replace p133 := eq_true p133; replace q133 := eq_true q133; obtain ⟨Ao69, co69, eo69⟩ := Kd.R_slice HO_10.out; subst eo69; have p134 : 0 ≤ ((ji58) : Int) := of_decide_eq_true (by first | (with_reducible assumption) | assumption); have q134 : (ji58) < (x10_2.length : Int) := of_decide_eq_true (by first | (with_reducible assumption) | assumption); obtain ⟨ad134, e134, hx134_0, hx134_1⟩ := at_T80 (Kd.R_reads' HO_10.out).2.2 (ji58) p134 q134; cases e134; replace p134 := eq_true p134; replace q134 := eq_true q134) | ((with_reducible refine gate_builtin (b := .append) (xs := #[.tmp 100, .tmp 104]) rfl ?_); at_builtin; refine Kd.R_append k80 (w0 := w) w.heap.size rfl (.tmp 100) (.tmp 104) 45 80 (.agg #[(.int .i64 0), (.int .i64 0)]) 16 rfl Tryz.underlying45 info80 rfl (by decide) (by omega) (.slice (some ad134) x10_2.length co69) x10_2 (⟨rd y126 x62_2, wrap64 ((rd y123 (ji54)) - 1)⟩ : S80) [.int .i64 (rd y126 x62_2), .int .i64 (wrap64 ((rd y123 (ji54)) - 1))] (fun _ => True) (fun _ => False) rfl rfl ?aP (fun _ hk => hk.elim) ?aF ?aO ?aB ?aS ?aL ?_; (case aP => exact k80_mkM _ _ _ (⟨rd y126 x62_2, wrap64 ((rd y123 (ji54)) - 1)⟩ : S80)); (case aB => exact (by repeat (first | (with_reducible first | exact HB.out | apply below_alloc | apply pw_below_drewN | apply below_drew1) | exact HB.out))); (case aF => exact (fun _ _ => trivial)); (case aO => exact (by (with_reducible repeat (first | apply Kd.R_alloc | apply Kd.R_drewN | apply Kd.R_drew)); exact HO_10.out)); (case aS => exact (below_size (by repeat (first | (with_reducible first | exact HB.out | apply below_alloc | apply pw_below_drewN | apply below_drew1) | exact HB.out)))); (case aL => have := LMc67.out; omega); intro v137 w70 ho hb hg hat; rw [← Ny136.out] at ho; have n0_ := Aside0.mk (Kd.R_over' (by (with_reducible repeat (first | apply Kd.R_alloc | apply Kd.R_drewN | apply Kd.R_drew)); exact HO_7.out) (Kd.R_typed (by (with_reducible repeat (first | apply Kd.R_alloc | apply Kd.R_drewN | apply Kd.R_drew)); exact HO_10.out)) (by decide) hg); have n1_ := Aside0.mk (Kd.V_afterv (ok := (fun _ => True)) (by (with_reducible repeat (first | apply Kd.V_alloc | apply Kd.V_drewN | apply Kd.V_drew)); exact Kd.V_mono HO_60.out (fun _ hk => ⟨trivial, hk⟩)) hg hat); have n2_ := Aside0.mk (hb); have n3_ := Aside0.mk (ho); clear HO_7; clear HO_60; clear HB; clear HO_10; have HO_7 := n0_; have HO_60 := n1_; have HB := n2_; have HO138 := n3_; clear n0_ n1_ n2_ n3_; clear ho hb hg hat))
                    go_roundg k2
                    case measure => have := HK1.out; have := HK2.out; omega
                    case rel => exact ⟨(y136), (ji54), (by first | rfl | (simp; done) | (simp only [← hji54] <;> (first | rfl | simp)) | (simp [*]; done)), H', ⟨by have := HK1.out; have := HK2.out; omega⟩, ⟨by (with_reducible repeat (first | apply Kd.R_alloc | apply Kd.R_drewN | apply Kd.R_drew)); exact HO_7.out⟩, ⟨by (with_reducible repeat (first | apply Kd.R_alloc | apply Kd.R_drewN | apply Kd.R_drew)); exact HO138.out⟩, ⟨by (with_reducible repeat (first | apply Kd.V_alloc | apply Kd.V_drewN | apply Kd.V_drew)); exact Kd.V_mono HO_60.out (fun _ hk => hk.2)⟩, ⟨by repeat (first | (with_reducible first | exact HB.out | apply below_alloc | apply pw_below_drewN | apply below_drew1) | exact HB.out)⟩⟩
                   ·rw [if_neg c67] at H
                    exact absurd H (by simp)
                 ·rw [if_neg c60] at H
                  exact absurd H (by simp)
                ·rw [if_neg c59] at H
                 exact absurd H (by simp)
               ·rw [if_neg c57] at H
                have c57b0 : decide (0 < (x10_2.length : Int)) = false := decide_eq_false c57
                have c57b1 : decide (0 < x10_2.length) = false := decide_eq_false (by omega)
                clear c57
                by_cases c71 : x10_2.length < 8796093022208
                ·rw [if_pos c71] at H
                 have LMc71 := Aside0.mk c71
                 clear c71
                 obtain ⟨y139, hy139⟩ : ∃ y_ : List (S80), y_ = (x10_2 ++ [(⟨rd y126 x62_2, wrap64 ((rd y123 (ji54)) - 1)⟩ : S80)]) := ⟨_, rfl⟩
                 replace H : (acl_Spans.l1 k2 l0 a1 a2 y123 y139 y126 (y126.length : Int) ji54) = some r := by first | (rw [hy139]; with_reducible exact H) | (have H2_ := (Option.bind_some _ _).symm.trans H; rw [hy139]; with_reducible exact H2_) | (have H2_ := (Option.bind_some _ _).symm.trans H; with_reducible exact H2_) | with_reducible exact H | (rw [hy139]; exact H) | exact H
                 have Ny139 := Aside0.mk hy139
                 clear hy139
                 have H' := Aside0.mk H
                 clear H
                 have p131 : 0 ≤ (x62_2 : Int) := of_decide_eq_true (by first | (with_reducible assumption) | assumption)
                 have q131 : x62_2 < (y126.length : Int) := of_decide_eq_true (by first | (with_reducible assumption) | assumption)
                 obtain ⟨ad131, e131, hx131_0⟩ := Kd.at_int (Kd.V_reads' HO_60.out).2.2 x62_2 p131 q131
                 cases e131
                 replace p131 := eq_true p131
                 replace q131 := eq_true q131
                 go_wp2_with (first | ((with_reducible refine gate_callee (f := 62) rfl ?_); refine goesL_ (some 71) rfl rfl Tryz.func62 (by kernel_rfl) rfl #[.slice A0 l0.length c0, .int .i64 a1, .int .i64 a2, .int .i64 (rd y126 x62_2)] rfl (by (try simp only [List.map_toArray, List.map_cons, List.map_nil]); first | done | rfl | (simp only [List.length_drop, List.length_take]; rfl)) ?_; (with_reducible refine (acl_Allows.calls k2 _ _ l0 a1 a2 (rd y126 x62_2) true _ ?side1 ?side2 A52.out).mono ?_); (case side1 => repeat (first | exact (Kd.C_below HR0.out HB.out) | (with_reducible refine Kd.C_alloc ?_ _) | (with_reducible refine Kd.C_drewN ?_ _) | (with_reducible refine Kd.C_drew ?_))); (case side2 => exact HC0.out); rintro e w72 ⟨rfl, hb⟩; refine ⟨_, rfl, ?_⟩; have n0_ := Aside0.mk (Kd.R_below (by (with_reducible repeat (first | apply Kd.R_alloc | apply Kd.R_drewN | apply Kd.R_drew)); exact HO_7.out) hb); have n1_ := Aside0.mk (Kd.R_below (by (with_reducible repeat (first | apply Kd.R_alloc | apply Kd.R_drewN | apply Kd.R_drew)); exact HO_10.out) hb); have n2_ := Aside0.mk (Kd.V_below (by (with_reducible repeat (first | apply Kd.V_alloc | apply Kd.V_drewN | apply Kd.V_drew)); exact HO_60.out) hb); have n3_ := Aside0.mk (below_step (by repeat (first | (with_reducible first | exact HB.out | apply below_alloc | apply pw_below_drewN | apply below_drew1) | exact HB.out)) hb); clear HO_7; clear HO_10; clear HO_60; clear HB; have HO_7 := n0_; have HO_10 := n1_; have HO_60 := n2_; have HB := n3_; clear n0_ n1_ n2_ n3_; (try clear hb); (try clear hb2); (try clear hk); (try clear hi); have p133 : 0 ≤ ((ji54) : Int) := of_decide_eq_true (by first | (with_reducible assumption) | assumption); have q133 : (ji54) < (y123.length : Int) := of_decide_eq_true (by first | (with_reducible assumption) | assumption); obtain ⟨ad133, e133, hx133_0⟩ := Kd.at_int (Kd.R_reads' HO_7.out).2.2 (ji54) p133 q133; obtain rfl : ad131 = ad133 := (by injection e133); replace p133 := eq_true p133; replace q133 := eq_true q133; obtain ⟨Ao73, co73, eo73⟩ := Kd.R_slice HO_10.out; subst eo73) | ((with_reducible refine gate_builtin (b := .append) (xs := #[.tmp 100, .tmp 104]) rfl ?_); at_builtin; refine Kd.R_append k80 (w0 := w) w.heap.size rfl (.tmp 100) (.tmp 104) 45 80 (.agg #[(.int .i64 0), (.int .i64 0)]) 16 rfl Tryz.underlying45 info80 rfl (by decide) (by omega) (.slice Ao73 x10_2.length co73) x10_2 (⟨rd y126 x62_2, wrap64 ((rd y123 (ji54)) - 1)⟩ : S80) [.int .i64 (rd y126 x62_2), .int .i64 (wrap64 ((rd y123 (ji54)) - 1))] (fun _ => True) (fun _ => False) rfl rfl ?aP (fun _ hk => hk.elim) ?aF ?aO ?aB ?aS ?aL ?_; (case aP => exact k80_mkM _ _ _ (⟨rd y126 x62_2, wrap64 ((rd y123 (ji54)) - 1)⟩ : S80)); (case aB => exact (by repeat (first | (with_reducible first | exact HB.out | apply below_alloc | apply pw_below_drewN | apply below_drew1) | exact HB.out))); (case aF => exact (fun _ _ => trivial)); (case aO => exact (by (with_reducible repeat (first | apply Kd.R_alloc | apply Kd.R_drewN | apply Kd.R_drew)); exact HO_10.out)); (case aS => exact (below_size (by repeat (first | (with_reducible first | exact HB.out | apply below_alloc | apply pw_below_drewN | apply below_drew1) | exact HB.out)))); (case aL => have := LMc71.out; omega); intro v140 w74 ho hb hg hat; rw [← Ny139.out] at ho; have n0_ := Aside0.mk (Kd.R_over' (by (with_reducible repeat (first | apply Kd.R_alloc | apply Kd.R_drewN | apply Kd.R_drew)); exact HO_7.out) (Kd.R_typed (by (with_reducible repeat (first | apply Kd.R_alloc | apply Kd.R_drewN | apply Kd.R_drew)); exact HO_10.out)) (by decide) hg); have n1_ := Aside0.mk (Kd.V_afterv (ok := (fun _ => True)) (by (with_reducible repeat (first | apply Kd.V_alloc | apply Kd.V_drewN | apply Kd.V_drew)); exact Kd.V_mono HO_60.out (fun _ hk => ⟨trivial, hk⟩)) hg hat); have n2_ := Aside0.mk (hb); have n3_ := Aside0.mk (ho); clear HO_7; clear HO_60; clear HB; clear HO_10; have HO_7 := n0_; have HO_60 := n1_; have HB := n2_; have HO141 := n3_; clear n0_ n1_ n2_ n3_; clear ho hb hg hat))
                 go_roundg k2
                 case measure => have := HK1.out; have := HK2.out; omega
                 case rel => exact ⟨(y139), (ji54), (by first | rfl | (simp; done) | (simp only [← hji54] <;> (first | rfl | simp)) | (simp [*]; done)), H', ⟨by have := HK1.out; have := HK2.out; omega⟩, ⟨by (with_reducible repeat (first | apply Kd.R_alloc | apply Kd.R_drewN | apply Kd.R_drew)); exact HO_7.out⟩, ⟨by (with_reducible repeat (first | apply Kd.R_alloc | apply Kd.R_drewN | apply Kd.R_drew)); exact HO141.out⟩, ⟨by (with_reducible repeat (first | apply Kd.V_alloc | apply Kd.V_drewN | apply Kd.V_drew)); exact Kd.V_mono HO_60.out (fun _ hk => hk.2)⟩, ⟨by repeat (first | (with_reducible first | exact HB.out | apply below_alloc | apply pw_below_drewN | apply below_drew1) | exact HB.out)⟩⟩
                ·rw [if_neg c71] at H
                 exact absurd H (by simp)
              ·rw [if_neg c56] at H
               exact absurd H (by simp)
             ·rw [if_neg c55] at H
              exact absurd H (by simp)
            ·replace c53 := Bool.eq_false_iff.mpr c53
             subst c53
             have H1 : (acl_Spans.l1 k2 l0 a1 a2 y123 x10_2 y126 (y126.length : Int) (wrap64 (x62_2 + 1))) = some r := by rw [if_neg (show ¬ (false = true) by decide)] at H; exact H
             clear H
             have H := H1
             clear H1
             have H' := Aside0.mk H
             clear H
             have p131 : 0 ≤ (x62_2 : Int) := of_decide_eq_true (by first | (with_reducible assumption) | assumption)
             have q131 : x62_2 < (y126.length : Int) := of_decide_eq_true (by first | (with_reducible assumption) | assumption)
             obtain ⟨ad131, e131, hx131_0⟩ := Kd.at_int (Kd.V_reads' HO_60.out).2.2 x62_2 p131 q131
             cases e131
             replace p131 := eq_true p131
             replace q131 := eq_true q131
             go_wp2_with (first | ((with_reducible refine gate_callee (f := 62) rfl ?_); refine goesL_ (some 71) rfl rfl Tryz.func62 (by kernel_rfl) rfl #[.slice A0 l0.length c0, .int .i64 a1, .int .i64 a2, .int .i64 (rd y126 x62_2)] rfl (by (try simp only [List.map_toArray, List.map_cons, List.map_nil]); first | done | rfl | (simp only [List.length_drop, List.length_take]; rfl)) ?_; (with_reducible refine (acl_Allows.calls k2 _ _ l0 a1 a2 (rd y126 x62_2) false _ ?side1 ?side2 A52.out).mono ?_); (case side1 => repeat (first | exact (Kd.C_below HR0.out HB.out) | (with_reducible refine Kd.C_alloc ?_ _) | (with_reducible refine Kd.C_drewN ?_ _) | (with_reducible refine Kd.C_drew ?_))); (case side2 => exact HC0.out); rintro e w75 ⟨rfl, hb⟩; refine ⟨_, rfl, ?_⟩; have n0_ := Aside0.mk (Kd.R_below (by (with_reducible repeat (first | apply Kd.R_alloc | apply Kd.R_drewN | apply Kd.R_drew)); exact HO_7.out) hb); have n1_ := Aside0.mk (Kd.R_below (by (with_reducible repeat (first | apply Kd.R_alloc | apply Kd.R_drewN | apply Kd.R_drew)); exact HO_10.out) hb); have n2_ := Aside0.mk (Kd.V_below (by (with_reducible repeat (first | apply Kd.V_alloc | apply Kd.V_drewN | apply Kd.V_drew)); exact HO_60.out) hb); have n3_ := Aside0.mk (below_step (by repeat (first | (with_reducible first | exact HB.out | apply below_alloc | apply pw_below_drewN | apply below_drew1) | exact HB.out)) hb); clear HO_7; clear HO_10; clear HO_60; clear HB; have HO_7 := n0_; have HO_10 := n1_; have HO_60 := n2_; have HB := n3_; clear n0_ n1_ n2_ n3_; (try clear hb); (try clear hb2); (try clear hk); (try clear hi)))
             go_roundg k2
             case measure => have := HK1.out; have := HK2.out; omega
             case rel => exact ⟨(x10_2), (wrap64 (x62_2 + 1)), (by first | rfl | (simp; done) | (simp [*]; done)), H', ⟨by have := HK1.out; have := HK2.out; omega⟩, ⟨by (with_reducible repeat (first | apply Kd.R_alloc | apply Kd.R_drewN | apply Kd.R_drew)); exact HO_7.out⟩, ⟨by (with_reducible repeat (first | apply Kd.R_alloc | apply Kd.R_drewN | apply Kd.R_drew)); exact HO_10.out⟩, ⟨by (with_reducible repeat (first | apply Kd.V_alloc | apply Kd.V_drewN | apply Kd.V_drew)); exact HO_60.out⟩, ⟨by repeat (first | (with_reducible first | exact HB.out | apply below_alloc | apply pw_below_drewN | apply below_drew1) | exact HB.out)⟩⟩
           ·rw [if_neg c51] at H
            exact absurd H (by simp)
          ·rw [if_neg c50] at H
           exact absurd H (by simp)
         ·rw [if_neg c49] at H
          have c49b0 : decide (x62_2 < (y126.length : Int)) = false := decide_eq_false c49
          clear c49
          obtain rfl := Option.some.inj H
          go_wp2
          go_ret
          exact ⟨_, by first | rfl | (simp [errW_none, errW_some] <;> rfl) | (simp only [← hji40]; first | rfl | (simp [errW_none, errW_some] <;> rfl)) | (simp [*, errW_none, errW_some] <;> rfl), by (with_reducible repeat (first | apply Kd.R_alloc | apply Kd.R_drewN | apply Kd.R_drew)); exact HO_10.out, by repeat (first | (with_reducible first | exact HB.out | apply below_alloc | apply pw_below_drewN | apply below_drew1) | exact HB.out)⟩
      ·rw [if_neg c42] at H
       exact absurd H (by simp)
     ·rw [if_neg c41] at H
      exact absurd H (by simp)
    ·rw [if_neg c39] at H
     exact absurd H (by simp)
end Go.Proofs.YtmgbaefgcdglpaaGreatDoor.PA
end
