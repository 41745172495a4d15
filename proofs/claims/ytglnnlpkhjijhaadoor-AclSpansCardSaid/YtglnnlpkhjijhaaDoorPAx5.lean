-- printed by a program of this session (a turned copy of the kit's print program)
import Derived.Test.YtglnnlpkhjijhaaDoorPAx0
import Derived.Test.YtglnnlpkhjijhaaDoorPAx1
import Derived.Test.YtglnnlpkhjijhaaDoorPAx2
import Derived.Test.YtglnnlpkhjijhaaDoorPAx3
import Derived.Test.YtglnnlpkhjijhaaDoorPAx4
import Derived.Test.YtglnnlpkhjijhaaDoorExtB
import Derived.Test.YtglnnlpkhjijhaaDoorExtC
import Derived.Test.YtglnnlpkhjijhaaDoorExtX
namespace Go.Proofs.YtglnnlpkhjijhaaDoor.PA
open Go.RowKit Go.Proofs.YtglnnlpkhjijhaaDoorW.PrintWords Go.Proofs.YtglnnlpkhjijhaaDoorW.PrintLast Go.Proofs.YtglnnlpkhjijhaaDoorW.PrintMore
attribute [local go_sem] max2_int min2_int max_two min_two max_three min_three max_four min_four   -- for this text's walks alone
set_option linter.unusedVariables false
set_option linter.unusedSimpArgs false

attribute [local go_sem high] eqA32 eqA37
/-! ### causewayref20_SameSpans: function 14 -/
def causewayref20_SameSpans.l0 : Nat → List (S32) → List (S32) → Int → Option (Bool)
  | 0, _, _, _ => none
  | k + 1, x0, x1, x5 => if x5 < (x0.length : Int) then (if 0 ≤ x5 then (if x5 < (x1.length : Int) then (if (!(((rd_T32 x0 x5).f0) == ((rd_T32 x1 x5).f0)) || (!(((rd_T32 x0 x5).f1) == ((rd_T32 x1 x5).f1)))) = true then (some false) else (causewayref20_SameSpans.l0 k x0 x1 (wrap64 (x5 + 1)))) else (none)) else (none)) else (some true)
def causewayref20_SameSpans.f (k : Nat) (l0 : List (S32)) (l1 : List (S32)) : Option (Bool) := if (l0.length : Int) = (l1.length : Int) then (causewayref20_SameSpans.l0 k l0 l1 0) else (some false)
theorem causewayref20_SameSpans.mono_l : ∀ k, (∀ y0 y1 y2, LeO (causewayref20_SameSpans.l0 k y0 y1 y2) (causewayref20_SameSpans.l0 (k + 1) y0 y1 y2))
  | 0 => fun _ _ _ r h => by simp [causewayref20_SameSpans.l0] at h
  | k + 1 => by
    have ih0 := causewayref20_SameSpans.mono_l k
    · intro y0 y1 y2
      unfold causewayref20_SameSpans.l0
      repeat' first
      | (with_reducible exact ih0 _ _ _)
      | (with_reducible exact LeO.refl _)
      | (with_reducible exact LeO.none _)
      | (with_reducible refine LeO.ite ?_ ?_)
      | (with_reducible refine LeO.bind ?_ (fun _ => ?_))
      | exact ih0 _ _ _
      | exact LeO.none _
      | refine LeO.ite ?_ ?_
      | refine LeO.bind ?_ (fun _ => ?_)
theorem causewayref20_SameSpans.mono : ∀ a0 a1 k, LeO (causewayref20_SameSpans.f k a0 a1) (causewayref20_SameSpans.f (k + 1) a0 a1) := by
  intro a0 a1 k
  have ih0 := causewayref20_SameSpans.mono_l k
  unfold causewayref20_SameSpans.f
  repeat' first
      | (with_reducible exact ih0 _ _ _)
      | (with_reducible exact LeO.refl _)
      | (with_reducible exact LeO.none _)
      | (with_reducible refine LeO.ite ?_ ?_)
      | (with_reducible refine LeO.bind ?_ (fun _ => ?_))
      | exact ih0 _ _ _
      | exact LeO.none _
      | refine LeO.ite ?_ ?_
      | refine LeO.bind ?_ (fun _ => ?_)
set_option maxHeartbeats 8000000 in
set_option maxRecDepth 100000 in
theorem causewayref20_SameSpans.calls (k : Nat) (A0 : Option Addr) (c0 : Nat) (l0 : List (S32)) (A1 : Option Addr) (c1 : Nat) (l1 : List (S32)) (r : Bool) (w : World) (hr0 : Kd.C k32 w A0 l0.length l0) (hc0 : l0.length ≤ c0) (hr1 : Kd.C k32 w A1 l1.length l1) (hc1 : l1.length ≤ c1) (h : causewayref20_SameSpans.f k l0 l1 = some r) :
    Calls Tryd.prog 14 #[.slice A0 l0.length c0, .slice A1 l1.length c1] w fun e w' => e = .returned (.bool r) ∧ Drawn0 w w' := by
  have hu32 := Tryd.underlying32
  have HR0 := Aside0.mk hr0
  have HC0 := Aside0.mk hc0
  clear hr0 hc0
  have HR1 := Aside0.mk hr1
  have HC1 := Aside0.mk hc1
  clear hr1 hc1
  have H : (if (l0.length : Int) = (l1.length : Int) then (causewayref20_SameSpans.l0 k l0 l1 0) else (some false)) = some r := h
  clear h
  by_cases c3 : (l0.length : Int) = (l1.length : Int)
  · rw [if_pos c3] at H
    have c3b0 : ((l0.length : Int) == (l1.length : Int)) = true := beq_iff_eq.mpr c3
    have c3b1 : ((l0.length : Int) != (l1.length : Int)) = false := bne_eq_false_iff_eq.mpr c3
    have c3b2 : (l0.length == l1.length) = true := by first | simpa using c3 | (simp at c3 ⊢; omega)
    clear c3
    have H' := Aside0.mk H
    clear H
    go_enter Tryd.func14, Tryd.ntmps14
    go_wp2
    repeat (go_quiet (fail); try go_wp2)
    go_loopg [5] k (fun kq v5 w' => ∃ (x5_1 : Int), v5 = .int .i64 x5_1 ∧ Aside0 (causewayref20_SameSpans.l0 kq l0 l1 x5_1 = some r) ∧ Aside0 (kq ≤ k) ∧ Drawn0 w w')
    case atStart => exact ⟨(0), (by first | rfl | (simp; done) | (simp [*]; done)), H', ⟨Nat.le_refl _⟩, by repeat (first | exact Drawn0.refl _ | apply Drawn0.step)⟩
    case round =>
      clear H'
      try clear c1
      try clear p2
      try clear c3
      try clear c3b0
      try clear c3b1
      try clear c3b2
      obtain ⟨x5_1, rfl, HA, HK1, ⟨m1, rfl⟩⟩ := hrel
      cases gk with
      | zero => exact absurd HA.out (by simp [causewayref20_SameSpans.l0])
      | succ k1 =>
        have H := HA.out
        clear HA
        simp only [causewayref20_SameSpans.l0] at H
        by_cases c4 : x5_1 < (l0.length : Int)
        · rw [if_pos c4] at H
          have c4b0 : decide (x5_1 < (l0.length : Int)) = true := decide_eq_true c4
          clear c4
          by_cases c5 : 0 ≤ x5_1
          · rw [if_pos c5] at H
            have c5b0 : decide (0 ≤ x5_1) = true := decide_eq_true c5
            clear c5
            by_cases c6 : x5_1 < (l1.length : Int)
            · rw [if_pos c6] at H
              have c6b0 : decide (x5_1 < (l1.length : Int)) = true := decide_eq_true c6
              clear c6
              by_cases c7 : (!(((rd_T32 l0 x5_1).f0) == ((rd_T32 l1 x5_1).f0)) || (!(((rd_T32 l0 x5_1).f1) == ((rd_T32 l1 x5_1).f1)))) = true
              · rw [if_pos c7] at H
                have c7b0 : (!(((rd_T32 l0 x5_1).f0) == ((rd_T32 l1 x5_1).f0)) || (!(((rd_T32 l0 x5_1).f1) == ((rd_T32 l1 x5_1).f1)))) = true := c7
                clear c7
                obtain rfl := Option.some.inj H
                have p146 : 0 ≤ (x5_1 : Int) := of_decide_eq_true (by first | (with_reducible assumption) | assumption)
                have q146 : x5_1 < (l0.length : Int) := of_decide_eq_true (by first | (with_reducible assumption) | assumption)
                obtain ⟨ad146, e146, hx146_0, hx146_1⟩ := at_T32 HR0.out x5_1 p146 q146
                cases e146
                replace p146 := eq_true p146
                replace q146 := eq_true q146
                have p147 : 0 ≤ (x5_1 : Int) := of_decide_eq_true (by first | (with_reducible assumption) | assumption)
                have q147 : x5_1 < (l1.length : Int) := of_decide_eq_true (by first | (with_reducible assumption) | assumption)
                obtain ⟨ad147, e147, hx147_0, hx147_1⟩ := at_T32 HR1.out x5_1 p147 q147
                cases e147
                replace p147 := eq_true p147
                replace q147 := eq_true q147
                go_wp2
                repeat (go_quiet (fail); try go_wp2)
                go_ret
                exact ⟨by first | rfl | (simp; done) | (simp [*]; done), by repeat (first | exact Drawn0.refl _ | apply Drawn0.step)⟩
              · rw [if_neg c7] at H
                have c7b0 : (!(((rd_T32 l0 x5_1).f0) == ((rd_T32 l1 x5_1).f0)) || (!(((rd_T32 l0 x5_1).f1) == ((rd_T32 l1 x5_1).f1)))) = false := by simpa using c7
                clear c7
                have H' := Aside0.mk H
                clear H
                have p146 : 0 ≤ (x5_1 : Int) := of_decide_eq_true (by first | (with_reducible assumption) | assumption)
                have q146 : x5_1 < (l0.length : Int) := of_decide_eq_true (by first | (with_reducible assumption) | assumption)
                obtain ⟨ad146, e146, hx146_0, hx146_1⟩ := at_T32 HR0.out x5_1 p146 q146
                cases e146
                replace p146 := eq_true p146
                replace q146 := eq_true q146
                have p147 : 0 ≤ (x5_1 : Int) := of_decide_eq_true (by first | (with_reducible assumption) | assumption)
                have q147 : x5_1 < (l1.length : Int) := of_decide_eq_true (by first | (with_reducible assumption) | assumption)
                obtain ⟨ad147, e147, hx147_0, hx147_1⟩ := at_T32 HR1.out x5_1 p147 q147
                cases e147
                replace p147 := eq_true p147
                replace q147 := eq_true q147
                go_wp2
                repeat (go_quiet (fail); try go_wp2)
                go_roundg k1
                case measure => have := HK1.out; omega
                case rel => exact ⟨(wrap64 (x5_1 + 1)), (by first | rfl | (simp; done) | (simp [*]; done)), H', ⟨by have := HK1.out; omega⟩, by repeat (first | exact Drawn0.refl _ | apply Drawn0.step)⟩
            · rw [if_neg c6] at H
              exact absurd H (by simp)
          · rw [if_neg c5] at H
            exact absurd H (by simp)
        · rw [if_neg c4] at H
          have c4b0 : decide (x5_1 < (l0.length : Int)) = false := decide_eq_false c4
          clear c4
          obtain rfl := Option.some.inj H
          go_wp2
          repeat (go_quiet (fail); try go_wp2)
          go_ret
          exact ⟨by first | rfl | (simp; done) | (simp [*]; done), by repeat (first | exact Drawn0.refl _ | apply Drawn0.step)⟩
  · rw [if_neg c3] at H
    have c3b0 : ((l0.length : Int) == (l1.length : Int)) = false := beq_eq_false_iff_ne.mpr c3
    have c3b1 : ((l0.length : Int) != (l1.length : Int)) = true := bne_iff_ne.mpr c3
    have c3b2 : (l0.length == l1.length) = false := by first | simpa using c3 | (simp at c3 ⊢; omega)
    obtain rfl := Option.some.inj H
    go_enter Tryd.func14, Tryd.ntmps14
    go_wp2
    repeat (go_quiet (fail); try go_wp2)
    go_ret
    exact ⟨by first | rfl | (simp; done) | (simp [*]; done), by repeat (first | exact Drawn0.refl _ | apply Drawn0.step)⟩

/-! ### causewaylaw20_rules: function 19 -/
def causewaylaw20_rules.f (a0 : ByteArray) : Option ((List (S37))) := (strings_ReplaceAll.f a0 (⟨#[47]⟩ : ByteArray) (⟨#[10]⟩ : ByteArray)).bind fun t148 => ((acl_Parse.f t148).bind fun bt149 => (if bt149.2 = 0 then (some bt149.1) else (some ([] : List (S37)))))
set_option maxHeartbeats 8000000 in
set_option maxRecDepth 100000 in
theorem causewaylaw20_rules.calls (a0 : ByteArray) (r : List (S37)) (w : World) (hx : LaidW w) (h : causewaylaw20_rules.f a0 = some r) :
    Calls Tryd.prog 19 #[.string a0] w fun e w' => ∃ v0_ : Value, e = .returned (v0_) ∧ Kd.R k37 37 w' w.heap.size (fun _ => True) v0_ r ∧ Below w.heap.size w w' := by
  have HB := Aside0.mk (Below.refl w.heap.size w)
  have HX := Aside0.mk hx
  clear hx
  have H : ((strings_ReplaceAll.f a0 (⟨#[47]⟩ : ByteArray) (⟨#[10]⟩ : ByteArray)).bind fun t148 => ((acl_Parse.f t148).bind fun bt149 => (if bt149.2 = 0 then (some bt149.1) else (some ([] : List (S37)))))) = some r := h
  clear h
  replace H := Option.bind_eq_some_iff.mp H
  obtain ⟨t148, A20, H⟩ := H
  replace H : ((acl_Parse.f t148).bind fun bt149 => (if bt149.2 = 0 then (some bt149.1) else (some ([] : List (S37))))) = some r := H
  have A2 := Aside0.mk A20
  clear A20
  replace H := Option.bind_eq_some_iff.mp H
  obtain ⟨⟨t149, t150⟩, A30, H⟩ := H
  replace H : (if t150 = 0 then (some t149) else (some ([] : List (S37)))) = some r := H
  have A3 := Aside0.mk A30
  clear A30
  by_cases c4 : t150 = 0
  · rw [if_pos c4] at H
    have c4b0 : (t150 == 0) = true := beq_iff_eq.mpr c4
    have c4b1 : (t150 != 0) = false := bne_eq_false_iff_eq.mpr c4
    clear c4
    obtain rfl := Option.some.inj H
    go_enter Tryd.func19, Tryd.ntmps19
    go_wp2_with (first | ((with_reducible refine gate_callee (f := 23) rfl ?_); refine goesL_ (some 7) rfl rfl Tryd.func23 (by kernel_rfl) rfl #[.string a0, .string (⟨#[47]⟩ : ByteArray), .string (⟨#[10]⟩ : ByteArray)] rfl (by (try simp only [List.map_toArray, List.map_cons, List.map_nil]); first | done | rfl | (simp only [List.length_drop, List.length_take]; rfl)) ?_; (with_reducible refine (strings_ReplaceAll.calls a0 (⟨#[47]⟩ : ByteArray) (⟨#[10]⟩ : ByteArray) t148 _ ?side1 A2.out).mono ?_); (case side1 => exact LaidW.below HX.out (by repeat (first | (with_reducible first | exact HB.out | apply below_alloc | apply pw_below_drewN | apply below_drew1) | exact HB.out))); rintro e w5 ⟨rfl, hb⟩; refine ⟨_, rfl, ?_⟩; have n0_ := Aside0.mk (below_step (by repeat (first | (with_reducible first | exact HB.out | apply below_alloc | apply pw_below_drewN | apply below_drew1) | exact HB.out)) hb); clear HB; have HB := n0_; clear n0_; (try clear hb); (try clear hb2); (try clear hk); (try clear hi)) | ((with_reducible refine gate_callee (f := 22) rfl ?_); refine goesL_ (some 8) rfl rfl Tryd.func22 (by kernel_rfl) rfl #[.string t148] rfl (by (try simp only [List.map_toArray, List.map_cons, List.map_nil]); first | done | rfl | (simp only [List.length_drop, List.length_take]; rfl)) ?_; (with_reducible refine (acl_Parse.calls t148 t149 t150 _ ?side1 A3.out).mono ?_); (case side1 => exact LaidW.below HX.out (by repeat (first | (with_reducible first | exact HB.out | apply below_alloc | apply pw_below_drewN | apply below_drew1) | exact HB.out))); rintro e w6 ⟨v151, rfl, ho0, hb⟩; refine ⟨_, rfl, ?_⟩; have n0_ := Aside0.mk (Kd.R_lower ho0 (below_size (by repeat (first | (with_reducible first | exact HB.out | apply below_alloc | apply pw_below_drewN | apply below_drew1) | exact HB.out)))); have n1_ := Aside0.mk (below_step (by repeat (first | (with_reducible first | exact HB.out | apply below_alloc | apply pw_below_drewN | apply below_drew1) | exact HB.out)) hb); clear HB; have HO152 := n0_; have HB := n1_; clear n0_ n1_; (try clear hb); (try clear hb2); (try clear hk); (try clear hi); (try clear ho0)))
    go_ret
    exact ⟨_, by first | rfl | (simp [errW_none, errW_some] <;> rfl) | (simp [*, errW_none, errW_some] <;> rfl), by (with_reducible repeat (first | apply Kd.R_alloc | apply Kd.R_drewN | apply Kd.R_drew)); exact HO152.out, by repeat (first | (with_reducible first | exact HB.out | apply below_alloc | apply pw_below_drewN | apply below_drew1) | exact HB.out)⟩
  · rw [if_neg c4] at H
    have c4b0 : (t150 == 0) = false := beq_eq_false_iff_ne.mpr c4
    have c4b1 : (t150 != 0) = true := bne_iff_ne.mpr c4
    obtain rfl := Option.some.inj H
    go_enter Tryd.func19, Tryd.ntmps19
    go_wp2_with (first | ((with_reducible refine gate_callee (f := 23) rfl ?_); refine goesL_ (some 7) rfl rfl Tryd.func23 (by kernel_rfl) rfl #[.string a0, .string (⟨#[47]⟩ : ByteArray), .string (⟨#[10]⟩ : ByteArray)] rfl (by (try simp only [List.map_toArray, List.map_cons, List.map_nil]); first | done | rfl | (simp only [List.length_drop, List.length_take]; rfl)) ?_; (with_reducible refine (strings_ReplaceAll.calls a0 (⟨#[47]⟩ : ByteArray) (⟨#[10]⟩ : ByteArray) t148 _ ?side1 A2.out).mono ?_); (case side1 => exact LaidW.below HX.out (by repeat (first | (with_reducible first | exact HB.out | apply below_alloc | apply pw_below_drewN | apply below_drew1) | exact HB.out))); rintro e w7 ⟨rfl, hb⟩; refine ⟨_, rfl, ?_⟩; have n0_ := Aside0.mk (below_step (by repeat (first | (with_reducible first | exact HB.out | apply below_alloc | apply pw_below_drewN | apply below_drew1) | exact HB.out)) hb); clear HB; have HB := n0_; clear n0_; (try clear hb); (try clear hb2); (try clear hk); (try clear hi)) | ((with_reducible refine gate_callee (f := 22) rfl ?_); refine goesL_ (some 8) rfl rfl Tryd.func22 (by kernel_rfl) rfl #[.string t148] rfl (by (try simp only [List.map_toArray, List.map_cons, List.map_nil]); first | done | rfl | (simp only [List.length_drop, List.length_take]; rfl)) ?_; (with_reducible refine (acl_Parse.calls t148 t149 t150 _ ?side1 A3.out).mono ?_); (case side1 => exact LaidW.below HX.out (by repeat (first | (with_reducible first | exact HB.out | apply below_alloc | apply pw_below_drewN | apply below_drew1) | exact HB.out))); rintro e w8 ⟨v151, rfl, ho0, hb⟩; refine ⟨_, rfl, ?_⟩; have n0_ := Aside0.mk (Kd.R_lower ho0 (below_size (by repeat (first | (with_reducible first | exact HB.out | apply below_alloc | apply pw_below_drewN | apply below_drew1) | exact HB.out)))); have n1_ := Aside0.mk (below_step (by repeat (first | (with_reducible first | exact HB.out | apply below_alloc | apply pw_below_drewN | apply below_drew1) | exact HB.out)) hb); clear HB; have HO152 := n0_; have HB := n1_; clear n0_ n1_; (try clear hb); (try clear hb2); (try clear hk); (try clear hi); (try clear ho0)))
    go_ret
    exact ⟨_, by first | rfl | (simp [errW_none, errW_some] <;> rfl) | (simp [*, errW_none, errW_some] <;> rfl), by first | exact Kd.R_nil _ _ _ _ _ | exact Kd.N_nil _ _ _ _ _ | exact Kd.V_nil _ _ _ _ _ | exact Kd.Q_nil _ _ _ _ _ | exact Kd.S_nil _ _ _ _ _, by repeat (first | (with_reducible first | exact HB.out | apply below_alloc | apply pw_below_drewN | apply below_drew1) | exact HB.out)⟩

/-! ### causewaylaw20_works: function 12 -/
def causewaylaw20_works.f (k : Nat)  : Option (Bool) := (causewaylaw20_rules.f (⟨#[35, 32, 97, 32, 114, 101, 109, 97, 114, 107, 47, 100, 101, 110, 121, 32, 49, 32, 62, 32, 50, 32, 53, 47, 32, 97, 108, 108, 111, 119, 32, 32, 49, 32, 62, 32, 42, 32, 48, 45, 57]⟩ : ByteArray)).bind fun t153 => (if (t153.length : Int) = 2 then (if 0 < (t153.length : Int) then (if (!((rd_T37 t153 0).f0) && (((rd_T37 t153 0).f1) == 2 && (((rd_T37 t153 0).f2) == 4 && (((rd_T37 t153 0).f3) == 5 && (((rd_T37 t153 0).f4) == 5))))) = true then (if 1 < (t153.length : Int) then (if (((rd_T37 t153 1).f0) && (((rd_T37 t153 1).f1) == 2 && (((rd_T37 t153 1).f2) == 510 && (((rd_T37 t153 1).f3) == 0 && (((rd_T37 t153 1).f4) == 9))))) = true then ((acl_Allows.f k t153 1 2 5).bind fun t158 => (if t158 = true then (some false) else ((acl_Allows.f k t153 1 2 6).bind fun t159 => (if t159 = true then ((acl_Allows.f k t153 2 1 6).bind fun t160 => (if t160 = true then (some false) else ((acl_Spans.f k t153 1 2).bind fun t161 => ((causewayref20_SameSpans.f k t161 (([(⟨0, 4⟩ : S32), (⟨6, 9⟩ : S32)] : List (S32)))).bind fun t167 => (some t167))))) else (some false))))) else (some false)) else (none)) else (some false)) else (none)) else (some false))
theorem causewaylaw20_works.mono : ∀ k, LeO (causewaylaw20_works.f k ) (causewaylaw20_works.f (k + 1) ) := by
  intro  k
  unfold causewaylaw20_works.f
  repeat' first
      | (with_reducible exact acl_Allows.mono _ _ _ _ _)
      | (with_reducible exact acl_Spans.mono _ _ _ _)
      | (with_reducible exact causewayref20_SameSpans.mono _ _ _)
      | (with_reducible exact LeO.refl _)
      | (with_reducible exact LeO.none _)
      | (with_reducible refine LeO.ite ?_ ?_)
      | (with_reducible refine LeO.bind ?_ (fun _ => ?_))
      | exact acl_Allows.mono _ _ _ _ _
      | exact acl_Spans.mono _ _ _ _
      | exact causewayref20_SameSpans.mono _ _ _
      | exact LeO.none _
      | refine LeO.ite ?_ ?_
      | refine LeO.bind ?_ (fun _ => ?_)
set_option maxHeartbeats 8000000 in
set_option maxRecDepth 100000 in
theorem causewaylaw20_works.calls (k : Nat)  (r : Bool) (w : World) (hx : LaidW w) (h : causewaylaw20_works.f k  = some r) :
    Calls Tryd.prog 12 #[] w fun e w' => e = .returned (.bool r) ∧ Below w.heap.size w w' := by
  have hu37 := Tryd.underlying37
  have hu32 := Tryd.underlying32
  have HB := Aside0.mk (Below.refl w.heap.size w)
  have HX := Aside0.mk hx
  clear hx
  have H : ((causewaylaw20_rules.f (⟨#[35, 32, 97, 32, 114, 101, 109, 97, 114, 107, 47, 100, 101, 110, 121, 32, 49, 32, 62, 32, 50, 32, 53, 47, 32, 97, 108, 108, 111, 119, 32, 32, 49, 32, 62, 32, 42, 32, 48, 45, 57]⟩ : ByteArray)).bind fun t153 => (if (t153.length : Int) = 2 then (if 0 < (t153.length : Int) then (if (!((rd_T37 t153 0).f0) && (((rd_T37 t153 0).f1) == 2 && (((rd_T37 t153 0).f2) == 4 && (((rd_T37 t153 0).f3) == 5 && (((rd_T37 t153 0).f4) == 5))))) = true then (if 1 < (t153.length : Int) then (if (((rd_T37 t153 1).f0) && (((rd_T37 t153 1).f1) == 2 && (((rd_T37 t153 1).f2) == 510 && (((rd_T37 t153 1).f3) == 0 && (((rd_T37 t153 1).f4) == 9))))) = true then ((acl_Allows.f k t153 1 2 5).bind fun t158 => (if t158 = true then (some false) else ((acl_Allows.f k t153 1 2 6).bind fun t159 => (if t159 = true then ((acl_Allows.f k t153 2 1 6).bind fun t160 => (if t160 = true then (some false) else ((acl_Spans.f k t153 1 2).bind fun t161 => ((causewayref20_SameSpans.f k t161 (([(⟨0, 4⟩ : S32), (⟨6, 9⟩ : S32)] : List (S32)))).bind fun t167 => (some t167))))) else (some false))))) else (some false)) else (none)) else (some false)) else (none)) else (some false))) = some r := h
  clear h
  replace H := Option.bind_eq_some_iff.mp H
  obtain ⟨t153, A10, H⟩ := H
  replace H : (if (t153.length : Int) = 2 then (if 0 < (t153.length : Int) then (if (!((rd_T37 t153 0).f0) && (((rd_T37 t153 0).f1) == 2 && (((rd_T37 t153 0).f2) == 4 && (((rd_T37 t153 0).f3) == 5 && (((rd_T37 t153 0).f4) == 5))))) = true then (if 1 < (t153.length : Int) then (if (((rd_T37 t153 1).f0) && (((rd_T37 t153 1).f1) == 2 && (((rd_T37 t153 1).f2) == 510 && (((rd_T37 t153 1).f3) == 0 && (((rd_T37 t153 1).f4) == 9))))) = true then ((acl_Allows.f k t153 1 2 5).bind fun t158 => (if t158 = true then (some false) else ((acl_Allows.f k t153 1 2 6).bind fun t159 => (if t159 = true then ((acl_Allows.f k t153 2 1 6).bind fun t160 => (if t160 = true then (some false) else ((acl_Spans.f k t153 1 2).bind fun t161 => ((causewayref20_SameSpans.f k t161 (([(⟨0, 4⟩ : S32), (⟨6, 9⟩ : S32)] : List (S32)))).bind fun t167 => (some t167))))) else (some false))))) else (some false)) else (none)) else (some false)) else (none)) else (some false)) = some r := H
  have A1 := Aside0.mk A10
  clear A10
  by_cases c2 : (t153.length : Int) = 2
  · rw [if_pos c2] at H
    have c2b0 : ((t153.length : Int) == 2) = true := beq_iff_eq.mpr c2
    have c2b1 : ((t153.length : Int) != 2) = false := bne_eq_false_iff_eq.mpr c2
    clear c2
    by_cases c3 : 0 < (t153.length : Int)
    · rw [if_pos c3] at H
      have c3b0 : decide (0 < (t153.length : Int)) = true := decide_eq_true c3
      have c3b1 : decide (0 < t153.length) = true := decide_eq_true (by omega)
      clear c3
      by_cases c4 : (!((rd_T37 t153 0).f0) && (((rd_T37 t153 0).f1) == 2 && (((rd_T37 t153 0).f2) == 4 && (((rd_T37 t153 0).f3) == 5 && (((rd_T37 t153 0).f4) == 5))))) = true
      · rw [if_pos c4] at H
        have c4b0 : (!((rd_T37 t153 0).f0) && (((rd_T37 t153 0).f1) == 2 && (((rd_T37 t153 0).f2) == 4 && (((rd_T37 t153 0).f3) == 5 && (((rd_T37 t153 0).f4) == 5))))) = true := c4
        clear c4
        by_cases c5 : 1 < (t153.length : Int)
        · rw [if_pos c5] at H
          have c5b0 : decide (1 < (t153.length : Int)) = true := decide_eq_true c5
          have c5b1 : decide (1 < t153.length) = true := decide_eq_true (by omega)
          clear c5
          by_cases c6 : (((rd_T37 t153 1).f0) && (((rd_T37 t153 1).f1) == 2 && (((rd_T37 t153 1).f2) == 510 && (((rd_T37 t153 1).f3) == 0 && (((rd_T37 t153 1).f4) == 9))))) = true
          · rw [if_pos c6] at H
            have c6b0 : (((rd_T37 t153 1).f0) && (((rd_T37 t153 1).f1) == 2 && (((rd_T37 t153 1).f2) == 510 && (((rd_T37 t153 1).f3) == 0 && (((rd_T37 t153 1).f4) == 9))))) = true := c6
            clear c6
            replace H := Option.bind_eq_some_iff.mp H
            obtain ⟨t158, A70, H⟩ := H
            replace H : (if t158 = true then (some false) else ((acl_Allows.f k t153 1 2 6).bind fun t159 => (if t159 = true then ((acl_Allows.f k t153 2 1 6).bind fun t160 => (if t160 = true then (some false) else ((acl_Spans.f k t153 1 2).bind fun t161 => ((causewayref20_SameSpans.f k t161 (([(⟨0, 4⟩ : S32), (⟨6, 9⟩ : S32)] : List (S32)))).bind fun t167 => (some t167))))) else (some false)))) = some r := H
            have A7 := Aside0.mk A70
            clear A70
            by_cases c8 : t158 = true
            · subst c8
              have H1 : (some false) = some r := by rw [if_pos rfl] at H; exact H
              clear H
              have H := H1
              clear H1
              obtain rfl := Option.some.inj H
              go_enter Tryd.func12, Tryd.ntmps12
              go_wp2_with (first | ((with_reducible refine gate_callee (f := 19) rfl ?_); refine goesL_ (some 2) rfl rfl Tryd.func19 (by kernel_rfl) rfl #[.string (⟨#[35, 32, 97, 32, 114, 101, 109, 97, 114, 107, 47, 100, 101, 110, 121, 32, 49, 32, 62, 32, 50, 32, 53, 47, 32, 97, 108, 108, 111, 119, 32, 32, 49, 32, 62, 32, 42, 32, 48, 45, 57]⟩ : ByteArray)] rfl (by (try simp only [List.map_toArray, List.map_cons, List.map_nil]); first | done | rfl | (simp only [List.length_drop, List.length_take]; rfl)) ?_; (with_reducible refine (causewaylaw20_rules.calls (⟨#[35, 32, 97, 32, 114, 101, 109, 97, 114, 107, 47, 100, 101, 110, 121, 32, 49, 32, 62, 32, 50, 32, 53, 47, 32, 97, 108, 108, 111, 119, 32, 32, 49, 32, 62, 32, 42, 32, 48, 45, 57]⟩ : ByteArray) t153 _ ?side1 A1.out).mono ?_); (case side1 => exact LaidW.below HX.out (by repeat (first | (with_reducible first | exact HB.out | apply below_alloc | apply pw_below_drewN | apply below_drew1) | exact HB.out))); rintro e w9 ⟨v154, rfl, ho0, hb⟩; refine ⟨_, rfl, ?_⟩; have n0_ := Aside0.mk (Kd.R_lower ho0 (below_size (by repeat (first | (with_reducible first | exact HB.out | apply below_alloc | apply pw_below_drewN | apply below_drew1) | exact HB.out)))); have n1_ := Aside0.mk (below_step (by repeat (first | (with_reducible first | exact HB.out | apply below_alloc | apply pw_below_drewN | apply below_drew1) | exact HB.out)) hb); clear HB; have HO155 := n0_; have HB := n1_; clear n0_ n1_; (try clear hb); (try clear hb2); (try clear hk); (try clear hi); (try clear ho0); obtain ⟨Ao10, co10, eo10⟩ := Kd.R_slice HO155.out; subst eo10; have p156 : 0 ≤ (0 : Int) := (by omega); have q156 : 0 < (t153.length : Int) := of_decide_eq_true (by first | (with_reducible assumption) | assumption); obtain ⟨ad156, e156, hx156_0, hx156_1, hx156_2, hx156_3, hx156_4⟩ := at_T37 (Kd.R_reads' HO155.out).2.2 0 p156 q156; cases e156; have qi156 : (0 < t153.length) = True := eq_true (by omega); (try rw [show ((0 : Int)).toNat = 0 from rfl] at hx156_0); (try rw [show 0 * 5 = 0 from rfl] at hx156_0); (try rw [Addr.add_zero'] at hx156_0); (try rw [show ((0 : Int)).toNat = 0 from rfl] at hx156_1); (try rw [show 0 * 5 = 0 from rfl] at hx156_1); (try rw [Addr.add_zero'] at hx156_1); (try rw [show ((0 : Int)).toNat = 0 from rfl] at hx156_2); (try rw [show 0 * 5 = 0 from rfl] at hx156_2); (try rw [Addr.add_zero'] at hx156_2); (try rw [show ((0 : Int)).toNat = 0 from rfl] at hx156_3); (try rw [show 0 * 5 = 0 from rfl] at hx156_3); (try rw [Addr.add_zero'] at hx156_3); (try rw [show ((0 : Int)).toNat = 0 from rfl] at hx156_4); (try rw [show 0 * 5 = 0 from rfl] at hx156_4); (try rw [Addr.add_zero'] at hx156_4); replace p156 := eq_true p156; replace q156 := eq_true q156; have p157 : 0 ≤ (1 : Int) := (by omega); have q157 : 1 < (t153.length : Int) := of_decide_eq_true (by first | (with_reducible assumption) | assumption); obtain ⟨ad157, e157, hx157_0, hx157_1, hx157_2, hx157_3, hx157_4⟩ := at_T37 (Kd.R_reads' HO155.out).2.2 1 p157 q157; obtain rfl : ad156 = ad157 := (by injection e157); (try simp only [show (1 : Int).toNat = 1 from rfl, Nat.reduceMul, Nat.reduceEqDiff, Go.Addr.add, ↓reduceIte] at hx157_0); (try simp only [show (1 : Int).toNat = 1 from rfl, Nat.reduceMul, Nat.reduceEqDiff, Go.Addr.add, ↓reduceIte] at hx157_1); (try simp only [show (1 : Int).toNat = 1 from rfl, Nat.reduceMul, Nat.reduceEqDiff, Go.Addr.add, ↓reduceIte] at hx157_2); (try simp only [show (1 : Int).toNat = 1 from rfl, Nat.reduceMul, Nat.reduceEqDiff, Go.Addr.add, ↓reduceIte] at hx157_3); (try simp only [show (1 : Int).toNat = 1 from rfl, Nat.reduceMul, Nat.reduceEqDiff, Go.Addr.add, ↓reduceIte] at hx157_4); have qi157 : (1 < t153.length) = True := eq_true (by omega); (try rw [show ((1 : Int)).toNat = 1 from rfl] at hx157_0); (try rw [show 1 * 5 = 5 from rfl] at hx157_0); (try rw [show ((1 : Int)).toNat = 1 from rfl] at hx157_1); (try rw [show 1 * 5 = 5 from rfl] at hx157_1); (try rw [show ((1 : Int)).toNat = 1 from rfl] at hx157_2); (try rw [show 1 * 5 = 5 from rfl] at hx157_2); (try rw [show ((1 : Int)).toNat = 1 from rfl] at hx157_3); (try rw [show 1 * 5 = 5 from rfl] at hx157_3); (try rw [show ((1 : Int)).toNat = 1 from rfl] at hx157_4); (try rw [show 1 * 5 = 5 from rfl] at hx157_4); replace p157 := eq_true p157; replace q157 := eq_true q157) | (go_at_call 10; (with_reducible refine (acl_Allows.calls k _ _ t153 1 2 5 true _ ?side1 ?side2 A7.out).mono ?_); (case side1 => repeat (first | exact (Kd.R_reads' HO155.out).2.2 | (with_reducible refine Kd.C_alloc ?_ _) | (with_reducible refine Kd.C_drewN ?_ _) | (with_reducible refine Kd.C_drew ?_))); (case side2 => exact (Kd.R_reads' HO155.out).2.1); rintro e w11 ⟨rfl, hb⟩; have n0_ := Aside0.mk (Kd.R_below (by (with_reducible repeat (first | apply Kd.R_alloc | apply Kd.R_drewN | apply Kd.R_drew)); exact HO155.out) hb); have n1_ := Aside0.mk (below_step (by repeat (first | (with_reducible first | exact HB.out | apply below_alloc | apply pw_below_drewN | apply below_drew1) | exact HB.out)) hb); clear HO155; clear HB; have HO155 := n0_; have HB := n1_; clear n0_ n1_; (try clear hb); (try clear hb2); (try clear hk); (try clear hi)))
              go_ret
              exact ⟨by first | rfl | (simp [errW_none, errW_some] <;> rfl) | (simp [*, errW_none, errW_some] <;> rfl), by repeat (first | (with_reducible first | exact HB.out | apply below_alloc | apply pw_below_drewN | apply below_drew1) | exact HB.out)⟩
            · replace c8 := Bool.eq_false_iff.mpr c8
              subst c8
              have H1 : ((acl_Allows.f k t153 1 2 6).bind fun t159 => (if t159 = true then ((acl_Allows.f k t153 2 1 6).bind fun t160 => (if t160 = true then (some false) else ((acl_Spans.f k t153 1 2).bind fun t161 => ((causewayref20_SameSpans.f k t161 (([(⟨0, 4⟩ : S32), (⟨6, 9⟩ : S32)] : List (S32)))).bind fun t167 => (some t167))))) else (some false))) = some r := by rw [if_neg (show ¬ (false = true) by decide)] at H; exact H
              clear H
              have H := H1
              clear H1
              replace H := Option.bind_eq_some_iff.mp H
              obtain ⟨t159, A120, H⟩ := H
              replace H : (if t159 = true then ((acl_Allows.f k t153 2 1 6).bind fun t160 => (if t160 = true then (some false) else ((acl_Spans.f k t153 1 2).bind fun t161 => ((causewayref20_SameSpans.f k t161 (([(⟨0, 4⟩ : S32), (⟨6, 9⟩ : S32)] : List (S32)))).bind fun t167 => (some t167))))) else (some false)) = some r := H
              have A12 := Aside0.mk A120
              clear A120
              by_cases c13 : t159 = true
              · subst c13
                have H1 : ((acl_Allows.f k t153 2 1 6).bind fun t160 => (if t160 = true then (some false) else ((acl_Spans.f k t153 1 2).bind fun t161 => ((causewayref20_SameSpans.f k t161 (([(⟨0, 4⟩ : S32), (⟨6, 9⟩ : S32)] : List (S32)))).bind fun t167 => (some t167))))) = some r := by rw [if_pos rfl] at H; exact H
                clear H
                have H := H1
                clear H1
                replace H := Option.bind_eq_some_iff.mp H
                obtain ⟨t160, A140, H⟩ := H
                replace H : (if t160 = true then (some false) else ((acl_Spans.f k t153 1 2).bind fun t161 => ((causewayref20_SameSpans.f k t161 (([(⟨0, 4⟩ : S32), (⟨6, 9⟩ : S32)] : List (S32)))).bind fun t167 => (some t167)))) = some r := H
                have A14 := Aside0.mk A140
                clear A140
                by_cases c15 : t160 = true
                · subst c15
                  have H1 : (some false) = some r := by rw [if_pos rfl] at H; exact H
                  clear H
                  have H := H1
                  clear H1
                  obtain rfl := Option.some.inj H
                  go_enter Tryd.func12, Tryd.ntmps12
                  go_wp2_with (first | ((with_reducible refine gate_callee (f := 19) rfl ?_); refine goesL_ (some 2) rfl rfl Tryd.func19 (by kernel_rfl) rfl #[.string (⟨#[35, 32, 97, 32, 114, 101, 109, 97, 114, 107, 47, 100, 101, 110, 121, 32, 49, 32, 62, 32, 50, 32, 53, 47, 32, 97, 108, 108, 111, 119, 32, 32, 49, 32, 62, 32, 42, 32, 48, 45, 57]⟩ : ByteArray)] rfl (by (try simp only [List.map_toArray, List.map_cons, List.map_nil]); first | done | rfl | (simp only [List.length_drop, List.length_take]; rfl)) ?_; (with_reducible refine (causewaylaw20_rules.calls (⟨#[35, 32, 97, 32, 114, 101, 109, 97, 114, 107, 47, 100, 101, 110, 121, 32, 49, 32, 62, 32, 50, 32, 53, 47, 32, 97, 108, 108, 111, 119, 32, 32, 49, 32, 62, 32, 42, 32, 48, 45, 57]⟩ : ByteArray) t153 _ ?side1 A1.out).mono ?_); (case side1 => exact LaidW.below HX.out (by repeat (first | (with_reducible first | exact HB.out | apply below_alloc | apply pw_below_drewN | apply below_drew1) | exact HB.out))); rintro e w16 ⟨v154, rfl, ho0, hb⟩; refine ⟨_, rfl, ?_⟩; have n0_ := Aside0.mk (Kd.R_lower ho0 (below_size (by repeat (first | (with_reducible first | exact HB.out | apply below_alloc | apply pw_below_drewN | apply below_drew1) | exact HB.out)))); have n1_ := Aside0.mk (below_step (by repeat (first | (with_reducible first | exact HB.out | apply below_alloc | apply pw_below_drewN | apply below_drew1) | exact HB.out)) hb); clear HB; have HO155 := n0_; have HB := n1_; clear n0_ n1_; (try clear hb); (try clear hb2); (try clear hk); (try clear hi); (try clear ho0); obtain ⟨Ao17, co17, eo17⟩ := Kd.R_slice HO155.out; subst eo17; have p156 : 0 ≤ (0 : Int) := (by omega); have q156 : 0 < (t153.length : Int) := of_decide_eq_true (by first | (with_reducible assumption) | assumption); obtain ⟨ad156, e156, hx156_0, hx156_1, hx156_2, hx156_3, hx156_4⟩ := at_T37 (Kd.R_reads' HO155.out).2.2 0 p156 q156; cases e156; have qi156 : (0 < t153.length) = True := eq_true (by omega); (try rw [show ((0 : Int)).toNat = 0 from rfl] at hx156_0); (try rw [show 0 * 5 = 0 from rfl] at hx156_0); (try rw [Addr.add_zero'] at hx156_0); (try rw [show ((0 : Int)).toNat = 0 from rfl] at hx156_1); (try rw [show 0 * 5 = 0 from rfl] at hx156_1); (try rw [Addr.add_zero'] at hx156_1); (try rw [show ((0 : Int)).toNat = 0 from rfl] at hx156_2); (try rw [show 0 * 5 = 0 from rfl] at hx156_2); (try rw [Addr.add_zero'] at hx156_2); (try rw [show ((0 : Int)).toNat = 0 from rfl] at hx156_3); (try rw [show 0 * 5 = 0 from rfl] at hx156_3); (try rw [Addr.add_zero'] at hx156_3); (try rw [show ((0 : Int)).toNat = 0 from rfl] at hx156_4); (try rw [show 0 * 5 = 0 from rfl] at hx156_4); (try rw [Addr.add_zero'] at hx156_4); replace p156 := eq_true p156; replace q156 := eq_true q156; have p157 : 0 ≤ (1 : Int) := (by omega); have q157 : 1 < (t153.length : Int) := of_decide_eq_true (by first | (with_reducible assumption) | assumption); obtain ⟨ad157, e157, hx157_0, hx157_1, hx157_2, hx157_3, hx157_4⟩ := at_T37 (Kd.R_reads' HO155.out).2.2 1 p157 q157; obtain rfl : ad156 = ad157 := (by injection e157); (try simp only [show (1 : Int).toNat = 1 from rfl, Nat.reduceMul, Nat.reduceEqDiff, Go.Addr.add, ↓reduceIte] at hx157_0); (try simp only [show (1 : Int).toNat = 1 from rfl, Nat.reduceMul, Nat.reduceEqDiff, Go.Addr.add, ↓reduceIte] at hx157_1); (try simp only [show (1 : Int).toNat = 1 from rfl, Nat.reduceMul, Nat.reduceEqDiff, Go.Addr.add, ↓reduceIte] at hx157_2); (try simp only [show (1 : Int).toNat = 1 from rfl, Nat.reduceMul, Nat.reduceEqDiff, Go.Addr.add, ↓reduceIte] at hx157_3); (try simp only [show (1 : Int).toNat = 1 from rfl, Nat.reduceMul, Nat.reduceEqDiff, Go.Addr.add, ↓reduceIte] at hx157_4); have qi157 : (1 < t153.length) = True := eq_true (by omega); (try rw [show ((1 : Int)).toNat = 1 from rfl] at hx157_0); (try rw [show 1 * 5 = 5 from rfl] at hx157_0); (try rw [show ((1 : Int)).toNat = 1 from rfl] at hx157_1); (try rw [show 1 * 5 = 5 from rfl] at hx157_1); (try rw [show ((1 : Int)).toNat = 1 from rfl] at hx157_2); (try rw [show 1 * 5 = 5 from rfl] at hx157_2); (try rw [show ((1 : Int)).toNat = 1 from rfl] at hx157_3); (try rw [show 1 * 5 = 5 from rfl] at hx157_3); (try rw [show ((1 : Int)).toNat = 1 from rfl] at hx157_4); (try rw [show 1 * 5 = 5 from rfl] at hx157_4); replace p157 := eq_true p157; replace q157 := eq_true q157) | (go_at_call 10; (with_reducible refine (acl_Allows.calls k _ _ t153 1 2 5 false _ ?side1 ?side2 A7.out).mono ?_); (case side1 => repeat (first | exact (Kd.R_reads' HO155.out).2.2 | (with_reducible refine Kd.C_alloc ?_ _) | (with_reducible refine Kd.C_drewN ?_ _) | (with_reducible refine Kd.C_drew ?_))); (case side2 => exact (Kd.R_reads' HO155.out).2.1); rintro e w18 ⟨rfl, hb⟩; have n0_ := Aside0.mk (Kd.R_below (by (with_reducible repeat (first | apply Kd.R_alloc | apply Kd.R_drewN | apply Kd.R_drew)); exact HO155.out) hb); have n1_ := Aside0.mk (below_step (by repeat (first | (with_reducible first | exact HB.out | apply below_alloc | apply pw_below_drewN | apply below_drew1) | exact HB.out)) hb); clear HO155; clear HB; have HO155 := n0_; have HB := n1_; clear n0_ n1_; (try clear hb); (try clear hb2); (try clear hk); (try clear hi)) | (go_at_call 10; (with_reducible refine (acl_Allows.calls k _ _ t153 1 2 6 true _ ?side1 ?side2 A12.out).mono ?_); (case side1 => repeat (first | exact (Kd.R_reads' HO155.out).2.2 | (with_reducible refine Kd.C_alloc ?_ _) | (with_reducible refine Kd.C_drewN ?_ _) | (with_reducible refine Kd.C_drew ?_))); (case side2 => exact (Kd.R_reads' HO155.out).2.1); rintro e w19 ⟨rfl, hb⟩; have n0_ := Aside0.mk (Kd.R_below (by (with_reducible repeat (first | apply Kd.R_alloc | apply Kd.R_drewN | apply Kd.R_drew)); exact HO155.out) hb); have n1_ := Aside0.mk (below_step (by repeat (first | (with_reducible first | exact HB.out | apply below_alloc | apply pw_below_drewN | apply below_drew1) | exact HB.out)) hb); clear HO155; clear HB; have HO155 := n0_; have HB := n1_; clear n0_ n1_; (try clear hb); (try clear hb2); (try clear hk); (try clear hi)) | (go_at_call 10; (with_reducible refine (acl_Allows.calls k _ _ t153 2 1 6 true _ ?side1 ?side2 A14.out).mono ?_); (case side1 => repeat (first | exact (Kd.R_reads' HO155.out).2.2 | (with_reducible refine Kd.C_alloc ?_ _) | (with_reducible refine Kd.C_drewN ?_ _) | (with_reducible refine Kd.C_drew ?_))); (case side2 => exact (Kd.R_reads' HO155.out).2.1); rintro e w20 ⟨rfl, hb⟩; have n0_ := Aside0.mk (Kd.R_below (by (with_reducible repeat (first | apply Kd.R_alloc | apply Kd.R_drewN | apply Kd.R_drew)); exact HO155.out) hb); have n1_ := Aside0.mk (below_step (by repeat (first | (with_reducible first | exact HB.out | apply below_alloc | apply pw_below_drewN | apply below_drew1) | exact HB.out)) hb); clear HO155; clear HB; have HO155 := n0_; have HB := n1_; clear n0_ n1_; (try clear hb); (try clear hb2); (try clear hk); (try clear hi)))
                  go_ret
                  exact ⟨by first | rfl | (simp [errW_none, errW_some] <;> rfl) | (simp [*, errW_none, errW_some] <;> rfl), by repeat (first | (with_reducible first | exact HB.out | apply below_alloc | apply pw_below_drewN | apply below_drew1) | exact HB.out)⟩
                · replace c15 := Bool.eq_false_iff.mpr c15
                  subst c15
                  have H1 : ((acl_Spans.f k t153 1 2).bind fun t161 => ((causewayref20_SameSpans.f k t161 (([(⟨0, 4⟩ : S32), (⟨6, 9⟩ : S32)] : List (S32)))).bind fun t167 => (some t167))) = some r := by rw [if_neg (show ¬ (false = true) by decide)] at H; exact H
                  clear H
                  have H := H1
                  clear H1
                  replace H := Option.bind_eq_some_iff.mp H
                  obtain ⟨t161, A210, H⟩ := H
                  replace H : ((causewayref20_SameSpans.f k t161 (([(⟨0, 4⟩ : S32), (⟨6, 9⟩ : S32)] : List (S32)))).bind fun t167 => (some t167)) = some r := H
                  have A21 := Aside0.mk A210
                  clear A210
                  obtain ⟨y164, hy164⟩ : ∃ y_ : List (S32), y_ = (([(⟨0, 4⟩ : S32), (⟨6, 9⟩ : S32)] : List (S32))) := ⟨_, rfl⟩
                  replace H : ((causewayref20_SameSpans.f k t161 y164).bind fun t167 => (some t167)) = some r := by first | (rw [hy164]; with_reducible exact H) | (have H2_ := (Option.bind_some _ _).symm.trans H; rw [hy164]; with_reducible exact H2_) | (have H2_ := (Option.bind_some _ _).symm.trans H; with_reducible exact H2_) | with_reducible exact H | (rw [hy164]; exact H) | exact H
                  have Ny164 := Aside0.mk hy164
                  clear hy164
                  replace H := Option.bind_eq_some_iff.mp H
                  obtain ⟨t167, A220, H⟩ := H
                  replace H : (some t167) = some r := H
                  have A22 := Aside0.mk A220
                  clear A220
                  obtain rfl := Option.some.inj H
                  go_enter Tryd.func12, Tryd.ntmps12
                  go_wp2_with (first | ((with_reducible refine gate_callee (f := 19) rfl ?_); refine goesL_ (some 2) rfl rfl Tryd.func19 (by kernel_rfl) rfl #[.string (⟨#[35, 32, 97, 32, 114, 101, 109, 97, 114, 107, 47, 100, 101, 110, 121, 32, 49, 32, 62, 32, 50, 32, 53, 47, 32, 97, 108, 108, 111, 119, 32, 32, 49, 32, 62, 32, 42, 32, 48, 45, 57]⟩ : ByteArray)] rfl (by (try simp only [List.map_toArray, List.map_cons, List.map_nil]); first | done | rfl | (simp only [List.length_drop, List.length_take]; rfl)) ?_; (with_reducible refine (causewaylaw20_rules.calls (⟨#[35, 32, 97, 32, 114, 101, 109, 97, 114, 107, 47, 100, 101, 110, 121, 32, 49, 32, 62, 32, 50, 32, 53, 47, 32, 97, 108, 108, 111, 119, 32, 32, 49, 32, 62, 32, 42, 32, 48, 45, 57]⟩ : ByteArray) t153 _ ?side1 A1.out).mono ?_); (case side1 => exact LaidW.below HX.out (by repeat (first | (with_reducible first | exact HB.out | apply below_alloc | apply pw_below_drewN | apply below_drew1) | exact HB.out))); rintro e w23 ⟨v154, rfl, ho0, hb⟩; refine ⟨_, rfl, ?_⟩; have n0_ := Aside0.mk (Kd.R_lower ho0 (below_size (by repeat (first | (with_reducible first | exact HB.out | apply below_alloc | apply pw_below_drewN | apply below_drew1) | exact HB.out)))); have n1_ := Aside0.mk (below_step (by repeat (first | (with_reducible first | exact HB.out | apply below_alloc | apply pw_below_drewN | apply below_drew1) | exact HB.out)) hb); clear HB; have HO155 := n0_; have HB := n1_; clear n0_ n1_; (try clear hb); (try clear hb2); (try clear hk); (try clear hi); (try clear ho0); obtain ⟨Ao24, co24, eo24⟩ := Kd.R_slice HO155.out; subst eo24; have p156 : 0 ≤ (0 : Int) := (by omega); have q156 : 0 < (t153.length : Int) := of_decide_eq_true (by first | (with_reducible assumption) | assumption); obtain ⟨ad156, e156, hx156_0, hx156_1, hx156_2, hx156_3, hx156_4⟩ := at_T37 (Kd.R_reads' HO155.out).2.2 0 p156 q156; cases e156; have qi156 : (0 < t153.length) = True := eq_true (by omega); (try rw [show ((0 : Int)).toNat = 0 from rfl] at hx156_0); (try rw [show 0 * 5 = 0 from rfl] at hx156_0); (try rw [Addr.add_zero'] at hx156_0); (try rw [show ((0 : Int)).toNat = 0 from rfl] at hx156_1); (try rw [show 0 * 5 = 0 from rfl] at hx156_1); (try rw [Addr.add_zero'] at hx156_1); (try rw [show ((0 : Int)).toNat = 0 from rfl] at hx156_2); (try rw [show 0 * 5 = 0 from rfl] at hx156_2); (try rw [Addr.add_zero'] at hx156_2); (try rw [show ((0 : Int)).toNat = 0 from rfl] at hx156_3); (try rw [show 0 * 5 = 0 from rfl] at hx156_3); (try rw [Addr.add_zero'] at hx156_3); (try rw [show ((0 : Int)).toNat = 0 from rfl] at hx156_4); (try rw [show 0 * 5 = 0 from rfl] at hx156_4); (try rw [Addr.add_zero'] at hx156_4); replace p156 := eq_true p156; replace q156 := eq_true q156; have p157 : 0 ≤ (1 : Int) := (by omega); have q157 : 1 < (t153.length : Int) := of_decide_eq_true (by first | (with_reducible assumption) | assumption); obtain ⟨ad157, e157, hx157_0, hx157_1, hx157_2, hx157_3, hx157_4⟩ := at_T37 (Kd.R_reads' HO155.out).2.2 1 p157 q157; obtain rfl : ad156 = ad157 := (by injection e157); (try simp only [show (1 : Int).toNat = 1 from rfl, Nat.reduceMul, Nat.reduceEqDiff, Go.Addr.add, ↓reduceIte] at hx157_0); (try simp only [show (1 : Int).toNat = 1 from rfl, Nat.reduceMul, Nat.reduceEqDiff, Go.Addr.add, ↓reduceIte] at hx157_1); (try simp only [show (1 : Int).toNat = 1 from rfl, Nat.reduceMul, Nat.reduceEqDiff, Go.Addr.add, ↓reduceIte] at hx157_2); (try simp only [show (1 : Int).toNat = 1 from rfl, Nat.reduceMul, Nat.reduceEqDiff, Go.Addr.add, ↓reduceIte] at hx157_3); (try simp only [show (1 : Int).toNat = 1 from rfl, Nat.reduceMul, Nat.reduceEqDiff, Go.Addr.add, ↓reduceIte] at hx157_4); have qi157 : (1 < t153.length) = True := eq_true (by omega); (try rw [show ((1 : Int)).toNat = 1 from rfl] at hx157_0); (try rw [show 1 * 5 = 5 from rfl] at hx157_0); (try rw [show ((1 : Int)).toNat = 1 from rfl] at hx157_1); (try rw [show 1 * 5 = 5 from rfl] at hx157_1); (try rw [show ((1 : Int)).toNat = 1 from rfl] at hx157_2); (try rw [show 1 * 5 = 5 from rfl] at hx157_2); (try rw [show ((1 : Int)).toNat = 1 from rfl] at hx157_3); (try rw [show 1 * 5 = 5 from rfl] at hx157_3); (try rw [show ((1 : Int)).toNat = 1 from rfl] at hx157_4); (try rw [show 1 * 5 = 5 from rfl] at hx157_4); replace p157 := eq_true p157; replace q157 := eq_true q157) | (go_at_call 10; (with_reducible refine (acl_Allows.calls k _ _ t153 1 2 5 false _ ?side1 ?side2 A7.out).mono ?_); (case side1 => repeat (first | exact (Kd.R_reads' HO155.out).2.2 | (with_reducible refine Kd.C_alloc ?_ _) | (with_reducible refine Kd.C_drewN ?_ _) | (with_reducible refine Kd.C_drew ?_))); (case side2 => exact (Kd.R_reads' HO155.out).2.1); rintro e w25 ⟨rfl, hb⟩; have n0_ := Aside0.mk (Kd.R_below (by (with_reducible repeat (first | apply Kd.R_alloc | apply Kd.R_drewN | apply Kd.R_drew)); exact HO155.out) hb); have n1_ := Aside0.mk (below_step (by repeat (first | (with_reducible first | exact HB.out | apply below_alloc | apply pw_below_drewN | apply below_drew1) | exact HB.out)) hb); clear HO155; clear HB; have HO155 := n0_; have HB := n1_; clear n0_ n1_; (try clear hb); (try clear hb2); (try clear hk); (try clear hi)) | (go_at_call 10; (with_reducible refine (acl_Allows.calls k _ _ t153 1 2 6 true _ ?side1 ?side2 A12.out).mono ?_); (case side1 => repeat (first | exact (Kd.R_reads' HO155.out).2.2 | (with_reducible refine Kd.C_alloc ?_ _) | (with_reducible refine Kd.C_drewN ?_ _) | (with_reducible refine Kd.C_drew ?_))); (case side2 => exact (Kd.R_reads' HO155.out).2.1); rintro e w26 ⟨rfl, hb⟩; have n0_ := Aside0.mk (Kd.R_below (by (with_reducible repeat (first | apply Kd.R_alloc | apply Kd.R_drewN | apply Kd.R_drew)); exact HO155.out) hb); have n1_ := Aside0.mk (below_step (by repeat (first | (with_reducible first | exact HB.out | apply below_alloc | apply pw_below_drewN | apply below_drew1) | exact HB.out)) hb); clear HO155; clear HB; have HO155 := n0_; have HB := n1_; clear n0_ n1_; (try clear hb); (try clear hb2); (try clear hk); (try clear hi)) | (go_at_call 10; (with_reducible refine (acl_Allows.calls k _ _ t153 2 1 6 false _ ?side1 ?side2 A14.out).mono ?_); (case side1 => repeat (first | exact (Kd.R_reads' HO155.out).2.2 | (with_reducible refine Kd.C_alloc ?_ _) | (with_reducible refine Kd.C_drewN ?_ _) | (with_reducible refine Kd.C_drew ?_))); (case side2 => exact (Kd.R_reads' HO155.out).2.1); rintro e w27 ⟨rfl, hb⟩; have n0_ := Aside0.mk (Kd.R_below (by (with_reducible repeat (first | apply Kd.R_alloc | apply Kd.R_drewN | apply Kd.R_drew)); exact HO155.out) hb); have n1_ := Aside0.mk (below_step (by repeat (first | (with_reducible first | exact HB.out | apply below_alloc | apply pw_below_drewN | apply below_drew1) | exact HB.out)) hb); clear HO155; clear HB; have HO155 := n0_; have HB := n1_; clear n0_ n1_; (try clear hb); (try clear hb2); (try clear hk); (try clear hi)) | (go_at_call 13; (with_reducible refine (acl_Spans.calls k _ _ t153 1 2 t161 _ ?side1 ?side2 A21.out).mono ?_); (case side1 => repeat (first | exact (Kd.R_reads' HO155.out).2.2 | (with_reducible refine Kd.C_alloc ?_ _) | (with_reducible refine Kd.C_drewN ?_ _) | (with_reducible refine Kd.C_drew ?_))); (case side2 => exact (Kd.R_reads' HO155.out).2.1); rintro e w28 ⟨v162, rfl, ho0, hb⟩; have n0_ := Aside0.mk (Kd.R_below (by (with_reducible repeat (first | apply Kd.R_alloc | apply Kd.R_drewN | apply Kd.R_drew)); exact HO155.out) hb); have n1_ := Aside0.mk (Kd.R_lower ho0 (below_size (by repeat (first | (with_reducible first | exact HB.out | apply below_alloc | apply pw_below_drewN | apply below_drew1) | exact HB.out)))); have n2_ := Aside0.mk (below_step (by repeat (first | (with_reducible first | exact HB.out | apply below_alloc | apply pw_below_drewN | apply below_drew1) | exact HB.out)) hb); clear HO155; clear HB; have HO155 := n0_; have HO163 := n1_; have HB := n2_; clear n0_ n1_ n2_; (try clear hb); (try clear hb2); (try clear hk); (try clear hi); (try clear ho0)) | ((with_reducible refine gate_dst (N := 39) rfl ?_); (try (refine gate_guard (by rfl) ?_; dsimp only)); refine Kd.R_lit k32 _ 32 ?hg (N := 39) ?hd (xs := ([(⟨0, 4⟩ : S32), (⟨6, 9⟩ : S32)] : List (S32))) (inner := [.int .i64 0, .int .i64 4, .int .i64 6, .int .i64 9]) (ok := fun _ => True) (okp := fun _ => True) ?hr ?hp (fun _ hk => hk) trivial (Below.refl _ _) (Nat.le_refl _) (by simp) ?_; (case hd => rfl); (case hg => rfl); (case hr => first | (go_simp; done) | (go_simp; rfl)); (case hp => exact (Reps.c2 (show Kd.M k32 _ _ _ (⟨0, 4⟩ : S32) [.int .i64 0, .int .i64 4] from (k32_mkM _ _ _ (⟨0, 4⟩ : S32) )) (Reps.c2 (show Kd.M k32 _ _ _ (⟨6, 9⟩ : S32) [.int .i64 6, .int .i64 9] from (k32_mkM _ _ _ (⟨6, 9⟩ : S32) )) (Reps.none _ _)))); intro v165 w29 ho30 hb hg_ hnew_; clear hg_ hnew_; (first | rw [← Ny164.out] at ho30 | (simp only [Int.reduceToNat] at ho30; rw [← Ny164.out] at ho30)); have n0_ := Aside0.mk (Kd.R_below (by (with_reducible repeat (first | apply Kd.R_alloc | apply Kd.R_drewN | apply Kd.R_drew)); exact HO155.out) hb); have n1_ := Aside0.mk (Kd.R_elder' (by (with_reducible repeat (first | apply Kd.R_alloc | apply Kd.R_drewN | apply Kd.R_drew)); exact HO163.out) (Kd.R_base ho30) hb); have n2_ := Aside0.mk (Kd.R_lower (Kd.R_new' ho30 (Kd.R_lt (by (with_reducible repeat (first | apply Kd.R_alloc | apply Kd.R_drewN | apply Kd.R_drew)); exact HO163.out))) (below_size (by repeat (first | (with_reducible first | exact HB.out | apply below_alloc | apply pw_below_drewN | apply below_drew1) | exact HB.out)))); have n3_ := Aside0.mk (below_step (by repeat (first | (with_reducible first | exact HB.out | apply below_alloc | apply pw_below_drewN | apply below_drew1) | exact HB.out)) hb); clear HO155; clear HO163; clear HB; have HO155 := n0_; have HO163 := n1_; have HO166 := n2_; have HB := n3_; clear n0_ n1_ n2_ n3_; clear hb ho30; obtain ⟨Ao31, co31, eo31⟩ := Kd.R_slice HO163.out; subst eo31; obtain ⟨Ao32, co32, eo32⟩ := Kd.R_slice HO166.out; subst eo32) | (go_at_call 14; (with_reducible refine (causewayref20_SameSpans.calls k _ _ t161 _ _ y164 t167 _ ?side1 ?side2 ?side3 ?side4 A22.out).mono ?_); (case side1 => repeat (first | exact (Kd.R_reads' HO163.out).2.2 | (with_reducible refine Kd.C_alloc ?_ _) | (with_reducible refine Kd.C_drewN ?_ _) | (with_reducible refine Kd.C_drew ?_))); (case side2 => exact (Kd.R_reads' HO163.out).2.1); (case side3 => repeat (first | exact (Kd.R_reads' HO166.out).2.2 | (with_reducible refine Kd.C_alloc ?_ _) | (with_reducible refine Kd.C_drewN ?_ _) | (with_reducible refine Kd.C_drew ?_))); (case side4 => exact (Kd.R_reads' HO166.out).2.1); rintro e w' ⟨rfl, ⟨nd, rfl⟩⟩))
                  go_ret
                  exact ⟨by first | rfl | (simp [errW_none, errW_some] <;> rfl) | (simp [*, errW_none, errW_some] <;> rfl), by repeat (first | (with_reducible first | exact HB.out | apply below_alloc | apply pw_below_drewN | apply below_drew1) | exact HB.out)⟩
              · replace c13 := Bool.eq_false_iff.mpr c13
                subst c13
                have H1 : (some false) = some r := by rw [if_neg (show ¬ (false = true) by decide)] at H; exact H
                clear H
                have H := H1
                clear H1
                obtain rfl := Option.some.inj H
                go_enter Tryd.func12, Tryd.ntmps12
                go_wp2_with (first | ((with_reducible refine gate_callee (f := 19) rfl ?_); refine goesL_ (some 2) rfl rfl Tryd.func19 (by kernel_rfl) rfl #[.string (⟨#[35, 32, 97, 32, 114, 101, 109, 97, 114, 107, 47, 100, 101, 110, 121, 32, 49, 32, 62, 32, 50, 32, 53, 47, 32, 97, 108, 108, 111, 119, 32, 32, 49, 32, 62, 32, 42, 32, 48, 45, 57]⟩ : ByteArray)] rfl (by (try simp only [List.map_toArray, List.map_cons, List.map_nil]); first | done | rfl | (simp only [List.length_drop, List.length_take]; rfl)) ?_; (with_reducible refine (causewaylaw20_rules.calls (⟨#[35, 32, 97, 32, 114, 101, 109, 97, 114, 107, 47, 100, 101, 110, 121, 32, 49, 32, 62, 32, 50, 32, 53, 47, 32, 97, 108, 108, 111, 119, 32, 32, 49, 32, 62, 32, 42, 32, 48, 45, 57]⟩ : ByteArray) t153 _ ?side1 A1.out).mono ?_); (case side1 => exact LaidW.below HX.out (by repeat (first | (with_reducible first | exact HB.out | apply below_alloc | apply pw_below_drewN | apply below_drew1) | exact HB.out))); rintro e w33 ⟨v154, rfl, ho0, hb⟩; refine ⟨_, rfl, ?_⟩; have n0_ := Aside0.mk (Kd.R_lower ho0 (below_size (by repeat (first | (with_reducible first | exact HB.out | apply below_alloc | apply pw_below_drewN | apply below_drew1) | exact HB.out)))); have n1_ := Aside0.mk (below_step (by repeat (first | (with_reducible first | exact HB.out | apply below_alloc | apply pw_below_drewN | apply below_drew1) | exact HB.out)) hb); clear HB; have HO155 := n0_; have HB := n1_; clear n0_ n1_; (try clear hb); (try clear hb2); (try clear hk); (try clear hi); (try clear ho0); obtain ⟨Ao34, co34, eo34⟩ := Kd.R_slice HO155.out; subst eo34; have p156 : 0 ≤ (0 : Int) := (by omega); have q156 : 0 < (t153.length : Int) := of_decide_eq_true (by first | (with_reducible assumption) | assumption); obtain ⟨ad156, e156, hx156_0, hx156_1, hx156_2, hx156_3, hx156_4⟩ := at_T37 (Kd.R_reads' HO155.out).2.2 0 p156 q156; cases e156; have qi156 : (0 < t153.length) = True := eq_true (by omega); (try rw [show ((0 : Int)).toNat = 0 from rfl] at hx156_0); (try rw [show 0 * 5 = 0 from rfl] at hx156_0); (try rw [Addr.add_zero'] at hx156_0); (try rw [show ((0 : Int)).toNat = 0 from rfl] at hx156_1); (try rw [show 0 * 5 = 0 from rfl] at hx156_1); (try rw [Addr.add_zero'] at hx156_1); (try rw [show ((0 : Int)).toNat = 0 from rfl] at hx156_2); (try rw [show 0 * 5 = 0 from rfl] at hx156_2); (try rw [Addr.add_zero'] at hx156_2); (try rw [show ((0 : Int)).toNat = 0 from rfl] at hx156_3); (try rw [show 0 * 5 = 0 from rfl] at hx156_3); (try rw [Addr.add_zero'] at hx156_3); (try rw [show ((0 : Int)).toNat = 0 from rfl] at hx156_4); (try rw [show 0 * 5 = 0 from rfl] at hx156_4); (try rw [Addr.add_zero'] at hx156_4); replace p156 := eq_true p156; replace q156 := eq_true q156; have p157 : 0 ≤ (1 : Int) := (by omega); have q157 : 1 < (t153.length : Int) := of_decide_eq_true (by first | (with_reducible assumption) | assumption); obtain ⟨ad157, e157, hx157_0, hx157_1, hx157_2, hx157_3, hx157_4⟩ := at_T37 (Kd.R_reads' HO155.out).2.2 1 p157 q157; obtain rfl : ad156 = ad157 := (by injection e157); (try simp only [show (1 : Int).toNat = 1 from rfl, Nat.reduceMul, Nat.reduceEqDiff, Go.Addr.add, ↓reduceIte] at hx157_0); (try simp only [show (1 : Int).toNat = 1 from rfl, Nat.reduceMul, Nat.reduceEqDiff, Go.Addr.add, ↓reduceIte] at hx157_1); (try simp only [show (1 : Int).toNat = 1 from rfl, Nat.reduceMul, Nat.reduceEqDiff, Go.Addr.add, ↓reduceIte] at hx157_2); (try simp only [show (1 : Int).toNat = 1 from rfl, Nat.reduceMul, Nat.reduceEqDiff, Go.Addr.add, ↓reduceIte] at hx157_3); (try simp only [show (1 : Int).toNat = 1 from rfl, Nat.reduceMul, Nat.reduceEqDiff, Go.Addr.add, ↓reduceIte] at hx157_4); have qi157 : (1 < t153.length) = True := eq_true (by omega); (try rw [show ((1 : Int)).toNat = 1 from rfl] at hx157_0); (try rw [show 1 * 5 = 5 from rfl] at hx157_0); (try rw [show ((1 : Int)).toNat = 1 from rfl] at hx157_1); (try rw [show 1 * 5 = 5 from rfl] at hx157_1); (try rw [show ((1 : Int)).toNat = 1 from rfl] at hx157_2); (try rw [show 1 * 5 = 5 from rfl] at hx157_2); (try rw [show ((1 : Int)).toNat = 1 from rfl] at hx157_3); (try rw [show 1 * 5 = 5 from rfl] at hx157_3); (try rw [show ((1 : Int)).toNat = 1 from rfl] at hx157_4); (try rw [show 1 * 5 = 5 from rfl] at hx157_4); replace p157 := eq_true p157; replace q157 := eq_true q157) | (go_at_call 10; (with_reducible refine (acl_Allows.calls k _ _ t153 1 2 5 false _ ?side1 ?side2 A7.out).mono ?_); (case side1 => repeat (first | exact (Kd.R_reads' HO155.out).2.2 | (with_reducible refine Kd.C_alloc ?_ _) | (with_reducible refine Kd.C_drewN ?_ _) | (with_reducible refine Kd.C_drew ?_))); (case side2 => exact (Kd.R_reads' HO155.out).2.1); rintro e w35 ⟨rfl, hb⟩; have n0_ := Aside0.mk (Kd.R_below (by (with_reducible repeat (first | apply Kd.R_alloc | apply Kd.R_drewN | apply Kd.R_drew)); exact HO155.out) hb); have n1_ := Aside0.mk (below_step (by repeat (first | (with_reducible first | exact HB.out | apply below_alloc | apply pw_below_drewN | apply below_drew1) | exact HB.out)) hb); clear HO155; clear HB; have HO155 := n0_; have HB := n1_; clear n0_ n1_; (try clear hb); (try clear hb2); (try clear hk); (try clear hi)) | (go_at_call 10; (with_reducible refine (acl_Allows.calls k _ _ t153 1 2 6 false _ ?side1 ?side2 A12.out).mono ?_); (case side1 => repeat (first | exact (Kd.R_reads' HO155.out).2.2 | (with_reducible refine Kd.C_alloc ?_ _) | (with_reducible refine Kd.C_drewN ?_ _) | (with_reducible refine Kd.C_drew ?_))); (case side2 => exact (Kd.R_reads' HO155.out).2.1); rintro e w36 ⟨rfl, hb⟩; have n0_ := Aside0.mk (Kd.R_below (by (with_reducible repeat (first | apply Kd.R_alloc | apply Kd.R_drewN | apply Kd.R_drew)); exact HO155.out) hb); have n1_ := Aside0.mk (below_step (by repeat (first | (with_reducible first | exact HB.out | apply below_alloc | apply pw_below_drewN | apply below_drew1) | exact HB.out)) hb); clear HO155; clear HB; have HO155 := n0_; have HB := n1_; clear n0_ n1_; (try clear hb); (try clear hb2); (try clear hk); (try clear hi)))
                go_ret
                exact ⟨by first | rfl | (simp [errW_none, errW_some] <;> rfl) | (simp [*, errW_none, errW_some] <;> rfl), by repeat (first | (with_reducible first | exact HB.out | apply below_alloc | apply pw_below_drewN | apply below_drew1) | exact HB.out)⟩
          · rw [if_neg c6] at H
            have c6b0 : (((rd_T37 t153 1).f0) && (((rd_T37 t153 1).f1) == 2 && (((rd_T37 t153 1).f2) == 510 && (((rd_T37 t153 1).f3) == 0 && (((rd_T37 t153 1).f4) == 9))))) = false := by simpa using c6
            clear c6
            obtain rfl := Option.some.inj H
            go_enter Tryd.func12, Tryd.ntmps12
            go_wp2_with (first | ((with_reducible refine gate_callee (f := 19) rfl ?_); refine goesL_ (some 2) rfl rfl Tryd.func19 (by kernel_rfl) rfl #[.string (⟨#[35, 32, 97, 32, 114, 101, 109, 97, 114, 107, 47, 100, 101, 110, 121, 32, 49, 32, 62, 32, 50, 32, 53, 47, 32, 97, 108, 108, 111, 119, 32, 32, 49, 32, 62, 32, 42, 32, 48, 45, 57]⟩ : ByteArray)] rfl (by (try simp only [List.map_toArray, List.map_cons, List.map_nil]); first | done | rfl | (simp only [List.length_drop, List.length_take]; rfl)) ?_; (with_reducible refine (causewaylaw20_rules.calls (⟨#[35, 32, 97, 32, 114, 101, 109, 97, 114, 107, 47, 100, 101, 110, 121, 32, 49, 32, 62, 32, 50, 32, 53, 47, 32, 97, 108, 108, 111, 119, 32, 32, 49, 32, 62, 32, 42, 32, 48, 45, 57]⟩ : ByteArray) t153 _ ?side1 A1.out).mono ?_); (case side1 => exact LaidW.below HX.out (by repeat (first | (with_reducible first | exact HB.out | apply below_alloc | apply pw_below_drewN | apply below_drew1) | exact HB.out))); rintro e w37 ⟨v154, rfl, ho0, hb⟩; refine ⟨_, rfl, ?_⟩; have n0_ := Aside0.mk (Kd.R_lower ho0 (below_size (by repeat (first | (with_reducible first | exact HB.out | apply below_alloc | apply pw_below_drewN | apply below_drew1) | exact HB.out)))); have n1_ := Aside0.mk (below_step (by repeat (first | (with_reducible first | exact HB.out | apply below_alloc | apply pw_below_drewN | apply below_drew1) | exact HB.out)) hb); clear HB; have HO155 := n0_; have HB := n1_; clear n0_ n1_; (try clear hb); (try clear hb2); (try clear hk); (try clear hi); (try clear ho0); obtain ⟨Ao38, co38, eo38⟩ := Kd.R_slice HO155.out; subst eo38; have p156 : 0 ≤ (0 : Int) := (by omega); have q156 : 0 < (t153.length : Int) := of_decide_eq_true (by first | (with_reducible assumption) | assumption); obtain ⟨ad156, e156, hx156_0, hx156_1, hx156_2, hx156_3, hx156_4⟩ := at_T37 (Kd.R_reads' HO155.out).2.2 0 p156 q156; cases e156; have qi156 : (0 < t153.length) = True := eq_true (by omega); (try rw [show ((0 : Int)).toNat = 0 from rfl] at hx156_0); (try rw [show 0 * 5 = 0 from rfl] at hx156_0); (try rw [Addr.add_zero'] at hx156_0); (try rw [show ((0 : Int)).toNat = 0 from rfl] at hx156_1); (try rw [show 0 * 5 = 0 from rfl] at hx156_1); (try rw [Addr.add_zero'] at hx156_1); (try rw [show ((0 : Int)).toNat = 0 from rfl] at hx156_2); (try rw [show 0 * 5 = 0 from rfl] at hx156_2); (try rw [Addr.add_zero'] at hx156_2); (try rw [show ((0 : Int)).toNat = 0 from rfl] at hx156_3); (try rw [show 0 * 5 = 0 from rfl] at hx156_3); (try rw [Addr.add_zero'] at hx156_3); (try rw [show ((0 : Int)).toNat = 0 from rfl] at hx156_4); (try rw [show 0 * 5 = 0 from rfl] at hx156_4); (try rw [Addr.add_zero'] at hx156_4); replace p156 := eq_true p156; replace q156 := eq_true q156; have p157 : 0 ≤ (1 : Int) := (by omega); have q157 : 1 < (t153.length : Int) := of_decide_eq_true (by first | (with_reducible assumption) | assumption); obtain ⟨ad157, e157, hx157_0, hx157_1, hx157_2, hx157_3, hx157_4⟩ := at_T37 (Kd.R_reads' HO155.out).2.2 1 p157 q157; obtain rfl : ad156 = ad157 := (by injection e157); (try simp only [show (1 : Int).toNat = 1 from rfl, Nat.reduceMul, Nat.reduceEqDiff, Go.Addr.add, ↓reduceIte] at hx157_0); (try simp only [show (1 : Int).toNat = 1 from rfl, Nat.reduceMul, Nat.reduceEqDiff, Go.Addr.add, ↓reduceIte] at hx157_1); (try simp only [show (1 : Int).toNat = 1 from rfl, Nat.reduceMul, Nat.reduceEqDiff, Go.Addr.add, ↓reduceIte] at hx157_2); (try simp only [show (1 : Int).toNat = 1 from rfl, Nat.reduceMul, Nat.reduceEqDiff, Go.Addr.add, ↓reduceIte] at hx157_3); (try simp only [show (1 : Int).toNat = 1 from rfl, Nat.reduceMul, Nat.reduceEqDiff, Go.Addr.add, ↓reduceIte] at hx157_4); have qi157 : (1 < t153.length) = True := eq_true (by omega); (try rw [show ((1 : Int)).toNat = 1 from rfl] at hx157_0); (try rw [show 1 * 5 = 5 from rfl] at hx157_0); (try rw [show ((1 : Int)).toNat = 1 from rfl] at hx157_1); (try rw [show 1 * 5 = 5 from rfl] at hx157_1); (try rw [show ((1 : Int)).toNat = 1 from rfl] at hx157_2); (try rw [show 1 * 5 = 5 from rfl] at hx157_2); (try rw [show ((1 : Int)).toNat = 1 from rfl] at hx157_3); (try rw [show 1 * 5 = 5 from rfl] at hx157_3); (try rw [show ((1 : Int)).toNat = 1 from rfl] at hx157_4); (try rw [show 1 * 5 = 5 from rfl] at hx157_4); replace p157 := eq_true p157; replace q157 := eq_true q157))
            go_ret
            exact ⟨by first | rfl | (simp [errW_none, errW_some] <;> rfl) | (simp [*, errW_none, errW_some] <;> rfl), by repeat (first | (with_reducible first | exact HB.out | apply below_alloc | apply pw_below_drewN | apply below_drew1) | exact HB.out)⟩
        · rw [if_neg c5] at H
          exact absurd H (by simp)
      · rw [if_neg c4] at H
        have c4b0 : (!((rd_T37 t153 0).f0) && (((rd_T37 t153 0).f1) == 2 && (((rd_T37 t153 0).f2) == 4 && (((rd_T37 t153 0).f3) == 5 && (((rd_T37 t153 0).f4) == 5))))) = false := by simpa using c4
        clear c4
        obtain rfl := Option.some.inj H
        go_enter Tryd.func12, Tryd.ntmps12
        go_wp2_with (first | ((with_reducible refine gate_callee (f := 19) rfl ?_); refine goesL_ (some 2) rfl rfl Tryd.func19 (by kernel_rfl) rfl #[.string (⟨#[35, 32, 97, 32, 114, 101, 109, 97, 114, 107, 47, 100, 101, 110, 121, 32, 49, 32, 62, 32, 50, 32, 53, 47, 32, 97, 108, 108, 111, 119, 32, 32, 49, 32, 62, 32, 42, 32, 48, 45, 57]⟩ : ByteArray)] rfl (by (try simp only [List.map_toArray, List.map_cons, List.map_nil]); first | done | rfl | (simp only [List.length_drop, List.length_take]; rfl)) ?_; (with_reducible refine (causewaylaw20_rules.calls (⟨#[35, 32, 97, 32, 114, 101, 109, 97, 114, 107, 47, 100, 101, 110, 121, 32, 49, 32, 62, 32, 50, 32, 53, 47, 32, 97, 108, 108, 111, 119, 32, 32, 49, 32, 62, 32, 42, 32, 48, 45, 57]⟩ : ByteArray) t153 _ ?side1 A1.out).mono ?_); (case side1 => exact LaidW.below HX.out (by repeat (first | (with_reducible first | exact HB.out | apply below_alloc | apply pw_below_drewN | apply below_drew1) | exact HB.out))); rintro e w39 ⟨v154, rfl, ho0, hb⟩; refine ⟨_, rfl, ?_⟩; have n0_ := Aside0.mk (Kd.R_lower ho0 (below_size (by repeat (first | (with_reducible first | exact HB.out | apply below_alloc | apply pw_below_drewN | apply below_drew1) | exact HB.out)))); have n1_ := Aside0.mk (below_step (by repeat (first | (with_reducible first | exact HB.out | apply below_alloc | apply pw_below_drewN | apply below_drew1) | exact HB.out)) hb); clear HB; have HO155 := n0_; have HB := n1_; clear n0_ n1_; (try clear hb); (try clear hb2); (try clear hk); (try clear hi); (try clear ho0); obtain ⟨Ao40, co40, eo40⟩ := Kd.R_slice HO155.out; subst eo40; have p156 : 0 ≤ (0 : Int) := (by omega); have q156 : 0 < (t153.length : Int) := of_decide_eq_true (by first | (with_reducible assumption) | assumption); obtain ⟨ad156, e156, hx156_0, hx156_1, hx156_2, hx156_3, hx156_4⟩ := at_T37 (Kd.R_reads' HO155.out).2.2 0 p156 q156; cases e156; have qi156 : (0 < t153.length) = True := eq_true (by omega); (try rw [show ((0 : Int)).toNat = 0 from rfl] at hx156_0); (try rw [show 0 * 5 = 0 from rfl] at hx156_0); (try rw [Addr.add_zero'] at hx156_0); (try rw [show ((0 : Int)).toNat = 0 from rfl] at hx156_1); (try rw [show 0 * 5 = 0 from rfl] at hx156_1); (try rw [Addr.add_zero'] at hx156_1); (try rw [show ((0 : Int)).toNat = 0 from rfl] at hx156_2); (try rw [show 0 * 5 = 0 from rfl] at hx156_2); (try rw [Addr.add_zero'] at hx156_2); (try rw [show ((0 : Int)).toNat = 0 from rfl] at hx156_3); (try rw [show 0 * 5 = 0 from rfl] at hx156_3); (try rw [Addr.add_zero'] at hx156_3); (try rw [show ((0 : Int)).toNat = 0 from rfl] at hx156_4); (try rw [show 0 * 5 = 0 from rfl] at hx156_4); (try rw [Addr.add_zero'] at hx156_4); replace p156 := eq_true p156; replace q156 := eq_true q156))
        go_ret
        exact ⟨by first | rfl | (simp [errW_none, errW_some] <;> rfl) | (simp [*, errW_none, errW_some] <;> rfl), by repeat (first | (with_reducible first | exact HB.out | apply below_alloc | apply pw_below_drewN | apply below_drew1) | exact HB.out)⟩
    · rw [if_neg c3] at H
      exact absurd H (by simp)
  · rw [if_neg c2] at H
    have c2b0 : ((t153.length : Int) == 2) = false := beq_eq_false_iff_ne.mpr c2
    have c2b1 : ((t153.length : Int) != 2) = true := bne_iff_ne.mpr c2
    obtain rfl := Option.some.inj H
    go_enter Tryd.func12, Tryd.ntmps12
    go_wp2_with (first | ((with_reducible refine gate_callee (f := 19) rfl ?_); refine goesL_ (some 2) rfl rfl Tryd.func19 (by kernel_rfl) rfl #[.string (⟨#[35, 32, 97, 32, 114, 101, 109, 97, 114, 107, 47, 100, 101, 110, 121, 32, 49, 32, 62, 32, 50, 32, 53, 47, 32, 97, 108, 108, 111, 119, 32, 32, 49, 32, 62, 32, 42, 32, 48, 45, 57]⟩ : ByteArray)] rfl (by (try simp only [List.map_toArray, List.map_cons, List.map_nil]); first | done | rfl | (simp only [List.length_drop, List.length_take]; rfl)) ?_; (with_reducible refine (causewaylaw20_rules.calls (⟨#[35, 32, 97, 32, 114, 101, 109, 97, 114, 107, 47, 100, 101, 110, 121, 32, 49, 32, 62, 32, 50, 32, 53, 47, 32, 97, 108, 108, 111, 119, 32, 32, 49, 32, 62, 32, 42, 32, 48, 45, 57]⟩ : ByteArray) t153 _ ?side1 A1.out).mono ?_); (case side1 => exact LaidW.below HX.out (by repeat (first | (with_reducible first | exact HB.out | apply below_alloc | apply pw_below_drewN | apply below_drew1) | exact HB.out))); rintro e w41 ⟨v154, rfl, ho0, hb⟩; refine ⟨_, rfl, ?_⟩; have n0_ := Aside0.mk (Kd.R_lower ho0 (below_size (by repeat (first | (with_reducible first | exact HB.out | apply below_alloc | apply pw_below_drewN | apply below_drew1) | exact HB.out)))); have n1_ := Aside0.mk (below_step (by repeat (first | (with_reducible first | exact HB.out | apply below_alloc | apply pw_below_drewN | apply below_drew1) | exact HB.out)) hb); clear HB; have HO155 := n0_; have HB := n1_; clear n0_ n1_; (try clear hb); (try clear hb2); (try clear hk); (try clear hi); (try clear ho0); obtain ⟨Ao42, co42, eo42⟩ := Kd.R_slice HO155.out; subst eo42))
    go_ret
    exact ⟨by first | rfl | (simp [errW_none, errW_some] <;> rfl) | (simp [*, errW_none, errW_some] <;> rfl), by repeat (first | (with_reducible first | exact HB.out | apply below_alloc | apply pw_below_drewN | apply below_drew1) | exact HB.out)⟩

end Go.Proofs.YtglnnlpkhjijhaaDoor.PA
