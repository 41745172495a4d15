-- printed by a program of this session (a turned copy of the kit's print program)
import Derived.Test.YtglnnlpkhjijhaaGreatDoorPAx0
import Derived.Test.YtglnnlpkhjijhaaGreatDoorPAyNames
namespace Go.Proofs.YtglnnlpkhjijhaaGreatDoor.PA
open Go.RowKit Go.Proofs.YtglnnlpkhjijhaaGreatDoorW.PrintWords Go.Proofs.YtglnnlpkhjijhaaGreatDoorW.PrintLast Go.Proofs.YtglnnlpkhjijhaaGreatDoorW.PrintMore
attribute [local go_sem] max2_int min2_int max_two min_two max_three min_three max_four min_four   -- for this text's walks alone
set_option linter.unusedVariables false
set_option linter.unusedSimpArgs false

/-! ### causewayref20_Text: function 13 -/
mutual
def causewayref20_Text.l0 : Nat → List (S36) → Int → Option (ByteArray × Int)
  | 0, _, _ => none
  | k + 1, x0, x4 => if x4 < (x0.length : Int) then (if 0 ≤ x4 then ((causewayref20_May.f ((rd_T36 x0 x4).f0) ((rd_T36 x0 x4).f1) ((rd_T36 x0 x4).f2) ((rd_T36 x0 x4).f3) ((rd_T36 x0 x4).f4)).bind fun t234 => (if t234 = true then (causewayref20_Text.l0 k x0 (wrap64 (x4 + 1))) else (some ((⟨#[]⟩ : ByteArray), 2)))) else (none)) else (causewayref20_Text.l1 k x0 (⟨#[]⟩ : ByteArray) 0)
def causewayref20_Text.l1 : Nat → List (S36) → ByteArray → Int → Option (ByteArray × Int)
  | 0, _, _, _ => none
  | k + 1, x0, x5, x6 => if x6 < (x0.length : Int) then (if 0 ≤ x6 then (if (rd_T36 x0 x6).f0 = true then (causewayref20_Text.j2 k x0 x5 x6 (⟨#[97, 108, 108, 111, 119, 32]⟩ : ByteArray)) else (causewayref20_Text.j2 k x0 x5 x6 (⟨#[100, 101, 110, 121, 32]⟩ : ByteArray))) else (none)) else (if (x5.size : Int) > 1024 then (some ((⟨#[]⟩ : ByteArray), 5)) else (some (x5, 0)))
def causewayref20_Text.j2 : Nat → List (S36) → ByteArray → Int → ByteArray → Option (ByteArray × Int)
  | 0, _, _, _, _ => none
  | k + 1, x0, x5, x6, x7 => if 0 ≤ x6 then (if x6 < (x0.length : Int) then ((causewayref20_digits.f k ((rd_T36 x0 x6).f3)).bind fun t237 => (if t237.size + 1 ≤ 9223372036854775807 then ((causewayref20_digits.f k ((rd_T36 x0 x6).f4)).bind fun t239 => (if (t237 ++ (⟨#[45]⟩ : ByteArray)).size + t239.size ≤ 9223372036854775807 then (if ((rd_T36 x0 x6).f3) = ((rd_T36 x0 x6).f4) then ((causewayref20_digits.f k ((rd_T36 x0 x6).f3)).bind fun t243 => (causewayref20_Text.j3 k x0 x5 x6 x7 t243)) else (causewayref20_Text.j3 k x0 x5 x6 x7 ((t237 ++ (⟨#[45]⟩ : ByteArray)) ++ t239))) else (none))) else (none))) else (none)) else (none)
def causewayref20_Text.j3 : Nat → List (S36) → ByteArray → Int → ByteArray → ByteArray → Option (ByteArray × Int)
  | 0, _, _, _, _, _ => none
  | k + 1, x0, x5, x6, x7, x8 => if 0 ≤ x6 then (if x6 < (x0.length : Int) then (if ((rd_T36 x0 x6).f3) = 0 then (causewayref20_Text.j4 k x0 x5 x6 x7 x8 (((rd_T36 x0 x6).f4) == 65535)) else (causewayref20_Text.j4 k x0 x5 x6 x7 x8 false)) else (none)) else (none)
def causewayref20_Text.j4 : Nat → List (S36) → ByteArray → Int → ByteArray → ByteArray → Bool → Option (ByteArray × Int)
  | 0, _, _, _, _, _, _ => none
  | k + 1, x0, x5, x6, x7, x8, x79 => if x79 = true then (if x5.size + x7.size ≤ 9223372036854775807 then (if 0 ≤ x6 then (if x6 < (x0.length : Int) then ((causewayref20_names.f k ((rd_T36 x0 x6).f1)).bind fun t247 => (if (x5 ++ x7).size + t247.size ≤ 9223372036854775807 then (if ((x5 ++ x7) ++ t247).size + 3 ≤ 9223372036854775807 then ((causewayref20_names.f k ((rd_T36 x0 x6).f2)).bind fun t249 => (if (((x5 ++ x7) ++ t247) ++ (⟨#[32, 62, 32]⟩ : ByteArray)).size + t249.size ≤ 9223372036854775807 then (if ((((x5 ++ x7) ++ t247) ++ (⟨#[32, 62, 32]⟩ : ByteArray)) ++ t249).size + 1 ≤ 9223372036854775807 then (if (((((x5 ++ x7) ++ t247) ++ (⟨#[32, 62, 32]⟩ : ByteArray)) ++ t249) ++ (⟨#[32]⟩ : ByteArray)).size + 1 ≤ 9223372036854775807 then (if ((((((x5 ++ x7) ++ t247) ++ (⟨#[32, 62, 32]⟩ : ByteArray)) ++ t249) ++ (⟨#[32]⟩ : ByteArray)) ++ (⟨#[42]⟩ : ByteArray)).size + 1 ≤ 9223372036854775807 then (causewayref20_Text.l1 k x0 (((((((x5 ++ x7) ++ t247) ++ (⟨#[32, 62, 32]⟩ : ByteArray)) ++ t249) ++ (⟨#[32]⟩ : ByteArray)) ++ (⟨#[42]⟩ : ByteArray)) ++ (⟨#[10]⟩ : ByteArray)) (wrap64 (x6 + 1))) else (none)) else (none)) else (none)) else (none))) else (none)) else (none))) else (none)) else (none)) else (none)) else (if x5.size + x7.size ≤ 9223372036854775807 then (if 0 ≤ x6 then (if x6 < (x0.length : Int) then ((causewayref20_names.f k ((rd_T36 x0 x6).f1)).bind fun t251 => (if (x5 ++ x7).size + t251.size ≤ 9223372036854775807 then (if ((x5 ++ x7) ++ t251).size + 3 ≤ 9223372036854775807 then ((causewayref20_names.f k ((rd_T36 x0 x6).f2)).bind fun t253 => (if (((x5 ++ x7) ++ t251) ++ (⟨#[32, 62, 32]⟩ : ByteArray)).size + t253.size ≤ 9223372036854775807 then (if ((((x5 ++ x7) ++ t251) ++ (⟨#[32, 62, 32]⟩ : ByteArray)) ++ t253).size + 1 ≤ 9223372036854775807 then (if (((((x5 ++ x7) ++ t251) ++ (⟨#[32, 62, 32]⟩ : ByteArray)) ++ t253) ++ (⟨#[32]⟩ : ByteArray)).size + x8.size ≤ 9223372036854775807 then (if ((((((x5 ++ x7) ++ t251) ++ (⟨#[32, 62, 32]⟩ : ByteArray)) ++ t253) ++ (⟨#[32]⟩ : ByteArray)) ++ x8).size + 1 ≤ 9223372036854775807 then (causewayref20_Text.l1 k x0 (((((((x5 ++ x7) ++ t251) ++ (⟨#[32, 62, 32]⟩ : ByteArray)) ++ t253) ++ (⟨#[32]⟩ : ByteArray)) ++ x8) ++ (⟨#[10]⟩ : ByteArray)) (wrap64 (x6 + 1))) else (none)) else (none)) else (none)) else (none))) else (none)) else (none))) else (none)) else (none)) else (none))
end
def causewayref20_Text.f (k : Nat) (l0 : List (S36)) : Option (ByteArray × Int) := if (l0.length : Int) > 32 then (some ((⟨#[]⟩ : ByteArray), 5)) else (causewayref20_Text.l0 k l0 0)
theorem causewayref20_Text.mono_l : ∀ k, (∀ y0 y1, LeO (causewayref20_Text.l0 k y0 y1) (causewayref20_Text.l0 (k + 1) y0 y1)) ∧ (∀ y0 y1 y2, LeO (causewayref20_Text.l1 k y0 y1 y2) (causewayref20_Text.l1 (k + 1) y0 y1 y2)) ∧ (∀ y0 y1 y2 y3, LeO (causewayref20_Text.j2 k y0 y1 y2 y3) (causewayref20_Text.j2 (k + 1) y0 y1 y2 y3)) ∧ (∀ y0 y1 y2 y3 y4, LeO (causewayref20_Text.j3 k y0 y1 y2 y3 y4) (causewayref20_Text.j3 (k + 1) y0 y1 y2 y3 y4)) ∧ (∀ y0 y1 y2 y3 y4 y5, LeO (causewayref20_Text.j4 k y0 y1 y2 y3 y4 y5) (causewayref20_Text.j4 (k + 1) y0 y1 y2 y3 y4 y5))
  | 0 => ⟨fun _ _ r h => by simp [causewayref20_Text.l0] at h, fun _ _ _ r h => by simp [causewayref20_Text.l1] at h, fun _ _ _ _ r h => by simp [causewayref20_Text.j2] at h, fun _ _ _ _ _ r h => by simp [causewayref20_Text.j3] at h, fun _ _ _ _ _ _ r h => by simp [causewayref20_Text.j4] at h⟩
  | k + 1 => by
    obtain ⟨ih0, ih1, ih2, ih3, ih4⟩ := causewayref20_Text.mono_l k
    refine ⟨?_, ?_, ?_, ?_, ?_⟩
    · intro y0 y1
      unfold causewayref20_Text.l0
      repeat' first
      | (with_reducible exact ih0 _ _)
      | (with_reducible exact ih1 _ _ _)
      | (with_reducible exact ih2 _ _ _ _)
      | (with_reducible exact ih3 _ _ _ _ _)
      | (with_reducible exact ih4 _ _ _ _ _ _)
      | (with_reducible exact causewayref20_digits.mono _ _)
      | (with_reducible exact causewayref20_names.mono _ _)
      | (with_reducible exact LeO.refl _)
      | (with_reducible exact LeO.none _)
      | (with_reducible refine LeO.ite ?_ ?_)
      | (with_reducible refine LeO.bind ?_ (fun _ => ?_))
      | exact ih0 _ _
      | exact ih1 _ _ _
      | exact ih2 _ _ _ _
      | exact ih3 _ _ _ _ _
      | exact ih4 _ _ _ _ _ _
      | exact causewayref20_digits.mono _ _
      | exact causewayref20_names.mono _ _
      | exact LeO.none _
      | refine LeO.ite ?_ ?_
      | refine LeO.bind ?_ (fun _ => ?_)
    · intro y0 y1 y2
      unfold causewayref20_Text.l1
      repeat' first
      | (with_reducible exact ih0 _ _)
      | (with_reducible exact ih1 _ _ _)
      | (with_reducible exact ih2 _ _ _ _)
      | (with_reducible exact ih3 _ _ _ _ _)
      | (with_reducible exact ih4 _ _ _ _ _ _)
      | (with_reducible exact causewayref20_digits.mono _ _)
      | (with_reducible exact causewayref20_names.mono _ _)
      | (with_reducible exact LeO.refl _)
      | (with_reducible exact LeO.none _)
      | (with_reducible refine LeO.ite ?_ ?_)
      | (with_reducible refine LeO.bind ?_ (fun _ => ?_))
      | exact ih0 _ _
      | exact ih1 _ _ _
      | exact ih2 _ _ _ _
      | exact ih3 _ _ _ _ _
      | exact ih4 _ _ _ _ _ _
      | exact causewayref20_digits.mono _ _
      | exact causewayref20_names.mono _ _
      | exact LeO.none _
      | refine LeO.ite ?_ ?_
      | refine LeO.bind ?_ (fun _ => ?_)
    · intro y0 y1 y2 y3
      unfold causewayref20_Text.j2
      repeat' first
      | (with_reducible exact ih0 _ _)
      | (with_reducible exact ih1 _ _ _)
      | (with_reducible exact ih2 _ _ _ _)
      | (with_reducible exact ih3 _ _ _ _ _)
      | (with_reducible exact ih4 _ _ _ _ _ _)
      | (with_reducible exact causewayref20_digits.mono _ _)
      | (with_reducible exact causewayref20_names.mono _ _)
      | (with_reducible exact LeO.refl _)
      | (with_reducible exact LeO.none _)
      | (with_reducible refine LeO.ite ?_ ?_)
      | (with_reducible refine LeO.bind ?_ (fun _ => ?_))
      | exact ih0 _ _
      | exact ih1 _ _ _
      | exact ih2 _ _ _ _
      | exact ih3 _ _ _ _ _
      | exact ih4 _ _ _ _ _ _
      | exact causewayref20_digits.mono _ _
      | exact causewayref20_names.mono _ _
      | exact LeO.none _
      | refine LeO.ite ?_ ?_
      | refine LeO.bind ?_ (fun _ => ?_)
    · intro y0 y1 y2 y3 y4
      unfold causewayref20_Text.j3
      repeat' first
      | (with_reducible exact ih0 _ _)
      | (with_reducible exact ih1 _ _ _)
      | (with_reducible exact ih2 _ _ _ _)
      | (with_reducible exact ih3 _ _ _ _ _)
      | (with_reducible exact ih4 _ _ _ _ _ _)
      | (with_reducible exact causewayref20_digits.mono _ _)
      | (with_reducible exact causewayref20_names.mono _ _)
      | (with_reducible exact LeO.refl _)
      | (with_reducible exact LeO.none _)
      | (with_reducible refine LeO.ite ?_ ?_)
      | (with_reducible refine LeO.bind ?_ (fun _ => ?_))
      | exact ih0 _ _
      | exact ih1 _ _ _
      | exact ih2 _ _ _ _
      | exact ih3 _ _ _ _ _
      | exact ih4 _ _ _ _ _ _
      | exact causewayref20_digits.mono _ _
      | exact causewayref20_names.mono _ _
      | exact LeO.none _
      | refine LeO.ite ?_ ?_
      | refine LeO.bind ?_ (fun _ => ?_)
    · intro y0 y1 y2 y3 y4 y5
      unfold causewayref20_Text.j4
      repeat' first
      | (with_reducible exact ih0 _ _)
      | (with_reducible exact ih1 _ _ _)
      | (with_reducible exact ih2 _ _ _ _)
      | (with_reducible exact ih3 _ _ _ _ _)
      | (with_reducible exact ih4 _ _ _ _ _ _)
      | (with_reducible exact causewayref20_digits.mono _ _)
      | (with_reducible exact causewayref20_names.mono _ _)
      | (with_reducible exact LeO.refl _)
      | (with_reducible exact LeO.none _)
      | (with_reducible refine LeO.ite ?_ ?_)
      | (with_reducible refine LeO.bind ?_ (fun _ => ?_))
      | exact ih0 _ _
      | exact ih1 _ _ _
      | exact ih2 _ _ _ _
      | exact ih3 _ _ _ _ _
      | exact ih4 _ _ _ _ _ _
      | exact causewayref20_digits.mono _ _
      | exact causewayref20_names.mono _ _
      | exact LeO.none _
      | refine LeO.ite ?_ ?_
      | refine LeO.bind ?_ (fun _ => ?_)
theorem causewayref20_Text.mono : ∀ a0 k, LeO (causewayref20_Text.f k a0) (causewayref20_Text.f (k + 1) a0) := by
  intro a0 k
  obtain ⟨ih0, ih1, ih2, ih3, ih4⟩ := causewayref20_Text.mono_l k
  unfold causewayref20_Text.f
  repeat' first
      | (with_reducible exact ih0 _ _)
      | (with_reducible exact ih1 _ _ _)
      | (with_reducible exact ih2 _ _ _ _)
      | (with_reducible exact ih3 _ _ _ _ _)
      | (with_reducible exact ih4 _ _ _ _ _ _)
      | (with_reducible exact causewayref20_digits.mono _ _)
      | (with_reducible exact causewayref20_names.mono _ _)
      | (with_reducible exact LeO.refl _)
      | (with_reducible exact LeO.none _)
      | (with_reducible refine LeO.ite ?_ ?_)
      | (with_reducible refine LeO.bind ?_ (fun _ => ?_))
      | exact ih0 _ _
      | exact ih1 _ _ _
      | exact ih2 _ _ _ _
      | exact ih3 _ _ _ _ _
      | exact ih4 _ _ _ _ _ _
      | exact causewayref20_digits.mono _ _
      | exact causewayref20_names.mono _ _
      | exact LeO.none _
      | refine LeO.ite ?_ ?_
      | refine LeO.bind ?_ (fun _ => ?_)
def causewayref20_Text.T15 : Bool × List (List Nat × List Nat) := (true, [([], []), ([], []), ([0, 1], [0, 1]), ([2], [2]), ([3], [3]), ([4], [4]), ([5], [5]), ([], []), ([], []), ([7, 8], [7, 8]), ([9], [9]), ([10], [10]), ([11, 5], [11]), ([6, 12], [6, 12]), ([13, 12, 0, 1, 2, 3, 4, 5, 6, 7, 8, 9, 10, 11, 12, 13], [13])])
def causewayref20_Text.B15 : List Nat := [0, 0, 3, 7, 15, 31, 63, 0, 0, 384, 896, 1920, 4031, 8191, 16383]
theorem causewayref20_Text.tab15 : rtab .any (opsOf Tryz.f13 15) = causewayref20_Text.T15 := by kernel_rfl
theorem causewayref20_Text.bits15 : waitsOk causewayref20_Text.T15.2 causewayref20_Text.B15 = true := by kernel_rfl
def causewayref20_Text.T16 : Bool × List (List Nat × List Nat) := (true, [([], []), ([], []), ([0, 1], [0, 1]), ([2], [2]), ([3], [3]), ([], []), ([], []), ([5, 6], [5, 6]), ([7], [7]), ([8], [8]), ([4, 9], [4, 9])])
def causewayref20_Text.B16 : List Nat := [0, 0, 3, 7, 15, 0, 0, 96, 224, 480, 1023]
theorem causewayref20_Text.tab16 : rtab .any (opsOf Tryz.f13 16) = causewayref20_Text.T16 := by kernel_rfl
theorem causewayref20_Text.bits16 : waitsOk causewayref20_Text.T16.2 causewayref20_Text.B16 = true := by kernel_rfl
def causewayref20_Text.T20 : Bool × List (List Nat × List Nat) := (true, [([], []), ([], []), ([0, 1], [0, 1]), ([], []), ([], []), ([3, 4], [3, 4]), ([5], [5]), ([6], [6]), ([7], [7]), ([2, 8], [2, 8]), ([9], [9]), ([], []), ([], []), ([11, 12], [11, 12]), ([13], [13]), ([14], [14]), ([15, 8], [15]), ([10, 16], [10, 16]), ([17], [17]), ([], []), ([18, 19], [18, 19]), ([20], [20]), ([21, 16, 0, 1, 2, 3, 4, 5, 6, 7, 8, 9, 10, 11, 12, 13, 14, 15, 16, 17, 18, 19, 20, 21], [0, 21])])
def causewayref20_Text.B20 : List Nat := [0, 0, 3, 0, 0, 24, 56, 120, 248, 511, 1023, 0, 0, 6144, 14336, 30720, 63992, 131071, 262143, 0, 1048575, 2097151, 4194303]
theorem causewayref20_Text.tab20 : rtab .any (opsOf Tryz.f13 20) = causewayref20_Text.T20 := by kernel_rfl
theorem causewayref20_Text.bits20 : waitsOk causewayref20_Text.T20.2 causewayref20_Text.B20 = true := by kernel_rfl
set_option maxHeartbeats 8000000 in
set_option maxRecDepth 100000 in
theorem causewayref20_Text.calls (k : Nat) (A0 : Option Addr) (c0 : Nat) (l0 : List (S36)) (r1 : ByteArray) (r2 : Int) (w : World) (hr0 : Kd.C k36 w A0 l0.length l0) (hc0 : l0.length ≤ c0) (h : causewayref20_Text.f k l0 = some (r1, r2)) :
    Calls Tryz.prog 13 #[.slice A0 l0.length c0] w fun e w' => e = .returned (.tuple #[.string r1, .int .i64 r2]) ∧ Below w.heap.size w w' := by
  have hu36 := Tryz.underlying36
  have HR0 := Aside0.mk hr0
  have HC0 := Aside0.mk hc0
  clear hr0 hc0
  have HB := Aside0.mk (Below.refl w.heap.size w)
  have H : (if (l0.length : Int) > 32 then (some ((⟨#[]⟩ : ByteArray), 5)) else (causewayref20_Text.l0 k l0 0)) = some (r1, r2) := h
  clear h
  by_cases c2 : (l0.length : Int) > 32
  · rw [if_pos c2] at H
    have c2b0 : decide (32 < (l0.length : Int)) = true := decide_eq_true c2
    have c2b1 : decide (32 < l0.length) = true := decide_eq_true (by omega)
    clear c2
    simp only [Option.some.injEq, Prod.mk.injEq] at H
    obtain ⟨rfl, rfl⟩ := H
    go_enter Tryz.func13, Tryz.ntmps13
    go_wp2
    go_ret2
    exact ⟨by first | rfl | (simp [errW_none, errW_some] <;> rfl) | (simp [*, errW_none, errW_some] <;> rfl), by repeat (first | (with_reducible first | exact HB.out | apply below_alloc | apply pw_below_drewN | apply below_drew1) | exact HB.out)⟩
  · rw [if_neg c2] at H
    have c2b0 : decide (32 < (l0.length : Int)) = false := decide_eq_false c2
    have c2b1 : decide (32 < l0.length) = false := decide_eq_false (by omega)
    clear c2
    have H' := Aside0.mk H
    clear H
    go_enter Tryz.func13, Tryz.ntmps13
    go_wp2
    go_loopg [4] k (fun kq v4 w' => ∃ (x4_1 : Int), v4 = .int .i64 x4_1 ∧ Aside0 (causewayref20_Text.l0 kq l0 x4_1 = some (r1, r2)) ∧ Aside0 (kq ≤ k) ∧ Aside0 (Below w.heap.size w w'))
    case atStart => exact ⟨(0), (by first | rfl | (simp; done) | (simp [*]; done)), H', ⟨Nat.le_refl _⟩, ⟨by repeat (first | (with_reducible first | exact HB.out | apply below_alloc | apply pw_below_drewN | apply below_drew1) | exact HB.out)⟩⟩
    case round =>
      clear H'
      try clear c1
      try clear c2
      try clear c2b0
      try clear c2b1
      try clear p2
      obtain ⟨x4_1, rfl, HA, HK1, HB⟩ := hrel
      cases gk with
      | zero => exact absurd HA.out (by simp [causewayref20_Text.l0])
      | succ k1 =>
        have H := HA.out
        clear HA
        simp only [causewayref20_Text.l0] at H
        by_cases c3 : x4_1 < (l0.length : Int)
        · rw [if_pos c3] at H
          have c3b0 : decide (x4_1 < (l0.length : Int)) = true := decide_eq_true c3
          clear c3
          by_cases c4 : 0 ≤ x4_1
          · rw [if_pos c4] at H
            have c4b0 : decide (0 ≤ x4_1) = true := decide_eq_true c4
            clear c4
            replace H := Option.bind_eq_some_iff.mp H
            obtain ⟨t234, A50, H⟩ := H
            replace H : (if t234 = true then (causewayref20_Text.l0 k1 l0 (wrap64 (x4_1 + 1))) else (some ((⟨#[]⟩ : ByteArray), 2))) = some (r1, r2) := H
            have A5 := Aside0.mk A50
            clear A50
            by_cases c6 : t234 = true
            · subst c6
              have H1 : (causewayref20_Text.l0 k1 l0 (wrap64 (x4_1 + 1))) = some (r1, r2) := by rw [if_pos rfl] at H; exact H
              clear H
              have H := H1
              clear H1
              have H' := Aside0.mk H
              clear H
              have p233 : 0 ≤ (x4_1 : Int) := of_decide_eq_true (by first | (with_reducible assumption) | assumption)
              have q233 : x4_1 < (l0.length : Int) := of_decide_eq_true (by first | (with_reducible assumption) | assumption)
              obtain ⟨ad233, e233, hx233_0, hx233_1, hx233_2, hx233_3, hx233_4⟩ := at_T36 HR0.out x4_1 p233 q233
              cases e233
              replace hx233_0 := (HB.out.cell (World.block_lt_of_cell? w _ hx233_0)).trans hx233_0
              replace hx233_1 := (HB.out.cell (World.block_lt_of_cell? w _ hx233_1)).trans hx233_1
              replace hx233_2 := (HB.out.cell (World.block_lt_of_cell? w _ hx233_2)).trans hx233_2
              replace hx233_3 := (HB.out.cell (World.block_lt_of_cell? w _ hx233_3)).trans hx233_3
              replace hx233_4 := (HB.out.cell (World.block_lt_of_cell? w _ hx233_4)).trans hx233_4
              replace p233 := eq_true p233
              replace q233 := eq_true q233
              go_wp2_with (first | ((with_reducible refine gate_callee (f := 33) rfl ?_); refine goesL_ (some 22) rfl rfl Tryz.func33 (by kernel_rfl) rfl #[.agg #[.bool ((rd_T36 l0 x4_1).f0), .int .i64 ((rd_T36 l0 x4_1).f1), .int .i64 ((rd_T36 l0 x4_1).f2), .int .i64 ((rd_T36 l0 x4_1).f3), .int .i64 ((rd_T36 l0 x4_1).f4)]] rfl (by (try simp only [List.map_toArray, List.map_cons, List.map_nil]); first | done | rfl | (simp only [List.length_drop, List.length_take]; rfl)) ?_; (with_reducible refine (causewayref20_May.calls ((rd_T36 l0 x4_1).f0) ((rd_T36 l0 x4_1).f1) ((rd_T36 l0 x4_1).f2) ((rd_T36 l0 x4_1).f3) ((rd_T36 l0 x4_1).f4) true _ A5.out).mono ?_); rintro e w7 ⟨rfl, hb⟩; refine ⟨_, rfl, ?_⟩; have n0_ := Aside0.mk (below_step (by repeat (first | (with_reducible first | exact HB.out | apply below_alloc | apply pw_below_drewN | apply below_drew1) | exact HB.out)) hb); clear HB; have HB := n0_; clear n0_; (try clear hb); (try clear hb2); (try clear hk); (try clear hi)))
              go_roundg k1
              case measure => have := HK1.out; omega
              case rel => exact ⟨(wrap64 (x4_1 + 1)), (by first | rfl | (simp; done) | (simp [*]; done)), H', ⟨by have := HK1.out; omega⟩, ⟨by repeat (first | (with_reducible first | exact HB.out | apply below_alloc | apply pw_below_drewN | apply below_drew1) | exact HB.out)⟩⟩
            · replace c6 := Bool.eq_false_iff.mpr c6
              subst c6
              have H1 : (some ((⟨#[]⟩ : ByteArray), 2)) = some (r1, r2) := by rw [if_neg (show ¬ (false = true) by decide)] at H; exact H
              clear H
              have H := H1
              clear H1
              simp only [Option.some.injEq, Prod.mk.injEq] at H
              obtain ⟨rfl, rfl⟩ := H
              have p233 : 0 ≤ (x4_1 : Int) := of_decide_eq_true (by first | (with_reducible assumption) | assumption)
              have q233 : x4_1 < (l0.length : Int) := of_decide_eq_true (by first | (with_reducible assumption) | assumption)
              obtain ⟨ad233, e233, hx233_0, hx233_1, hx233_2, hx233_3, hx233_4⟩ := at_T36 HR0.out x4_1 p233 q233
              cases e233
              replace hx233_0 := (HB.out.cell (World.block_lt_of_cell? w _ hx233_0)).trans hx233_0
              replace hx233_1 := (HB.out.cell (World.block_lt_of_cell? w _ hx233_1)).trans hx233_1
              replace hx233_2 := (HB.out.cell (World.block_lt_of_cell? w _ hx233_2)).trans hx233_2
              replace hx233_3 := (HB.out.cell (World.block_lt_of_cell? w _ hx233_3)).trans hx233_3
              replace hx233_4 := (HB.out.cell (World.block_lt_of_cell? w _ hx233_4)).trans hx233_4
              replace p233 := eq_true p233
              replace q233 := eq_true q233
              go_wp2_with (first | ((with_reducible refine gate_callee (f := 33) rfl ?_); refine goesL_ (some 22) rfl rfl Tryz.func33 (by kernel_rfl) rfl #[.agg #[.bool ((rd_T36 l0 x4_1).f0), .int .i64 ((rd_T36 l0 x4_1).f1), .int .i64 ((rd_T36 l0 x4_1).f2), .int .i64 ((rd_T36 l0 x4_1).f3), .int .i64 ((rd_T36 l0 x4_1).f4)]] rfl (by (try simp only [List.map_toArray, List.map_cons, List.map_nil]); first | done | rfl | (simp only [List.length_drop, List.length_take]; rfl)) ?_; (with_reducible refine (causewayref20_May.calls ((rd_T36 l0 x4_1).f0) ((rd_T36 l0 x4_1).f1) ((rd_T36 l0 x4_1).f2) ((rd_T36 l0 x4_1).f3) ((rd_T36 l0 x4_1).f4) false _ A5.out).mono ?_); rintro e w8 ⟨rfl, hb⟩; refine ⟨_, rfl, ?_⟩; have n0_ := Aside0.mk (below_step (by repeat (first | (with_reducible first | exact HB.out | apply below_alloc | apply pw_below_drewN | apply below_drew1) | exact HB.out)) hb); clear HB; have HB := n0_; clear n0_; (try clear hb); (try clear hb2); (try clear hk); (try clear hi)))
              go_ret2
              exact ⟨by first | rfl | (simp [errW_none, errW_some] <;> rfl) | (simp [*, errW_none, errW_some] <;> rfl), by repeat (first | (with_reducible first | exact HB.out | apply below_alloc | apply pw_below_drewN | apply below_drew1) | exact HB.out)⟩
          · rw [if_neg c4] at H
            exact absurd H (by simp)
        · rw [if_neg c3] at H
          have c3b0 : decide (x4_1 < (l0.length : Int)) = false := decide_eq_false c3
          clear c3
          have H' := Aside0.mk H
          clear H
          go_wp2
          go_loopg [5, 6] k1 (fun kq v5 v6 w' => ∃ (x5_2 : ByteArray) (x6_2 : Int), v5 = .string x5_2 ∧ v6 = .int .i64 x6_2 ∧ Aside0 (causewayref20_Text.l1 kq l0 x5_2 x6_2 = some (r1, r2)) ∧ Aside0 (kq ≤ k1) ∧ Aside0 (Below w.heap.size w w'))
          case atStart => exact ⟨((⟨#[]⟩ : ByteArray)), (0), (by first | rfl | (simp; done) | (simp [*]; done)), (by first | rfl | (simp; done) | (simp [*]; done)), H', ⟨Nat.le_refl _⟩, ⟨by repeat (first | (with_reducible first | exact HB.out | apply below_alloc | apply pw_below_drewN | apply below_drew1) | exact HB.out)⟩⟩
          case round =>
            clear H'
            try clear c1
            try clear c2
            try clear c2b0
            try clear c2b1
            try clear p2
            try clear q2
            try clear hx2
            try clear c3
            try clear c3b0
            try clear c4
            try clear c4b0
            try clear c6
            try clear p6
            try clear hx233_0
            try clear hx233_1
            try clear hx233_2
            try clear hx233_3
            try clear hx233_4
            try clear p2
            try clear p233
            try clear q233
            obtain ⟨x5_2, x6_2, rfl, rfl, HA, HK2, HB⟩ := hrel
            cases gk with
            | zero => exact absurd HA.out (by simp [causewayref20_Text.l1])
            | succ k2 =>
              have H := HA.out
              clear HA
              simp only [causewayref20_Text.l1] at H
              by_cases c9 : x6_2 < (l0.length : Int)
              · rw [if_pos c9] at H
                have c9b0 : decide (x6_2 < (l0.length : Int)) = true := decide_eq_true c9
                clear c9
                by_cases c10 : 0 ≤ x6_2
                · rw [if_pos c10] at H
                  have c10b0 : decide (0 ≤ x6_2) = true := decide_eq_true c10
                  clear c10
                  have HC11 := Aside0.mk H
                  clear H
                  have p235 : 0 ≤ (x6_2 : Int) := of_decide_eq_true (by first | (with_reducible assumption) | assumption)
                  have q235 : x6_2 < (l0.length : Int) := of_decide_eq_true (by first | (with_reducible assumption) | assumption)
                  obtain ⟨ad235, e235, hx235_0, hx235_1, hx235_2, hx235_3, hx235_4⟩ := at_T36 HR0.out x6_2 p235 q235
                  cases e235
                  replace hx235_0 := (HB.out.cell (World.block_lt_of_cell? w _ hx235_0)).trans hx235_0
                  replace hx235_1 := (HB.out.cell (World.block_lt_of_cell? w _ hx235_1)).trans hx235_1
                  replace hx235_2 := (HB.out.cell (World.block_lt_of_cell? w _ hx235_2)).trans hx235_2
                  replace hx235_3 := (HB.out.cell (World.block_lt_of_cell? w _ hx235_3)).trans hx235_3
                  replace hx235_4 := (HB.out.cell (World.block_lt_of_cell? w _ hx235_4)).trans hx235_4
                  replace p235 := eq_true p235
                  replace q235 := eq_true q235
                  go_upto_if 34 with (fail)
                  go_cut [7] (fun v7 wc => ∃ (kq : Nat) (x7_10 : ByteArray), v7 = .string x7_10 ∧ Aside0 (causewayref20_Text.j2 kq l0 x5_2 x6_2 x7_10 = some (r1, r2)) ∧ Aside0 (kq ≤ k2) ∧ Aside0 (Below w.heap.size w wc))
                  case first =>
                    have H := HC11.out
                    clear HC11
                    obtain ⟨bq12, hbq12⟩ : ∃ b_ : Bool, b_ = ((rd_T36 l0 x6_2).f0) := ⟨_, rfl⟩
                    replace H : (if bq12 = true then (causewayref20_Text.j2 k2 l0 x5_2 x6_2 (⟨#[97, 108, 108, 111, 119, 32]⟩ : ByteArray)) else (causewayref20_Text.j2 k2 l0 x5_2 x6_2 (⟨#[100, 101, 110, 121, 32]⟩ : ByteArray))) = some (r1, r2) := by rw [← hbq12] at H; exact H
                    have Nbq12 := Aside0.mk hbq12
                    clear hbq12
                    (try rw [← Nbq12.out])
                    by_cases c13 : bq12 = true
                    · subst c13
                      have H1 : (causewayref20_Text.j2 k2 l0 x5_2 x6_2 (⟨#[97, 108, 108, 111, 119, 32]⟩ : ByteArray)) = some (r1, r2) := by rw [if_pos rfl] at H; exact H
                      clear H
                      have H := H1
                      clear H1
                      have H' := Aside0.mk H
                      clear H
                      go_wp2
                      go_meet
                      case rel => exact ⟨_, ((⟨#[97, 108, 108, 111, 119, 32]⟩ : ByteArray)), (by first | rfl | (simp; done) | (simp [*]; done)), H', ⟨by have := HK1.out; have := HK2.out; first | omega | exact Nat.le_refl _⟩, ⟨by repeat (first | (with_reducible first | exact HB.out | apply below_alloc | apply pw_below_drewN | apply below_drew1) | exact HB.out)⟩⟩
                    · replace c13 := Bool.eq_false_iff.mpr c13
                      subst c13
                      have H1 : (causewayref20_Text.j2 k2 l0 x5_2 x6_2 (⟨#[100, 101, 110, 121, 32]⟩ : ByteArray)) = some (r1, r2) := by rw [if_neg (show ¬ (false = true) by decide)] at H; exact H
                      clear H
                      have H := H1
                      clear H1
                      have H' := Aside0.mk H
                      clear H
                      go_wp2
                      go_meet
                      case rel => exact ⟨_, ((⟨#[100, 101, 110, 121, 32]⟩ : ByteArray)), (by first | rfl | (simp; done) | (simp [*]; done)), H', ⟨by have := HK1.out; have := HK2.out; first | omega | exact Nat.le_refl _⟩, ⟨by repeat (first | (with_reducible first | exact HB.out | apply below_alloc | apply pw_below_drewN | apply below_drew1) | exact HB.out)⟩⟩
                  case rest =>
                    clear HC11
                    try clear c1
                    try clear q1
                    try clear c2
                    try clear c2b0
                    try clear c2b1
                    try clear p2
                    try clear q2
                    try clear hx2
                    try clear c3
                    try clear c3b0
                    try clear c4
                    try clear c4b0
                    try clear c6
                    try clear p6
                    try clear c9
                    try clear c9b0
                    try clear c10
                    try clear c10b0
                    try clear q12
                    try clear c13
                    try clear hx233_0
                    try clear hx233_1
                    try clear hx233_2
                    try clear hx233_3
                    try clear hx233_4
                    try clear hx235_0
                    try clear hx235_1
                    try clear hx235_2
                    try clear hx235_3
                    try clear hx235_4
                    try clear p2
                    try clear p233
                    try clear p235
                    try clear p6
                    try clear q2
                    try clear q233
                    try clear q235
                    obtain ⟨kq, x7_10, rfl, HA, HJ10, HB⟩ := hcut
                    cases kq with
                    | zero => exact absurd HA.out (by simp [causewayref20_Text.j2])
                    | succ kj10 =>
                      have H := HA.out
                      clear HA
                      simp only [causewayref20_Text.j2] at H
                      by_cases c14 : 0 ≤ x6_2
                      · rw [if_pos c14] at H
                        have c14b0 : decide (0 ≤ x6_2) = true := decide_eq_true c14
                        clear c14
                        by_cases c15 : x6_2 < (l0.length : Int)
                        · rw [if_pos c15] at H
                          have c15b0 : decide (x6_2 < (l0.length : Int)) = true := decide_eq_true c15
                          clear c15
                          replace H := Option.bind_eq_some_iff.mp H
                          obtain ⟨t237, A160, H⟩ := H
                          replace H : (if t237.size + 1 ≤ 9223372036854775807 then ((causewayref20_digits.f kj10 ((rd_T36 l0 x6_2).f4)).bind fun t239 => (if (t237 ++ (⟨#[45]⟩ : ByteArray)).size + t239.size ≤ 9223372036854775807 then (if ((rd_T36 l0 x6_2).f3) = ((rd_T36 l0 x6_2).f4) then ((causewayref20_digits.f kj10 ((rd_T36 l0 x6_2).f3)).bind fun t243 => (causewayref20_Text.j3 kj10 l0 x5_2 x6_2 x7_10 t243)) else (causewayref20_Text.j3 kj10 l0 x5_2 x6_2 x7_10 ((t237 ++ (⟨#[45]⟩ : ByteArray)) ++ t239))) else (none))) else (none)) = some (r1, r2) := H
                          have A16 := Aside0.mk A160
                          clear A160
                          by_cases c17 : t237.size + 1 ≤ 9223372036854775807
                          · rw [if_pos c17] at H
                            have c17b0 := eq_true c17
                            have c17b1 : decide (t237.size + 1 ≤ 9223372036854775807) = true := decide_eq_true c17
                            try have c17b2 : (9223372036854775807 < t237.size + 1) = False := eq_false (Nat.not_lt.2 c17)
                            replace H := Option.bind_eq_some_iff.mp H
                            obtain ⟨t239, A180, H⟩ := H
                            replace H : (if (t237 ++ (⟨#[45]⟩ : ByteArray)).size + t239.size ≤ 9223372036854775807 then (if ((rd_T36 l0 x6_2).f3) = ((rd_T36 l0 x6_2).f4) then ((causewayref20_digits.f kj10 ((rd_T36 l0 x6_2).f3)).bind fun t243 => (causewayref20_Text.j3 kj10 l0 x5_2 x6_2 x7_10 t243)) else (causewayref20_Text.j3 kj10 l0 x5_2 x6_2 x7_10 ((t237 ++ (⟨#[45]⟩ : ByteArray)) ++ t239))) else (none)) = some (r1, r2) := H
                            have A18 := Aside0.mk A180
                            clear A180
                            by_cases c19 : (t237 ++ (⟨#[45]⟩ : ByteArray)).size + t239.size ≤ 9223372036854775807
                            · rw [if_pos c19] at H
                              have c19b0 := eq_true c19
                              have c19b1 : decide ((t237 ++ (⟨#[45]⟩ : ByteArray)).size + t239.size ≤ 9223372036854775807) = true := decide_eq_true c19
                              try have c19b2 : (9223372036854775807 < (t237 ++ (⟨#[45]⟩ : ByteArray)).size + t239.size) = False := eq_false (Nat.not_lt.2 c19)
                              try (have c19b3 := c19b2; simp only [ByteArray.size_append, sz_lit1, sz_lit3] at c19b3)
                              have HC20 := Aside0.mk H
                              clear H
                              try go_wp2
                              have n0_ := Aside0.mk (below_drew1 HB.out)
                              clear HB
                              have HB := n0_
                              clear n0_
                              have p236 : 0 ≤ (x6_2 : Int) := of_decide_eq_true (by first | (with_reducible assumption) | assumption)
                              have q236 : x6_2 < (l0.length : Int) := of_decide_eq_true (by first | (with_reducible assumption) | assumption)
                              obtain ⟨ad236, e236, hx236_0, hx236_1, hx236_2, hx236_3, hx236_4⟩ := at_T36 HR0.out x6_2 p236 q236
                              have hw236_4 := hx236_4
                              have hw236_3 := hx236_3
                              have hw236_2 := hx236_2
                              have hw236_1 := hx236_1
                              have hw236_0 := hx236_0
                              obtain rfl : ad235 = ad236 := (by injection e236)
                              replace hx236_0 := (HB.out.cell (World.block_lt_of_cell? w _ hx236_0)).trans hx236_0
                              replace hx236_1 := (HB.out.cell (World.block_lt_of_cell? w _ hx236_1)).trans hx236_1
                              replace hx236_2 := (HB.out.cell (World.block_lt_of_cell? w _ hx236_2)).trans hx236_2
                              replace hx236_3 := (HB.out.cell (World.block_lt_of_cell? w _ hx236_3)).trans hx236_3
                              replace hx236_4 := (HB.out.cell (World.block_lt_of_cell? w _ hx236_4)).trans hx236_4
                              replace p236 := eq_true p236
                              replace q236 := eq_true q236
                              have p238 : 0 ≤ (x6_2 : Int) := of_decide_eq_true (by first | (with_reducible assumption) | assumption)
                              have q238 : x6_2 < (l0.length : Int) := of_decide_eq_true (by first | (with_reducible assumption) | assumption)
                              obtain ⟨ad238, e238, hx238_0, hx238_1, hx238_2, hx238_3, hx238_4⟩ := at_T36 HR0.out x6_2 p238 q238
                              have hw238_4 := hx238_4
                              have hw238_3 := hx238_3
                              have hw238_2 := hx238_2
                              have hw238_1 := hx238_1
                              have hw238_0 := hx238_0
                              obtain rfl : ad235 = ad238 := (by injection e238)
                              replace hx238_0 := (HB.out.cell (World.block_lt_of_cell? w _ hx238_0)).trans hx238_0
                              replace hx238_1 := (HB.out.cell (World.block_lt_of_cell? w _ hx238_1)).trans hx238_1
                              replace hx238_2 := (HB.out.cell (World.block_lt_of_cell? w _ hx238_2)).trans hx238_2
                              replace hx238_3 := (HB.out.cell (World.block_lt_of_cell? w _ hx238_3)).trans hx238_3
                              replace hx238_4 := (HB.out.cell (World.block_lt_of_cell? w _ hx238_4)).trans hx238_4
                              replace p238 := eq_true p238
                              replace q238 := eq_true q238
                              refine start_ (n := 15) (S := fun w' => w'.cell? (ad235.add ((x6_2).toNat * 5)) = some (.bool ((rd_T36 l0 x6_2).f0)) ∧ w'.cell? ⟨(ad235.add ((x6_2).toNat * 5)).block, (ad235.add ((x6_2).toNat * 5)).off + 1, none⟩ = some (.int .i64 ((rd_T36 l0 x6_2).f1)) ∧ w'.cell? ⟨(ad235.add ((x6_2).toNat * 5)).block, (ad235.add ((x6_2).toNat * 5)).off + 2, none⟩ = some (.int .i64 ((rd_T36 l0 x6_2).f2)) ∧ w'.cell? ⟨(ad235.add ((x6_2).toNat * 5)).block, (ad235.add ((x6_2).toNat * 5)).off + 3, none⟩ = some (.int .i64 ((rd_T36 l0 x6_2).f3)) ∧ w'.cell? ⟨(ad235.add ((x6_2).toNat * 5)).block, (ad235.add ((x6_2).toNat * 5)).off + 4, none⟩ = some (.int .i64 ((rd_T36 l0 x6_2).f4)) ∧ w'.cell? (ad235.add ((x6_2).toNat * 5)) = some (.bool ((rd_T36 l0 x6_2).f0)) ∧ w'.cell? ⟨(ad235.add ((x6_2).toNat * 5)).block, (ad235.add ((x6_2).toNat * 5)).off + 1, none⟩ = some (.int .i64 ((rd_T36 l0 x6_2).f1)) ∧ w'.cell? ⟨(ad235.add ((x6_2).toNat * 5)).block, (ad235.add ((x6_2).toNat * 5)).off + 2, none⟩ = some (.int .i64 ((rd_T36 l0 x6_2).f2)) ∧ w'.cell? ⟨(ad235.add ((x6_2).toNat * 5)).block, (ad235.add ((x6_2).toNat * 5)).off + 3, none⟩ = some (.int .i64 ((rd_T36 l0 x6_2).f3)) ∧ w'.cell? ⟨(ad235.add ((x6_2).toNat * 5)).block, (ad235.add ((x6_2).toNat * 5)).off + 4, none⟩ = some (.int .i64 ((rd_T36 l0 x6_2).f4))) (ds := []) #[false, false, false, false, false, false, false, false, false, false, false, false, false, false, false] (by kernel_rfl) rfl rfl ⟨((HB.out.cell (World.block_lt_of_cell? w _ hw236_0)).trans hw236_0), ((HB.out.cell (World.block_lt_of_cell? w _ hw236_1)).trans hw236_1), ((HB.out.cell (World.block_lt_of_cell? w _ hw236_2)).trans hw236_2), ((HB.out.cell (World.block_lt_of_cell? w _ hw236_3)).trans hw236_3), ((HB.out.cell (World.block_lt_of_cell? w _ hw236_4)).trans hw236_4), ((HB.out.cell (World.block_lt_of_cell? w _ hw238_0)).trans hw238_0), ((HB.out.cell (World.block_lt_of_cell? w _ hw238_1)).trans hw238_1), ((HB.out.cell (World.block_lt_of_cell? w _ hw238_2)).trans hw238_2), ((HB.out.cell (World.block_lt_of_cell? w _ hw238_3)).trans hw238_3), ((HB.out.cell (World.block_lt_of_cell? w _ hw238_4)).trans hw238_4)⟩ (fun hHeld => ?_); refine with_tabW causewayref20_Text.tab15 causewayref20_Text.bits15 (fun HT_ HW_ => ?_)
                              generalize wc.drew = w21 at HB hx236_0 hx236_1 hx236_2 hx236_3 hx236_4 hx238_0 hx238_1 hx238_2 hx238_3 hx238_4 hHeld ⊢
                              refine pure_ (i := 0) (N := some 35) (v := ?_) (a' := ?_) #[true, false, false, false, false, false, false, false, false, false, false, false, false, false, false] rfl rfl (any_of HT_.out (by kernel_rfl)) (fun _ _ _ h => h) (Or.inl ⟨by rfl, ?_⟩) ?_ ?_
                              rotate_left
                              · intro w'
                                go_simp
                                with_reducible rfl
                              rotate_left
                              · simp only [Act.put, List.setIfInBounds_toArray, List.set_cons_zero, List.set_cons_succ, i64_w, i32_w]
                                rfl
                              refine pure_ (i := 1) (N := some 36) (v := ?_) (a' := ?_) #[true, true, false, false, false, false, false, false, false, false, false, false, false, false, false] rfl rfl (any_of HT_.out (by kernel_rfl)) (fun _ _ _ h => h) (Or.inl ⟨by rfl, ?_⟩) ?_ ?_
                              rotate_left
                              · intro w'
                                go_simp
                                with_reducible rfl
                              rotate_left
                              · simp only [Act.put, List.setIfInBounds_toArray, List.set_cons_zero, List.set_cons_succ, i64_w, i32_w]
                                rfl
                              refine pure_ (i := 2) (N := some 37) (v := ?_) (a' := ?_) #[true, true, true, false, false, false, false, false, false, false, false, false, false, false, false] rfl rfl (any_of HT_.out (by kernel_rfl)) (fun _ _ _ h => h) (Or.inl ⟨by rfl, ?_⟩) ?_ ?_
                              rotate_left
                              · intro w'
                                go_simp
                                with_reducible rfl
                              rotate_left
                              · simp only [Act.put, List.setIfInBounds_toArray, List.set_cons_zero, List.set_cons_succ, i64_w, i32_w]
                                rfl
                              refine pure_ (i := 3) (N := some 38) (v := ?_) (a' := ?_) #[true, true, true, true, false, false, false, false, false, false, false, false, false, false, false] rfl rfl (any_of HT_.out (by kernel_rfl)) (fun _ _ _ h => h) (Or.inl ⟨by rfl, ?_⟩) ?_ ?_
                              rotate_left
                              · intro w'
                                go_simp
                                with_reducible rfl
                              rotate_left
                              · simp only [Act.put, List.setIfInBounds_toArray, List.set_cons_zero, List.set_cons_succ, i64_w, i32_w]
                                rfl
                              refine pure_ (i := 7) (N := some 42) (v := ?_) (a' := ?_) #[true, true, true, true, false, false, false, true, false, false, false, false, false, false, false] rfl rfl (any_of HT_.out (by kernel_rfl)) (fun _ _ _ h => h) (Or.inl ⟨by rfl, ?_⟩) ?_ ?_
                              rotate_left
                              · intro w'
                                go_simp
                                with_reducible rfl
                              rotate_left
                              · simp only [Act.put, List.setIfInBounds_toArray, List.set_cons_zero, List.set_cons_succ, i64_w, i32_w]
                                rfl
                              refine pure_ (i := 8) (N := some 43) (v := ?_) (a' := ?_) #[true, true, true, true, false, false, false, true, true, false, false, false, false, false, false] rfl rfl (any_of HT_.out (by kernel_rfl)) (fun _ _ _ h => h) (Or.inl ⟨by rfl, ?_⟩) ?_ ?_
                              rotate_left
                              · intro w'
                                go_simp
                                with_reducible rfl
                              rotate_left
                              · simp only [Act.put, List.setIfInBounds_toArray, List.set_cons_zero, List.set_cons_succ, i64_w, i32_w]
                                rfl
                              refine pure_ (i := 9) (N := some 44) (v := ?_) (a' := ?_) #[true, true, true, true, false, false, false, true, true, true, false, false, false, false, false] rfl rfl (any_of HT_.out (by kernel_rfl)) (fun _ _ _ h => h) (Or.inl ⟨by rfl, ?_⟩) ?_ ?_
                              rotate_left
                              · intro w'
                                go_simp
                                with_reducible rfl
                              rotate_left
                              · simp only [Act.put, List.setIfInBounds_toArray, List.set_cons_zero, List.set_cons_succ, i64_w, i32_w]
                                rfl
                              refine pure_ (i := 10) (N := some 45) (v := ?_) (a' := ?_) #[true, true, true, true, false, false, false, true, true, true, true, false, false, false, false] rfl rfl (any_of HT_.out (by kernel_rfl)) (fun _ _ _ h => h) (Or.inl ⟨by rfl, ?_⟩) ?_ ?_
                              rotate_left
                              · intro w'
                                go_simp
                                with_reducible rfl
                              rotate_left
                              · simp only [Act.put, List.setIfInBounds_toArray, List.set_cons_zero, List.set_cons_succ, i64_w, i32_w]
                                rfl
                              refine take_ (i := 4) (N := some 39) (v := ?_) (a' := ?_) #[true, true, true, true, true, false, false, true, true, true, true, false, false, false, false] rfl rfl (take_ofW HT_.out HW_.out (by kernel_rfl)) (fun _ _ _ h => h) (Or.inl ⟨by rfl, ?_⟩) hHeld ?_ ?_
                              rotate_left
                              · rintro w' ⟨s0, s1, s2, s3, s4, s5, s6, s7, s8, s9⟩
                                go_simp
                                with_reducible rfl
                              rotate_left
                              · simp only [Act.put, List.setIfInBounds_toArray, List.set_cons_zero, List.set_cons_succ, i64_w, i32_w]
                                rfl
                              refine take_ (i := 11) (N := some 46) (v := ?_) (a' := ?_) #[true, true, true, true, true, false, false, true, true, true, true, true, false, false, false] rfl rfl (take_ofW HT_.out HW_.out (by kernel_rfl)) (fun _ _ _ h => h) (Or.inl ⟨by rfl, ?_⟩) hHeld ?_ ?_
                              rotate_left
                              · rintro w' ⟨s0, s1, s2, s3, s4, s5, s6, s7, s8, s9⟩
                                go_simp
                                with_reducible rfl
                              rotate_left
                              · simp only [Act.put, List.setIfInBounds_toArray, List.set_cons_zero, List.set_cons_succ, i64_w, i32_w]
                                rfl
                              refine one_ (i := 5) (N := some 40) #[true, true, true, true, true, true, false, true, true, true, true, true, false, false, false] rfl rfl (one_of HT_.out (by kernel_rfl)) (by decide) (fun K hK => ?_)
                              refine goes_ Tryz.func34 (by kernel_rfl) rfl #[.int .i64 ((rd_T36 l0 x6_2).f3)] (by rfl) rfl rfl (by (try simp only [List.map_toArray, List.map_cons, List.map_nil]); first | done | rfl | (simp only [List.length_drop, List.length_take]; rfl)) ?_
                              with_reducible refine (causewayref20_digits.calls kj10 ((rd_T36 l0 x6_2).f3) t237 _ A16.out).mono ?_
                              rintro e w22 ⟨rfl, hb⟩
                              refine ⟨_, rfl, ?_⟩
                              have n0_ := Aside0.mk (below_step (by repeat (first | (with_reducible first | exact HB.out | apply below_alloc | apply pw_below_drewN | apply below_drew1) | exact HB.out)) hb)
                              clear HB
                              have HB := n0_
                              clear n0_
                              (try clear hb)
                              (try clear hb2)
                              (try clear hk)
                              (try clear hi)
                              refine hK.out _ _ ⟨((HB.out.cell (World.block_lt_of_cell? w _ hw236_0)).trans hw236_0), ((HB.out.cell (World.block_lt_of_cell? w _ hw236_1)).trans hw236_1), ((HB.out.cell (World.block_lt_of_cell? w _ hw236_2)).trans hw236_2), ((HB.out.cell (World.block_lt_of_cell? w _ hw236_3)).trans hw236_3), ((HB.out.cell (World.block_lt_of_cell? w _ hw236_4)).trans hw236_4), ((HB.out.cell (World.block_lt_of_cell? w _ hw238_0)).trans hw238_0), ((HB.out.cell (World.block_lt_of_cell? w _ hw238_1)).trans hw238_1), ((HB.out.cell (World.block_lt_of_cell? w _ hw238_2)).trans hw238_2), ((HB.out.cell (World.block_lt_of_cell? w _ hw238_3)).trans hw238_3), ((HB.out.cell (World.block_lt_of_cell? w _ hw238_4)).trans hw238_4)⟩ (fun hHeld => ?_)
                              clear hK K
                              refine norm_ (a' := ?_) ?_ ?_
                              rotate_left
                              · show Act.put _ (some 40) _ = _
                                simp only [Act.put, List.setIfInBounds_toArray, List.set_cons_zero, List.set_cons_succ, i64_w, i32_w]
                                rfl
                              refine pure_ (i := 6) (N := some 41) (v := ?_) (a' := ?_) #[true, true, true, true, true, true, true, true, true, true, true, true, false, false, false] rfl rfl (any_of HT_.out (by kernel_rfl)) (fun _ _ _ h => h) (Or.inl ⟨by rfl, ?_⟩) ?_ ?_
                              rotate_left
                              · intro w'
                                go_simp
                                with_reducible rfl
                              rotate_left
                              · simp only [Act.put, List.setIfInBounds_toArray, List.set_cons_zero, List.set_cons_succ, i64_w, i32_w]
                                rfl
                              refine one_ (i := 12) (N := some 47) #[true, true, true, true, true, true, true, true, true, true, true, true, true, false, false] rfl rfl (one_of HT_.out (by kernel_rfl)) (by decide) (fun K hK => ?_)
                              refine goes_ Tryz.func34 (by kernel_rfl) rfl #[.int .i64 ((rd_T36 l0 x6_2).f4)] (by rfl) rfl rfl (by (try simp only [List.map_toArray, List.map_cons, List.map_nil]); first | done | rfl | (simp only [List.length_drop, List.length_take]; rfl)) ?_
                              with_reducible refine (causewayref20_digits.calls kj10 ((rd_T36 l0 x6_2).f4) t239 _ A18.out).mono ?_
                              rintro e w23 ⟨rfl, hb⟩
                              refine ⟨_, rfl, ?_⟩
                              have n0_ := Aside0.mk (below_step (by repeat (first | (with_reducible first | exact HB.out | apply below_alloc | apply pw_below_drewN | apply below_drew1) | exact HB.out)) hb)
                              clear HB
                              have HB := n0_
                              clear n0_
                              (try clear hb)
                              (try clear hb2)
                              (try clear hk)
                              (try clear hi)
                              refine hK.out _ _ ⟨((HB.out.cell (World.block_lt_of_cell? w _ hw236_0)).trans hw236_0), ((HB.out.cell (World.block_lt_of_cell? w _ hw236_1)).trans hw236_1), ((HB.out.cell (World.block_lt_of_cell? w _ hw236_2)).trans hw236_2), ((HB.out.cell (World.block_lt_of_cell? w _ hw236_3)).trans hw236_3), ((HB.out.cell (World.block_lt_of_cell? w _ hw236_4)).trans hw236_4), ((HB.out.cell (World.block_lt_of_cell? w _ hw238_0)).trans hw238_0), ((HB.out.cell (World.block_lt_of_cell? w _ hw238_1)).trans hw238_1), ((HB.out.cell (World.block_lt_of_cell? w _ hw238_2)).trans hw238_2), ((HB.out.cell (World.block_lt_of_cell? w _ hw238_3)).trans hw238_3), ((HB.out.cell (World.block_lt_of_cell? w _ hw238_4)).trans hw238_4)⟩ (fun hHeld => ?_)
                              clear hK K
                              refine norm_ (a' := ?_) ?_ ?_
                              rotate_left
                              · show Act.put _ (some 47) _ = _
                                simp only [Act.put, List.setIfInBounds_toArray, List.set_cons_zero, List.set_cons_succ, i64_w, i32_w]
                                rfl
                              refine pure_ (i := 13) (N := some 48) (v := ?_) (a' := ?_) #[true, true, true, true, true, true, true, true, true, true, true, true, true, true, false] rfl rfl (any_of HT_.out (by kernel_rfl)) (fun _ _ _ h => h) (Or.inl ⟨by rfl, ?_⟩) ?_ ?_
                              rotate_left
                              · intro w'
                                go_simp
                                with_reducible rfl
                              rotate_left
                              · simp only [Act.put, List.setIfInBounds_toArray, List.set_cons_zero, List.set_cons_succ, i64_w, i32_w]
                                rfl
                              refine pure_ (i := 14) (N := some 8) (v := ?_) (a' := ?_) #[true, true, true, true, true, true, true, true, true, true, true, true, true, true, true] rfl rfl (any_of HT_.out (by kernel_rfl)) (fun _ _ _ h => h) (Or.inl ⟨by rfl, ?_⟩) ?_ ?_
                              rotate_left
                              · intro w'
                                go_simp
                                with_reducible rfl
                              rotate_left
                              · simp only [Act.put, List.setIfInBounds_toArray, List.set_cons_zero, List.set_cons_succ, i64_w, i32_w]
                                rfl
                              refine done_ (done_of HT_.out (by kernel_rfl)) ?_
                              try go_wp2
                              have n0_ := Aside0.mk (below_drew1 HB.out)
                              clear HB
                              have HB := n0_
                              clear n0_
                              have p240 : 0 ≤ (x6_2 : Int) := of_decide_eq_true (by first | (with_reducible assumption) | assumption)
                              have q240 : x6_2 < (l0.length : Int) := of_decide_eq_true (by first | (with_reducible assumption) | assumption)
                              obtain ⟨ad240, e240, hx240_0, hx240_1, hx240_2, hx240_3, hx240_4⟩ := at_T36 HR0.out x6_2 p240 q240
                              have hw240_4 := hx240_4
                              have hw240_3 := hx240_3
                              have hw240_2 := hx240_2
                              have hw240_1 := hx240_1
                              have hw240_0 := hx240_0
                              obtain rfl : ad235 = ad240 := (by injection e240)
                              replace hx240_0 := (HB.out.cell (World.block_lt_of_cell? w _ hx240_0)).trans hx240_0
                              replace hx240_1 := (HB.out.cell (World.block_lt_of_cell? w _ hx240_1)).trans hx240_1
                              replace hx240_2 := (HB.out.cell (World.block_lt_of_cell? w _ hx240_2)).trans hx240_2
                              replace hx240_3 := (HB.out.cell (World.block_lt_of_cell? w _ hx240_3)).trans hx240_3
                              replace hx240_4 := (HB.out.cell (World.block_lt_of_cell? w _ hx240_4)).trans hx240_4
                              replace p240 := eq_true p240
                              replace q240 := eq_true q240
                              have p241 : 0 ≤ (x6_2 : Int) := of_decide_eq_true (by first | (with_reducible assumption) | assumption)
                              have q241 : x6_2 < (l0.length : Int) := of_decide_eq_true (by first | (with_reducible assumption) | assumption)
                              obtain ⟨ad241, e241, hx241_0, hx241_1, hx241_2, hx241_3, hx241_4⟩ := at_T36 HR0.out x6_2 p241 q241
                              have hw241_4 := hx241_4
                              have hw241_3 := hx241_3
                              have hw241_2 := hx241_2
                              have hw241_1 := hx241_1
                              have hw241_0 := hx241_0
                              obtain rfl : ad235 = ad241 := (by injection e241)
                              replace hx241_0 := (HB.out.cell (World.block_lt_of_cell? w _ hx241_0)).trans hx241_0
                              replace hx241_1 := (HB.out.cell (World.block_lt_of_cell? w _ hx241_1)).trans hx241_1
                              replace hx241_2 := (HB.out.cell (World.block_lt_of_cell? w _ hx241_2)).trans hx241_2
                              replace hx241_3 := (HB.out.cell (World.block_lt_of_cell? w _ hx241_3)).trans hx241_3
                              replace hx241_4 := (HB.out.cell (World.block_lt_of_cell? w _ hx241_4)).trans hx241_4
                              replace p241 := eq_true p241
                              replace q241 := eq_true q241
                              refine start_ (n := 11) (S := fun w' => w'.cell? (ad235.add ((x6_2).toNat * 5)) = some (.bool ((rd_T36 l0 x6_2).f0)) ∧ w'.cell? ⟨(ad235.add ((x6_2).toNat * 5)).block, (ad235.add ((x6_2).toNat * 5)).off + 1, none⟩ = some (.int .i64 ((rd_T36 l0 x6_2).f1)) ∧ w'.cell? ⟨(ad235.add ((x6_2).toNat * 5)).block, (ad235.add ((x6_2).toNat * 5)).off + 2, none⟩ = some (.int .i64 ((rd_T36 l0 x6_2).f2)) ∧ w'.cell? ⟨(ad235.add ((x6_2).toNat * 5)).block, (ad235.add ((x6_2).toNat * 5)).off + 3, none⟩ = some (.int .i64 ((rd_T36 l0 x6_2).f3)) ∧ w'.cell? ⟨(ad235.add ((x6_2).toNat * 5)).block, (ad235.add ((x6_2).toNat * 5)).off + 4, none⟩ = some (.int .i64 ((rd_T36 l0 x6_2).f4)) ∧ w'.cell? (ad235.add ((x6_2).toNat * 5)) = some (.bool ((rd_T36 l0 x6_2).f0)) ∧ w'.cell? ⟨(ad235.add ((x6_2).toNat * 5)).block, (ad235.add ((x6_2).toNat * 5)).off + 1, none⟩ = some (.int .i64 ((rd_T36 l0 x6_2).f1)) ∧ w'.cell? ⟨(ad235.add ((x6_2).toNat * 5)).block, (ad235.add ((x6_2).toNat * 5)).off + 2, none⟩ = some (.int .i64 ((rd_T36 l0 x6_2).f2)) ∧ w'.cell? ⟨(ad235.add ((x6_2).toNat * 5)).block, (ad235.add ((x6_2).toNat * 5)).off + 3, none⟩ = some (.int .i64 ((rd_T36 l0 x6_2).f3)) ∧ w'.cell? ⟨(ad235.add ((x6_2).toNat * 5)).block, (ad235.add ((x6_2).toNat * 5)).off + 4, none⟩ = some (.int .i64 ((rd_T36 l0 x6_2).f4))) (ds := []) #[false, false, false, false, false, false, false, false, false, false, false] (by kernel_rfl) rfl rfl ⟨((HB.out.cell (World.block_lt_of_cell? w _ hw240_0)).trans hw240_0), ((HB.out.cell (World.block_lt_of_cell? w _ hw240_1)).trans hw240_1), ((HB.out.cell (World.block_lt_of_cell? w _ hw240_2)).trans hw240_2), ((HB.out.cell (World.block_lt_of_cell? w _ hw240_3)).trans hw240_3), ((HB.out.cell (World.block_lt_of_cell? w _ hw240_4)).trans hw240_4), ((HB.out.cell (World.block_lt_of_cell? w _ hw241_0)).trans hw241_0), ((HB.out.cell (World.block_lt_of_cell? w _ hw241_1)).trans hw241_1), ((HB.out.cell (World.block_lt_of_cell? w _ hw241_2)).trans hw241_2), ((HB.out.cell (World.block_lt_of_cell? w _ hw241_3)).trans hw241_3), ((HB.out.cell (World.block_lt_of_cell? w _ hw241_4)).trans hw241_4)⟩ (fun hHeld => ?_); refine with_tabW causewayref20_Text.tab16 causewayref20_Text.bits16 (fun HT_ HW_ => ?_)
                              generalize w23.drew = w24 at HB hx240_0 hx240_1 hx240_2 hx240_3 hx240_4 hx241_0 hx241_1 hx241_2 hx241_3 hx241_4 hHeld ⊢
                              refine pure_ (i := 0) (N := some 49) (v := ?_) (a' := ?_) #[true, false, false, false, false, false, false, false, false, false, false] rfl rfl (any_of HT_.out (by kernel_rfl)) (fun _ _ _ h => h) (Or.inl ⟨by rfl, ?_⟩) ?_ ?_
                              rotate_left
                              · intro w'
                                go_simp
                                with_reducible rfl
                              rotate_left
                              · simp only [Act.put, List.setIfInBounds_toArray, List.set_cons_zero, List.set_cons_succ, i64_w, i32_w]
                                rfl
                              refine pure_ (i := 1) (N := some 50) (v := ?_) (a' := ?_) #[true, true, false, false, false, false, false, false, false, false, false] rfl rfl (any_of HT_.out (by kernel_rfl)) (fun _ _ _ h => h) (Or.inl ⟨by rfl, ?_⟩) ?_ ?_
                              rotate_left
                              · intro w'
                                go_simp
                                with_reducible rfl
                              rotate_left
                              · simp only [Act.put, List.setIfInBounds_toArray, List.set_cons_zero, List.set_cons_succ, i64_w, i32_w]
                                rfl
                              refine pure_ (i := 2) (N := some 51) (v := ?_) (a' := ?_) #[true, true, true, false, false, false, false, false, false, false, false] rfl rfl (any_of HT_.out (by kernel_rfl)) (fun _ _ _ h => h) (Or.inl ⟨by rfl, ?_⟩) ?_ ?_
                              rotate_left
                              · intro w'
                                go_simp
                                with_reducible rfl
                              rotate_left
                              · simp only [Act.put, List.setIfInBounds_toArray, List.set_cons_zero, List.set_cons_succ, i64_w, i32_w]
                                rfl
                              refine pure_ (i := 3) (N := some 52) (v := ?_) (a' := ?_) #[true, true, true, true, false, false, false, false, false, false, false] rfl rfl (any_of HT_.out (by kernel_rfl)) (fun _ _ _ h => h) (Or.inl ⟨by rfl, ?_⟩) ?_ ?_
                              rotate_left
                              · intro w'
                                go_simp
                                with_reducible rfl
                              rotate_left
                              · simp only [Act.put, List.setIfInBounds_toArray, List.set_cons_zero, List.set_cons_succ, i64_w, i32_w]
                                rfl
                              refine pure_ (i := 5) (N := some 54) (v := ?_) (a' := ?_) #[true, true, true, true, false, true, false, false, false, false, false] rfl rfl (any_of HT_.out (by kernel_rfl)) (fun _ _ _ h => h) (Or.inl ⟨by rfl, ?_⟩) ?_ ?_
                              rotate_left
                              · intro w'
                                go_simp
                                with_reducible rfl
                              rotate_left
                              · simp only [Act.put, List.setIfInBounds_toArray, List.set_cons_zero, List.set_cons_succ, i64_w, i32_w]
                                rfl
                              refine pure_ (i := 6) (N := some 55) (v := ?_) (a' := ?_) #[true, true, true, true, false, true, true, false, false, false, false] rfl rfl (any_of HT_.out (by kernel_rfl)) (fun _ _ _ h => h) (Or.inl ⟨by rfl, ?_⟩) ?_ ?_
                              rotate_left
                              · intro w'
                                go_simp
                                with_reducible rfl
                              rotate_left
                              · simp only [Act.put, List.setIfInBounds_toArray, List.set_cons_zero, List.set_cons_succ, i64_w, i32_w]
                                rfl
                              refine pure_ (i := 7) (N := some 56) (v := ?_) (a' := ?_) #[true, true, true, true, false, true, true, true, false, false, false] rfl rfl (any_of HT_.out (by kernel_rfl)) (fun _ _ _ h => h) (Or.inl ⟨by rfl, ?_⟩) ?_ ?_
                              rotate_left
                              · intro w'
                                go_simp
                                with_reducible rfl
                              rotate_left
                              · simp only [Act.put, List.setIfInBounds_toArray, List.set_cons_zero, List.set_cons_succ, i64_w, i32_w]
                                rfl
                              refine pure_ (i := 8) (N := some 57) (v := ?_) (a' := ?_) #[true, true, true, true, false, true, true, true, true, false, false] rfl rfl (any_of HT_.out (by kernel_rfl)) (fun _ _ _ h => h) (Or.inl ⟨by rfl, ?_⟩) ?_ ?_
                              rotate_left
                              · intro w'
                                go_simp
                                with_reducible rfl
                              rotate_left
                              · simp only [Act.put, List.setIfInBounds_toArray, List.set_cons_zero, List.set_cons_succ, i64_w, i32_w]
                                rfl
                              refine take_ (i := 4) (N := some 53) (v := ?_) (a' := ?_) #[true, true, true, true, true, true, true, true, true, false, false] rfl rfl (take_ofW HT_.out HW_.out (by kernel_rfl)) (fun _ _ _ h => h) (Or.inl ⟨by rfl, ?_⟩) hHeld ?_ ?_
                              rotate_left
                              · rintro w' ⟨s0, s1, s2, s3, s4, s5, s6, s7, s8, s9⟩
                                go_simp
                                with_reducible rfl
                              rotate_left
                              · simp only [Act.put, List.setIfInBounds_toArray, List.set_cons_zero, List.set_cons_succ, i64_w, i32_w]
                                rfl
                              refine take_ (i := 9) (N := some 58) (v := ?_) (a' := ?_) #[true, true, true, true, true, true, true, true, true, true, false] rfl rfl (take_ofW HT_.out HW_.out (by kernel_rfl)) (fun _ _ _ h => h) (Or.inl ⟨by rfl, ?_⟩) hHeld ?_ ?_
                              rotate_left
                              · rintro w' ⟨s0, s1, s2, s3, s4, s5, s6, s7, s8, s9⟩
                                go_simp
                                with_reducible rfl
                              rotate_left
                              · simp only [Act.put, List.setIfInBounds_toArray, List.set_cons_zero, List.set_cons_succ, i64_w, i32_w]
                                rfl
                              refine pure_ (i := 10) (N := some 59) (v := ?_) (a' := ?_) #[true, true, true, true, true, true, true, true, true, true, true] rfl rfl (any_of HT_.out (by kernel_rfl)) (fun _ _ _ h => h) (Or.inl ⟨by rfl, ?_⟩) ?_ ?_
                              rotate_left
                              · intro w'
                                go_simp
                                with_reducible rfl
                              rotate_left
                              · simp only [Act.put, List.setIfInBounds_toArray, List.set_cons_zero, List.set_cons_succ, i64_w, i32_w]
                                rfl
                              refine done_ (done_of HT_.out (by kernel_rfl)) ?_
                              go_upto_if 59 with (fail)
                              go_cut [8] (fun v8 wc => ∃ (kq : Nat) (x8_19 : ByteArray), v8 = .string x8_19 ∧ Aside0 (causewayref20_Text.j3 kq l0 x5_2 x6_2 x7_10 x8_19 = some (r1, r2)) ∧ Aside0 (kq ≤ kj10) ∧ Aside0 (Below w.heap.size w wc))
                              case first =>
                                have H := HC20.out
                                clear HC20
                                by_cases c25 : ((rd_T36 l0 x6_2).f3) = ((rd_T36 l0 x6_2).f4)
                                · rw [if_pos c25] at H
                                  have c25b0 : (((rd_T36 l0 x6_2).f3) == ((rd_T36 l0 x6_2).f4)) = true := beq_iff_eq.mpr c25
                                  have c25b1 : (((rd_T36 l0 x6_2).f3) != ((rd_T36 l0 x6_2).f4)) = false := bne_eq_false_iff_eq.mpr c25
                                  clear c25
                                  (first | rw [c25b0] | (simp only [i64_w, i32_w]; rw [c25b0]) | skip)
                                  replace H := Option.bind_eq_some_iff.mp H
                                  obtain ⟨t243, A260, H⟩ := H
                                  replace H : (causewayref20_Text.j3 kj10 l0 x5_2 x6_2 x7_10 t243) = some (r1, r2) := H
                                  have A26 := Aside0.mk A260
                                  clear A260
                                  have H' := Aside0.mk H
                                  clear H
                                  have p242 : 0 ≤ (x6_2 : Int) := of_decide_eq_true (by first | (with_reducible assumption) | assumption)
                                  have q242 : x6_2 < (l0.length : Int) := of_decide_eq_true (by first | (with_reducible assumption) | assumption)
                                  obtain ⟨ad242, e242, hx242_0, hx242_1, hx242_2, hx242_3, hx242_4⟩ := at_T36 HR0.out x6_2 p242 q242
                                  obtain rfl : ad235 = ad242 := (by injection e242)
                                  replace hx242_0 := (HB.out.cell (World.block_lt_of_cell? w _ hx242_0)).trans hx242_0
                                  replace hx242_1 := (HB.out.cell (World.block_lt_of_cell? w _ hx242_1)).trans hx242_1
                                  replace hx242_2 := (HB.out.cell (World.block_lt_of_cell? w _ hx242_2)).trans hx242_2
                                  replace hx242_3 := (HB.out.cell (World.block_lt_of_cell? w _ hx242_3)).trans hx242_3
                                  replace hx242_4 := (HB.out.cell (World.block_lt_of_cell? w _ hx242_4)).trans hx242_4
                                  replace p242 := eq_true p242
                                  replace q242 := eq_true q242
                                  go_wp2_with (first | ((with_reducible refine gate_callee (f := 34) rfl ?_); refine goesL_ (some 65) rfl rfl Tryz.func34 (by kernel_rfl) rfl #[.int .i64 ((rd_T36 l0 x6_2).f3)] rfl (by (try simp only [List.map_toArray, List.map_cons, List.map_nil]); first | done | rfl | (simp only [List.length_drop, List.length_take]; rfl)) ?_; (with_reducible refine (causewayref20_digits.calls kj10 ((rd_T36 l0 x6_2).f3) t243 _ A26.out).mono ?_); rintro e w27 ⟨rfl, hb⟩; refine ⟨_, rfl, ?_⟩; have n0_ := Aside0.mk (below_step (by repeat (first | (with_reducible first | exact HB.out | apply below_alloc | apply pw_below_drewN | apply below_drew1) | exact HB.out)) hb); clear HB; have HB := n0_; clear n0_; (try clear hb); (try clear hb2); (try clear hk); (try clear hi)))
                                  go_meet
                                  case rel => exact ⟨_, (t243), (by first | rfl | (simp; done) | (simp [*]; done)), H', ⟨by have := HK1.out; have := HK2.out; have := HJ10.out; first | omega | exact Nat.le_refl _⟩, ⟨by repeat (first | (with_reducible first | exact HB.out | apply below_alloc | apply pw_below_drewN | apply below_drew1) | exact HB.out)⟩⟩
                                · rw [if_neg c25] at H
                                  have c25b0 : (((rd_T36 l0 x6_2).f3) == ((rd_T36 l0 x6_2).f4)) = false := beq_eq_false_iff_ne.mpr c25
                                  have c25b1 : (((rd_T36 l0 x6_2).f3) != ((rd_T36 l0 x6_2).f4)) = true := bne_iff_ne.mpr c25
                                  (first | rw [c25b0] | (simp only [i64_w, i32_w]; rw [c25b0]) | skip)
                                  have H' := Aside0.mk H
                                  clear H
                                  go_wp2
                                  go_meet
                                  case rel => exact ⟨_, ((t237 ++ (⟨#[45]⟩ : ByteArray)) ++ t239), (by first | rfl | (simp; done) | (simp [*]; done)), H', ⟨by have := HK1.out; have := HK2.out; have := HJ10.out; first | omega | exact Nat.le_refl _⟩, ⟨by repeat (first | (with_reducible first | exact HB.out | apply below_alloc | apply pw_below_drewN | apply below_drew1) | exact HB.out)⟩⟩
                              case rest =>
                                clear HC20
                                try clear c1
                                try clear q1
                                try clear c2
                                try clear c2b0
                                try clear c2b1
                                try clear p2
                                try clear q2
                                try clear hx2
                                try clear c3
                                try clear c3b0
                                try clear c4
                                try clear c4b0
                                try clear c6
                                try clear p6
                                try clear c9
                                try clear c9b0
                                try clear c10
                                try clear c10b0
                                try clear q12
                                try clear c13
                                try clear c14
                                try clear c14b0
                                try clear c15
                                try clear c15b0
                                try clear c17
                                try clear c17b0
                                try clear c17b1
                                try clear c17b2
                                try clear c19
                                try clear c19b0
                                try clear c19b1
                                try clear c19b2
                                try clear p23
                                try clear q23
                                try clear hx23
                                try clear p24
                                try clear q24
                                try clear hx24
                                try clear c25
                                try clear c25b0
                                try clear c25b1
                                try clear hx233_0
                                try clear hx233_1
                                try clear hx233_2
                                try clear hx233_3
                                try clear hx233_4
                                try clear hx235_0
                                try clear hx235_1
                                try clear hx235_2
                                try clear hx235_3
                                try clear hx235_4
                                try clear hx236_0
                                try clear hx236_1
                                try clear hx236_2
                                try clear hx236_3
                                try clear hx236_4
                                try clear hx238_0
                                try clear hx238_1
                                try clear hx238_2
                                try clear hx238_3
                                try clear hx238_4
                                try clear hx240_0
                                try clear hx240_1
                                try clear hx240_2
                                try clear hx240_3
                                try clear hx240_4
                                try clear hx241_0
                                try clear hx241_1
                                try clear hx241_2
                                try clear hx241_3
                                try clear hx241_4
                                try clear hx242_0
                                try clear hx242_1
                                try clear hx242_2
                                try clear hx242_3
                                try clear hx242_4
                                try clear p2
                                try clear p233
                                try clear p235
                                try clear p236
                                try clear p238
                                try clear p240
                                try clear p241
                                try clear p242
                                try clear p6
                                try clear q1
                                try clear q12
                                try clear q2
                                try clear q233
                                try clear q235
                                try clear q236
                                try clear q238
                                try clear q240
                                try clear q241
                                try clear q242
                                obtain ⟨kq, x8_19, rfl, HA, HJ19, HB⟩ := hcut
                                cases kq with
                                | zero => exact absurd HA.out (by simp [causewayref20_Text.j3])
                                | succ kj19 =>
                                  have H := HA.out
                                  clear HA
                                  simp only [causewayref20_Text.j3] at H
                                  have HC28 := Aside0.mk H
                                  clear H
                                  go_upto_region 18 with (fail)
                                  go_cut [79] (fun v79 wc => ∃ (kq : Nat) (x79_27 : Bool), v79 = .bool x79_27 ∧ Aside0 (causewayref20_Text.j4 kq l0 x5_2 x6_2 x7_10 x8_19 x79_27 = some (r1, r2)) ∧ Aside0 (kq ≤ kj19) ∧ Aside0 (Below w.heap.size w wc))
                                  case first =>
                                    have H := HC28.out
                                    clear HC28
                                    by_cases c29 : 0 ≤ x6_2
                                    · rw [if_pos c29] at H
                                      have c29b0 : decide (0 ≤ x6_2) = true := decide_eq_true c29
                                      clear c29
                                      (first | rw [c29b0] | (simp only [i64_w, i32_w]; rw [c29b0]) | skip)
                                      by_cases c30 : x6_2 < (l0.length : Int)
                                      · rw [if_pos c30] at H
                                        have c30b0 : decide (x6_2 < (l0.length : Int)) = true := decide_eq_true c30
                                        clear c30
                                        by_cases c31 : ((rd_T36 l0 x6_2).f3) = 0
                                        · rw [if_pos c31] at H
                                          have c31b0 : (((rd_T36 l0 x6_2).f3) == 0) = true := beq_iff_eq.mpr c31
                                          have c31b1 : (((rd_T36 l0 x6_2).f3) != 0) = false := bne_eq_false_iff_eq.mpr c31
                                          clear c31
                                          have H' := Aside0.mk H
                                          clear H
                                          have p244 : 0 ≤ (x6_2 : Int) := of_decide_eq_true (by first | (with_reducible assumption) | assumption)
                                          have q244 : x6_2 < (l0.length : Int) := of_decide_eq_true (by first | (with_reducible assumption) | assumption)
                                          obtain ⟨ad244, e244, hx244_0, hx244_1, hx244_2, hx244_3, hx244_4⟩ := at_T36 HR0.out x6_2 p244 q244
                                          obtain rfl : ad235 = ad244 := (by injection e244)
                                          replace hx244_0 := (HB.out.cell (World.block_lt_of_cell? w _ hx244_0)).trans hx244_0
                                          replace hx244_1 := (HB.out.cell (World.block_lt_of_cell? w _ hx244_1)).trans hx244_1
                                          replace hx244_2 := (HB.out.cell (World.block_lt_of_cell? w _ hx244_2)).trans hx244_2
                                          replace hx244_3 := (HB.out.cell (World.block_lt_of_cell? w _ hx244_3)).trans hx244_3
                                          replace hx244_4 := (HB.out.cell (World.block_lt_of_cell? w _ hx244_4)).trans hx244_4
                                          replace p244 := eq_true p244
                                          replace q244 := eq_true q244
                                          have p245 : 0 ≤ (x6_2 : Int) := of_decide_eq_true (by first | (with_reducible assumption) | assumption)
                                          have q245 : x6_2 < (l0.length : Int) := of_decide_eq_true (by first | (with_reducible assumption) | assumption)
                                          obtain ⟨ad245, e245, hx245_0, hx245_1, hx245_2, hx245_3, hx245_4⟩ := at_T36 HR0.out x6_2 p245 q245
                                          obtain rfl : ad235 = ad245 := (by injection e245)
                                          replace hx245_0 := (HB.out.cell (World.block_lt_of_cell? w _ hx245_0)).trans hx245_0
                                          replace hx245_1 := (HB.out.cell (World.block_lt_of_cell? w _ hx245_1)).trans hx245_1
                                          replace hx245_2 := (HB.out.cell (World.block_lt_of_cell? w _ hx245_2)).trans hx245_2
                                          replace hx245_3 := (HB.out.cell (World.block_lt_of_cell? w _ hx245_3)).trans hx245_3
                                          replace hx245_4 := (HB.out.cell (World.block_lt_of_cell? w _ hx245_4)).trans hx245_4
                                          replace p245 := eq_true p245
                                          replace q245 := eq_true q245
                                          go_wp2
                                          go_meet
                                          case rel => exact ⟨_, ((((rd_T36 l0 x6_2).f4) == 65535)), (by first | rfl | (simp; done) | (simp [*]; done)), H', ⟨by have := HK1.out; have := HK2.out; have := HJ10.out; have := HJ19.out; first | omega | exact Nat.le_refl _⟩, ⟨by repeat (first | (with_reducible first | exact HB.out | apply below_alloc | apply pw_below_drewN | apply below_drew1) | exact HB.out)⟩⟩
                                        · rw [if_neg c31] at H
                                          have c31b0 : (((rd_T36 l0 x6_2).f3) == 0) = false := beq_eq_false_iff_ne.mpr c31
                                          have c31b1 : (((rd_T36 l0 x6_2).f3) != 0) = true := bne_iff_ne.mpr c31
                                          have H' := Aside0.mk H
                                          clear H
                                          have p244 : 0 ≤ (x6_2 : Int) := of_decide_eq_true (by first | (with_reducible assumption) | assumption)
                                          have q244 : x6_2 < (l0.length : Int) := of_decide_eq_true (by first | (with_reducible assumption) | assumption)
                                          obtain ⟨ad244, e244, hx244_0, hx244_1, hx244_2, hx244_3, hx244_4⟩ := at_T36 HR0.out x6_2 p244 q244
                                          obtain rfl : ad235 = ad244 := (by injection e244)
                                          replace hx244_0 := (HB.out.cell (World.block_lt_of_cell? w _ hx244_0)).trans hx244_0
                                          replace hx244_1 := (HB.out.cell (World.block_lt_of_cell? w _ hx244_1)).trans hx244_1
                                          replace hx244_2 := (HB.out.cell (World.block_lt_of_cell? w _ hx244_2)).trans hx244_2
                                          replace hx244_3 := (HB.out.cell (World.block_lt_of_cell? w _ hx244_3)).trans hx244_3
                                          replace hx244_4 := (HB.out.cell (World.block_lt_of_cell? w _ hx244_4)).trans hx244_4
                                          replace p244 := eq_true p244
                                          replace q244 := eq_true q244
                                          go_wp2
                                          go_meet
                                          case rel => exact ⟨_, (false), (by first | rfl | (simp; done) | (simp [*]; done)), H', ⟨by have := HK1.out; have := HK2.out; have := HJ10.out; have := HJ19.out; first | omega | exact Nat.le_refl _⟩, ⟨by repeat (first | (with_reducible first | exact HB.out | apply below_alloc | apply pw_below_drewN | apply below_drew1) | exact HB.out)⟩⟩
                                      · rw [if_neg c30] at H
                                        exact absurd H (by simp)
                                    · rw [if_neg c29] at H
                                      exact absurd H (by simp)
                                  case rest =>
                                    clear HC28
                                    try clear c1
                                    try clear q1
                                    try clear c2
                                    try clear c2b0
                                    try clear c2b1
                                    try clear p2
                                    try clear q2
                                    try clear hx2
                                    try clear c3
                                    try clear c3b0
                                    try clear c4
                                    try clear c4b0
                                    try clear c6
                                    try clear p6
                                    try clear c9
                                    try clear c9b0
                                    try clear c10
                                    try clear c10b0
                                    try clear q12
                                    try clear c13
                                    try clear c14
                                    try clear c14b0
                                    try clear c15
                                    try clear c15b0
                                    try clear c17
                                    try clear c17b0
                                    try clear c17b1
                                    try clear c17b2
                                    try clear c19
                                    try clear c19b0
                                    try clear c19b1
                                    try clear c19b2
                                    try clear p23
                                    try clear q23
                                    try clear hx23
                                    try clear p24
                                    try clear q24
                                    try clear hx24
                                    try clear c25
                                    try clear c25b0
                                    try clear c25b1
                                    try clear c29
                                    try clear c29b0
                                    try clear c30
                                    try clear c30b0
                                    try clear c31
                                    try clear c31b0
                                    try clear c31b1
                                    try clear hx233_0
                                    try clear hx233_1
                                    try clear hx233_2
                                    try clear hx233_3
                                    try clear hx233_4
                                    try clear hx235_0
                                    try clear hx235_1
                                    try clear hx235_2
                                    try clear hx235_3
                                    try clear hx235_4
                                    try clear hx236_0
                                    try clear hx236_1
                                    try clear hx236_2
                                    try clear hx236_3
                                    try clear hx236_4
                                    try clear hx238_0
                                    try clear hx238_1
                                    try clear hx238_2
                                    try clear hx238_3
                                    try clear hx238_4
                                    try clear hx240_0
                                    try clear hx240_1
                                    try clear hx240_2
                                    try clear hx240_3
                                    try clear hx240_4
                                    try clear hx241_0
                                    try clear hx241_1
                                    try clear hx241_2
                                    try clear hx241_3
                                    try clear hx241_4
                                    try clear hx242_0
                                    try clear hx242_1
                                    try clear hx242_2
                                    try clear hx242_3
                                    try clear hx242_4
                                    try clear hx244_0
                                    try clear hx244_1
                                    try clear hx244_2
                                    try clear hx244_3
                                    try clear hx244_4
                                    try clear hx245_0
                                    try clear hx245_1
                                    try clear hx245_2
                                    try clear hx245_3
                                    try clear hx245_4
                                    try clear p2
                                    try clear p23
                                    try clear p233
                                    try clear p235
                                    try clear p236
                                    try clear p238
                                    try clear p24
                                    try clear p240
                                    try clear p241
                                    try clear p242
                                    try clear p244
                                    try clear p245
                                    try clear p6
                                    try clear q1
                                    try clear q12
                                    try clear q2
                                    try clear q23
                                    try clear q233
                                    try clear q235
                                    try clear q236
                                    try clear q238
                                    try clear q24
                                    try clear q240
                                    try clear q241
                                    try clear q242
                                    try clear q244
                                    try clear q245
                                    obtain ⟨kq, x79_27, rfl, HA, HJ27, HB⟩ := hcut
                                    cases kq with
                                    | zero => exact absurd HA.out (by simp [causewayref20_Text.j4])
                                    | succ kj27 =>
                                      have H := HA.out
                                      clear HA
                                      simp only [causewayref20_Text.j4] at H
                                      by_cases c32 : x79_27 = true
                                      · subst c32
                                        have H1 : (if x5_2.size + x7_10.size ≤ 9223372036854775807 then (if 0 ≤ x6_2 then (if x6_2 < (l0.length : Int) then ((causewayref20_names.f kj27 ((rd_T36 l0 x6_2).f1)).bind fun t247 => (if (x5_2 ++ x7_10).size + t247.size ≤ 9223372036854775807 then (if ((x5_2 ++ x7_10) ++ t247).size + 3 ≤ 9223372036854775807 then ((causewayref20_names.f kj27 ((rd_T36 l0 x6_2).f2)).bind fun t249 => (if (((x5_2 ++ x7_10) ++ t247) ++ (⟨#[32, 62, 32]⟩ : ByteArray)).size + t249.size ≤ 9223372036854775807 then (if ((((x5_2 ++ x7_10) ++ t247) ++ (⟨#[32, 62, 32]⟩ : ByteArray)) ++ t249).size + 1 ≤ 9223372036854775807 then (if (((((x5_2 ++ x7_10) ++ t247) ++ (⟨#[32, 62, 32]⟩ : ByteArray)) ++ t249) ++ (⟨#[32]⟩ : ByteArray)).size + 1 ≤ 9223372036854775807 then (if ((((((x5_2 ++ x7_10) ++ t247) ++ (⟨#[32, 62, 32]⟩ : ByteArray)) ++ t249) ++ (⟨#[32]⟩ : ByteArray)) ++ (⟨#[42]⟩ : ByteArray)).size + 1 ≤ 9223372036854775807 then (causewayref20_Text.l1 kj27 l0 (((((((x5_2 ++ x7_10) ++ t247) ++ (⟨#[32, 62, 32]⟩ : ByteArray)) ++ t249) ++ (⟨#[32]⟩ : ByteArray)) ++ (⟨#[42]⟩ : ByteArray)) ++ (⟨#[10]⟩ : ByteArray)) (wrap64 (x6_2 + 1))) else (none)) else (none)) else (none)) else (none))) else (none)) else (none))) else (none)) else (none)) else (none)) = some (r1, r2) := by rw [if_pos rfl] at H; exact H
                                        clear H
                                        have H := H1
                                        clear H1
                                        by_cases c33 : x5_2.size + x7_10.size ≤ 9223372036854775807
                                        · rw [if_pos c33] at H
                                          have c33b0 := eq_true c33
                                          have c33b1 : decide (x5_2.size + x7_10.size ≤ 9223372036854775807) = true := decide_eq_true c33
                                          try have c33b2 : (9223372036854775807 < x5_2.size + x7_10.size) = False := eq_false (Nat.not_lt.2 c33)
                                          by_cases c34 : 0 ≤ x6_2
                                          · rw [if_pos c34] at H
                                            have c34b0 : decide (0 ≤ x6_2) = true := decide_eq_true c34
                                            clear c34
                                            by_cases c35 : x6_2 < (l0.length : Int)
                                            · rw [if_pos c35] at H
                                              have c35b0 : decide (x6_2 < (l0.length : Int)) = true := decide_eq_true c35
                                              clear c35
                                              replace H := Option.bind_eq_some_iff.mp H
                                              obtain ⟨t247, A360, H⟩ := H
                                              replace H : (if (x5_2 ++ x7_10).size + t247.size ≤ 9223372036854775807 then (if ((x5_2 ++ x7_10) ++ t247).size + 3 ≤ 9223372036854775807 then ((causewayref20_names.f kj27 ((rd_T36 l0 x6_2).f2)).bind fun t249 => (if (((x5_2 ++ x7_10) ++ t247) ++ (⟨#[32, 62, 32]⟩ : ByteArray)).size + t249.size ≤ 9223372036854775807 then (if ((((x5_2 ++ x7_10) ++ t247) ++ (⟨#[32, 62, 32]⟩ : ByteArray)) ++ t249).size + 1 ≤ 9223372036854775807 then (if (((((x5_2 ++ x7_10) ++ t247) ++ (⟨#[32, 62, 32]⟩ : ByteArray)) ++ t249) ++ (⟨#[32]⟩ : ByteArray)).size + 1 ≤ 9223372036854775807 then (if ((((((x5_2 ++ x7_10) ++ t247) ++ (⟨#[32, 62, 32]⟩ : ByteArray)) ++ t249) ++ (⟨#[32]⟩ : ByteArray)) ++ (⟨#[42]⟩ : ByteArray)).size + 1 ≤ 9223372036854775807 then (causewayref20_Text.l1 kj27 l0 (((((((x5_2 ++ x7_10) ++ t247) ++ (⟨#[32, 62, 32]⟩ : ByteArray)) ++ t249) ++ (⟨#[32]⟩ : ByteArray)) ++ (⟨#[42]⟩ : ByteArray)) ++ (⟨#[10]⟩ : ByteArray)) (wrap64 (x6_2 + 1))) else (none)) else (none)) else (none)) else (none))) else (none)) else (none)) = some (r1, r2) := H
                                              have A36 := Aside0.mk A360
                                              clear A360
                                              by_cases c37 : (x5_2 ++ x7_10).size + t247.size ≤ 9223372036854775807
                                              · rw [if_pos c37] at H
                                                have c37b0 := eq_true c37
                                                have c37b1 : decide ((x5_2 ++ x7_10).size + t247.size ≤ 9223372036854775807) = true := decide_eq_true c37
                                                try have c37b2 : (9223372036854775807 < (x5_2 ++ x7_10).size + t247.size) = False := eq_false (Nat.not_lt.2 c37)
                                                try (have c37b3 := c37b2; simp only [ByteArray.size_append, sz_lit1, sz_lit3] at c37b3)
                                                by_cases c38 : ((x5_2 ++ x7_10) ++ t247).size + 3 ≤ 9223372036854775807
                                                · rw [if_pos c38] at H
                                                  have c38b0 := eq_true c38
                                                  have c38b1 : decide (((x5_2 ++ x7_10) ++ t247).size + 3 ≤ 9223372036854775807) = true := decide_eq_true c38
                                                  try have c38b2 : (9223372036854775807 < ((x5_2 ++ x7_10) ++ t247).size + 3) = False := eq_false (Nat.not_lt.2 c38)
                                                  try (have c38b3 := c38b2; simp only [ByteArray.size_append, sz_lit1, sz_lit3] at c38b3)
                                                  replace H := Option.bind_eq_some_iff.mp H
                                                  obtain ⟨t249, A390, H⟩ := H
                                                  replace H : (if (((x5_2 ++ x7_10) ++ t247) ++ (⟨#[32, 62, 32]⟩ : ByteArray)).size + t249.size ≤ 9223372036854775807 then (if ((((x5_2 ++ x7_10) ++ t247) ++ (⟨#[32, 62, 32]⟩ : ByteArray)) ++ t249).size + 1 ≤ 9223372036854775807 then (if (((((x5_2 ++ x7_10) ++ t247) ++ (⟨#[32, 62, 32]⟩ : ByteArray)) ++ t249) ++ (⟨#[32]⟩ : ByteArray)).size + 1 ≤ 9223372036854775807 then (if ((((((x5_2 ++ x7_10) ++ t247) ++ (⟨#[32, 62, 32]⟩ : ByteArray)) ++ t249) ++ (⟨#[32]⟩ : ByteArray)) ++ (⟨#[42]⟩ : ByteArray)).size + 1 ≤ 9223372036854775807 then (causewayref20_Text.l1 kj27 l0 (((((((x5_2 ++ x7_10) ++ t247) ++ (⟨#[32, 62, 32]⟩ : ByteArray)) ++ t249) ++ (⟨#[32]⟩ : ByteArray)) ++ (⟨#[42]⟩ : ByteArray)) ++ (⟨#[10]⟩ : ByteArray)) (wrap64 (x6_2 + 1))) else (none)) else (none)) else (none)) else (none)) = some (r1, r2) := H
                                                  have A39 := Aside0.mk A390
                                                  clear A390
                                                  by_cases c40 : (((x5_2 ++ x7_10) ++ t247) ++ (⟨#[32, 62, 32]⟩ : ByteArray)).size + t249.size ≤ 9223372036854775807
                                                  · rw [if_pos c40] at H
                                                    have c40b0 := eq_true c40
                                                    have c40b1 : decide ((((x5_2 ++ x7_10) ++ t247) ++ (⟨#[32, 62, 32]⟩ : ByteArray)).size + t249.size ≤ 9223372036854775807) = true := decide_eq_true c40
                                                    try have c40b2 : (9223372036854775807 < (((x5_2 ++ x7_10) ++ t247) ++ (⟨#[32, 62, 32]⟩ : ByteArray)).size + t249.size) = False := eq_false (Nat.not_lt.2 c40)
                                                    try (have c40b3 := c40b2; simp only [ByteArray.size_append, sz_lit1, sz_lit3] at c40b3)
                                                    by_cases c41 : ((((x5_2 ++ x7_10) ++ t247) ++ (⟨#[32, 62, 32]⟩ : ByteArray)) ++ t249).size + 1 ≤ 9223372036854775807
                                                    · rw [if_pos c41] at H
                                                      have c41b0 := eq_true c41
                                                      have c41b1 : decide (((((x5_2 ++ x7_10) ++ t247) ++ (⟨#[32, 62, 32]⟩ : ByteArray)) ++ t249).size + 1 ≤ 9223372036854775807) = true := decide_eq_true c41
                                                      try have c41b2 : (9223372036854775807 < ((((x5_2 ++ x7_10) ++ t247) ++ (⟨#[32, 62, 32]⟩ : ByteArray)) ++ t249).size + 1) = False := eq_false (Nat.not_lt.2 c41)
                                                      try (have c41b3 := c41b2; simp only [ByteArray.size_append, sz_lit1, sz_lit3] at c41b3)
                                                      by_cases c42 : (((((x5_2 ++ x7_10) ++ t247) ++ (⟨#[32, 62, 32]⟩ : ByteArray)) ++ t249) ++ (⟨#[32]⟩ : ByteArray)).size + 1 ≤ 9223372036854775807
                                                      · rw [if_pos c42] at H
                                                        have c42b0 := eq_true c42
                                                        have c42b1 : decide ((((((x5_2 ++ x7_10) ++ t247) ++ (⟨#[32, 62, 32]⟩ : ByteArray)) ++ t249) ++ (⟨#[32]⟩ : ByteArray)).size + 1 ≤ 9223372036854775807) = true := decide_eq_true c42
                                                        try have c42b2 : (9223372036854775807 < (((((x5_2 ++ x7_10) ++ t247) ++ (⟨#[32, 62, 32]⟩ : ByteArray)) ++ t249) ++ (⟨#[32]⟩ : ByteArray)).size + 1) = False := eq_false (Nat.not_lt.2 c42)
                                                        try (have c42b3 := c42b2; simp only [ByteArray.size_append, sz_lit1, sz_lit3] at c42b3)
                                                        by_cases c43 : ((((((x5_2 ++ x7_10) ++ t247) ++ (⟨#[32, 62, 32]⟩ : ByteArray)) ++ t249) ++ (⟨#[32]⟩ : ByteArray)) ++ (⟨#[42]⟩ : ByteArray)).size + 1 ≤ 9223372036854775807
                                                        · rw [if_pos c43] at H
                                                          have c43b0 := eq_true c43
                                                          have c43b1 : decide (((((((x5_2 ++ x7_10) ++ t247) ++ (⟨#[32, 62, 32]⟩ : ByteArray)) ++ t249) ++ (⟨#[32]⟩ : ByteArray)) ++ (⟨#[42]⟩ : ByteArray)).size + 1 ≤ 9223372036854775807) = true := decide_eq_true c43
                                                          try have c43b2 : (9223372036854775807 < ((((((x5_2 ++ x7_10) ++ t247) ++ (⟨#[32, 62, 32]⟩ : ByteArray)) ++ t249) ++ (⟨#[32]⟩ : ByteArray)) ++ (⟨#[42]⟩ : ByteArray)).size + 1) = False := eq_false (Nat.not_lt.2 c43)
                                                          try (have c43b3 := c43b2; simp only [ByteArray.size_append, sz_lit1, sz_lit3] at c43b3)
                                                          have H' := Aside0.mk H
                                                          clear H
                                                          try go_wp2
                                                          have n0_ := Aside0.mk (below_drew1 HB.out)
                                                          clear HB
                                                          have HB := n0_
                                                          clear n0_
                                                          have p246 : 0 ≤ (x6_2 : Int) := of_decide_eq_true (by first | (with_reducible assumption) | assumption)
                                                          have q246 : x6_2 < (l0.length : Int) := of_decide_eq_true (by first | (with_reducible assumption) | assumption)
                                                          obtain ⟨ad246, e246, hx246_0, hx246_1, hx246_2, hx246_3, hx246_4⟩ := at_T36 HR0.out x6_2 p246 q246
                                                          have hw246_4 := hx246_4
                                                          have hw246_3 := hx246_3
                                                          have hw246_2 := hx246_2
                                                          have hw246_1 := hx246_1
                                                          have hw246_0 := hx246_0
                                                          obtain rfl : ad235 = ad246 := (by injection e246)
                                                          replace hx246_0 := (HB.out.cell (World.block_lt_of_cell? w _ hx246_0)).trans hx246_0
                                                          replace hx246_1 := (HB.out.cell (World.block_lt_of_cell? w _ hx246_1)).trans hx246_1
                                                          replace hx246_2 := (HB.out.cell (World.block_lt_of_cell? w _ hx246_2)).trans hx246_2
                                                          replace hx246_3 := (HB.out.cell (World.block_lt_of_cell? w _ hx246_3)).trans hx246_3
                                                          replace hx246_4 := (HB.out.cell (World.block_lt_of_cell? w _ hx246_4)).trans hx246_4
                                                          replace p246 := eq_true p246
                                                          replace q246 := eq_true q246
                                                          have p248 : 0 ≤ (x6_2 : Int) := of_decide_eq_true (by first | (with_reducible assumption) | assumption)
                                                          have q248 : x6_2 < (l0.length : Int) := of_decide_eq_true (by first | (with_reducible assumption) | assumption)
                                                          obtain ⟨ad248, e248, hx248_0, hx248_1, hx248_2, hx248_3, hx248_4⟩ := at_T36 HR0.out x6_2 p248 q248
                                                          have hw248_4 := hx248_4
                                                          have hw248_3 := hx248_3
                                                          have hw248_2 := hx248_2
                                                          have hw248_1 := hx248_1
                                                          have hw248_0 := hx248_0
                                                          obtain rfl : ad235 = ad248 := (by injection e248)
                                                          replace hx248_0 := (HB.out.cell (World.block_lt_of_cell? w _ hx248_0)).trans hx248_0
                                                          replace hx248_1 := (HB.out.cell (World.block_lt_of_cell? w _ hx248_1)).trans hx248_1
                                                          replace hx248_2 := (HB.out.cell (World.block_lt_of_cell? w _ hx248_2)).trans hx248_2
                                                          replace hx248_3 := (HB.out.cell (World.block_lt_of_cell? w _ hx248_3)).trans hx248_3
                                                          replace hx248_4 := (HB.out.cell (World.block_lt_of_cell? w _ hx248_4)).trans hx248_4
                                                          replace p248 := eq_true p248
                                                          replace q248 := eq_true q248
                                                          refine start_ (n := 23) (S := fun w' => w'.cell? (ad235.add ((x6_2).toNat * 5)) = some (.bool ((rd_T36 l0 x6_2).f0)) ∧ w'.cell? ⟨(ad235.add ((x6_2).toNat * 5)).block, (ad235.add ((x6_2).toNat * 5)).off + 1, none⟩ = some (.int .i64 ((rd_T36 l0 x6_2).f1)) ∧ w'.cell? ⟨(ad235.add ((x6_2).toNat * 5)).block, (ad235.add ((x6_2).toNat * 5)).off + 2, none⟩ = some (.int .i64 ((rd_T36 l0 x6_2).f2)) ∧ w'.cell? ⟨(ad235.add ((x6_2).toNat * 5)).block, (ad235.add ((x6_2).toNat * 5)).off + 3, none⟩ = some (.int .i64 ((rd_T36 l0 x6_2).f3)) ∧ w'.cell? ⟨(ad235.add ((x6_2).toNat * 5)).block, (ad235.add ((x6_2).toNat * 5)).off + 4, none⟩ = some (.int .i64 ((rd_T36 l0 x6_2).f4)) ∧ w'.cell? (ad235.add ((x6_2).toNat * 5)) = some (.bool ((rd_T36 l0 x6_2).f0)) ∧ w'.cell? ⟨(ad235.add ((x6_2).toNat * 5)).block, (ad235.add ((x6_2).toNat * 5)).off + 1, none⟩ = some (.int .i64 ((rd_T36 l0 x6_2).f1)) ∧ w'.cell? ⟨(ad235.add ((x6_2).toNat * 5)).block, (ad235.add ((x6_2).toNat * 5)).off + 2, none⟩ = some (.int .i64 ((rd_T36 l0 x6_2).f2)) ∧ w'.cell? ⟨(ad235.add ((x6_2).toNat * 5)).block, (ad235.add ((x6_2).toNat * 5)).off + 3, none⟩ = some (.int .i64 ((rd_T36 l0 x6_2).f3)) ∧ w'.cell? ⟨(ad235.add ((x6_2).toNat * 5)).block, (ad235.add ((x6_2).toNat * 5)).off + 4, none⟩ = some (.int .i64 ((rd_T36 l0 x6_2).f4))) (ds := []) #[false, false, false, false, false, false, false, false, false, false, false, false, false, false, false, false, false, false, false, false, false, false, false] (by kernel_rfl) rfl rfl ⟨((HB.out.cell (World.block_lt_of_cell? w _ hw246_0)).trans hw246_0), ((HB.out.cell (World.block_lt_of_cell? w _ hw246_1)).trans hw246_1), ((HB.out.cell (World.block_lt_of_cell? w _ hw246_2)).trans hw246_2), ((HB.out.cell (World.block_lt_of_cell? w _ hw246_3)).trans hw246_3), ((HB.out.cell (World.block_lt_of_cell? w _ hw246_4)).trans hw246_4), ((HB.out.cell (World.block_lt_of_cell? w _ hw248_0)).trans hw248_0), ((HB.out.cell (World.block_lt_of_cell? w _ hw248_1)).trans hw248_1), ((HB.out.cell (World.block_lt_of_cell? w _ hw248_2)).trans hw248_2), ((HB.out.cell (World.block_lt_of_cell? w _ hw248_3)).trans hw248_3), ((HB.out.cell (World.block_lt_of_cell? w _ hw248_4)).trans hw248_4)⟩ (fun hHeld => ?_); refine with_tabW causewayref20_Text.tab20 causewayref20_Text.bits20 (fun HT_ HW_ => ?_)
                                                          generalize wc.drew = w44 at HB hx246_0 hx246_1 hx246_2 hx246_3 hx246_4 hx248_0 hx248_1 hx248_2 hx248_3 hx248_4 hHeld ⊢
                                                          refine pure_ (i := 0) (N := some 80) (v := ?_) (a' := ?_) #[true, false, false, false, false, false, false, false, false, false, false, false, false, false, false, false, false, false, false, false, false, false, false] rfl rfl (any_of HT_.out (by kernel_rfl)) (fun _ _ _ h => h) (Or.inl ⟨by rfl, ?_⟩) ?_ ?_
                                                          rotate_left
                                                          · intro w'
                                                            go_simp
                                                            with_reducible rfl
                                                          rotate_left
                                                          · simp only [Act.put, List.setIfInBounds_toArray, List.set_cons_zero, List.set_cons_succ, i64_w, i32_w]
                                                            rfl
                                                          refine pure_ (i := 1) (N := some 81) (v := ?_) (a' := ?_) #[true, true, false, false, false, false, false, false, false, false, false, false, false, false, false, false, false, false, false, false, false, false, false] rfl rfl (any_of HT_.out (by kernel_rfl)) (fun _ _ _ h => h) (Or.inl ⟨by rfl, ?_⟩) ?_ ?_
                                                          rotate_left
                                                          · intro w'
                                                            go_simp
                                                            with_reducible rfl
                                                          rotate_left
                                                          · simp only [Act.put, List.setIfInBounds_toArray, List.set_cons_zero, List.set_cons_succ, i64_w, i32_w]
                                                            rfl
                                                          refine pure_ (i := 2) (N := some 82) (v := ?_) (a' := ?_) #[true, true, true, false, false, false, false, false, false, false, false, false, false, false, false, false, false, false, false, false, false, false, false] rfl rfl (any_of HT_.out (by kernel_rfl)) (fun _ _ _ h => h) (Or.inl ⟨by rfl, ?_⟩) ?_ ?_
                                                          rotate_left
                                                          · intro w'
                                                            go_simp
                                                            with_reducible rfl
                                                          rotate_left
                                                          · simp only [Act.put, List.setIfInBounds_toArray, List.set_cons_zero, List.set_cons_succ, i64_w, i32_w]
                                                            rfl
                                                          refine pure_ (i := 3) (N := some 83) (v := ?_) (a' := ?_) #[true, true, true, true, false, false, false, false, false, false, false, false, false, false, false, false, false, false, false, false, false, false, false] rfl rfl (any_of HT_.out (by kernel_rfl)) (fun _ _ _ h => h) (Or.inl ⟨by rfl, ?_⟩) ?_ ?_
                                                          rotate_left
                                                          · intro w'
                                                            go_simp
                                                            with_reducible rfl
                                                          rotate_left
                                                          · simp only [Act.put, List.setIfInBounds_toArray, List.set_cons_zero, List.set_cons_succ, i64_w, i32_w]
                                                            rfl
                                                          refine pure_ (i := 4) (N := some 84) (v := ?_) (a' := ?_) #[true, true, true, true, true, false, false, false, false, false, false, false, false, false, false, false, false, false, false, false, false, false, false] rfl rfl (any_of HT_.out (by kernel_rfl)) (fun _ _ _ h => h) (Or.inl ⟨by rfl, ?_⟩) ?_ ?_
                                                          rotate_left
                                                          · intro w'
                                                            go_simp
                                                            with_reducible rfl
                                                          rotate_left
                                                          · simp only [Act.put, List.setIfInBounds_toArray, List.set_cons_zero, List.set_cons_succ, i64_w, i32_w]
                                                            rfl
                                                          refine pure_ (i := 5) (N := some 85) (v := ?_) (a' := ?_) #[true, true, true, true, true, true, false, false, false, false, false, false, false, false, false, false, false, false, false, false, false, false, false] rfl rfl (any_of HT_.out (by kernel_rfl)) (fun _ _ _ h => h) (Or.inl ⟨by rfl, ?_⟩) ?_ ?_
                                                          rotate_left
                                                          · intro w'
                                                            go_simp
                                                            with_reducible rfl
                                                          rotate_left
                                                          · simp only [Act.put, List.setIfInBounds_toArray, List.set_cons_zero, List.set_cons_succ, i64_w, i32_w]
                                                            rfl
                                                          refine pure_ (i := 6) (N := some 86) (v := ?_) (a' := ?_) #[true, true, true, true, true, true, true, false, false, false, false, false, false, false, false, false, false, false, false, false, false, false, false] rfl rfl (any_of HT_.out (by kernel_rfl)) (fun _ _ _ h => h) (Or.inl ⟨by rfl, ?_⟩) ?_ ?_
                                                          rotate_left
                                                          · intro w'
                                                            go_simp
                                                            with_reducible rfl
                                                          rotate_left
                                                          · simp only [Act.put, List.setIfInBounds_toArray, List.set_cons_zero, List.set_cons_succ, i64_w, i32_w]
                                                            rfl
                                                          refine pure_ (i := 11) (N := some 91) (v := ?_) (a' := ?_) #[true, true, true, true, true, true, true, false, false, false, false, true, false, false, false, false, false, false, false, false, false, false, false] rfl rfl (any_of HT_.out (by kernel_rfl)) (fun _ _ _ h => h) (Or.inl ⟨by rfl, ?_⟩) ?_ ?_
                                                          rotate_left
                                                          · intro w'
                                                            go_simp
                                                            with_reducible rfl
                                                          rotate_left
                                                          · simp only [Act.put, List.setIfInBounds_toArray, List.set_cons_zero, List.set_cons_succ, i64_w, i32_w]
                                                            rfl
                                                          refine pure_ (i := 12) (N := some 92) (v := ?_) (a' := ?_) #[true, true, true, true, true, true, true, false, false, false, false, true, true, false, false, false, false, false, false, false, false, false, false] rfl rfl (any_of HT_.out (by kernel_rfl)) (fun _ _ _ h => h) (Or.inl ⟨by rfl, ?_⟩) ?_ ?_
                                                          rotate_left
                                                          · intro w'
                                                            go_simp
                                                            with_reducible rfl
                                                          rotate_left
                                                          · simp only [Act.put, List.setIfInBounds_toArray, List.set_cons_zero, List.set_cons_succ, i64_w, i32_w]
                                                            rfl
                                                          refine pure_ (i := 13) (N := some 93) (v := ?_) (a' := ?_) #[true, true, true, true, true, true, true, false, false, false, false, true, true, true, false, false, false, false, false, false, false, false, false] rfl rfl (any_of HT_.out (by kernel_rfl)) (fun _ _ _ h => h) (Or.inl ⟨by rfl, ?_⟩) ?_ ?_
                                                          rotate_left
                                                          · intro w'
                                                            go_simp
                                                            with_reducible rfl
                                                          rotate_left
                                                          · simp only [Act.put, List.setIfInBounds_toArray, List.set_cons_zero, List.set_cons_succ, i64_w, i32_w]
                                                            rfl
                                                          refine pure_ (i := 14) (N := some 94) (v := ?_) (a' := ?_) #[true, true, true, true, true, true, true, false, false, false, false, true, true, true, true, false, false, false, false, false, false, false, false] rfl rfl (any_of HT_.out (by kernel_rfl)) (fun _ _ _ h => h) (Or.inl ⟨by rfl, ?_⟩) ?_ ?_
                                                          rotate_left
                                                          · intro w'
                                                            go_simp
                                                            with_reducible rfl
                                                          rotate_left
                                                          · simp only [Act.put, List.setIfInBounds_toArray, List.set_cons_zero, List.set_cons_succ, i64_w, i32_w]
                                                            rfl
                                                          refine pure_ (i := 19) (N := some 99) (v := ?_) (a' := ?_) #[true, true, true, true, true, true, true, false, false, false, false, true, true, true, true, false, false, false, false, true, false, false, false] rfl rfl (any_of HT_.out (by kernel_rfl)) (fun _ _ _ h => h) (Or.inl ⟨by rfl, ?_⟩) ?_ ?_
                                                          rotate_left
                                                          · intro w'
                                                            go_simp
                                                            with_reducible rfl
                                                          rotate_left
                                                          · simp only [Act.put, List.setIfInBounds_toArray, List.set_cons_zero, List.set_cons_succ, i64_w, i32_w]
                                                            rfl
                                                          refine take_ (i := 7) (N := some 87) (v := ?_) (a' := ?_) #[true, true, true, true, true, true, true, true, false, false, false, true, true, true, true, false, false, false, false, true, false, false, false] rfl rfl (take_ofW HT_.out HW_.out (by kernel_rfl)) (fun _ _ _ h => h) (Or.inl ⟨by rfl, ?_⟩) hHeld ?_ ?_
                                                          rotate_left
                                                          · rintro w' ⟨s0, s1, s2, s3, s4, s5, s6, s7, s8, s9⟩
                                                            go_simp
                                                            with_reducible rfl
                                                          rotate_left
                                                          · simp only [Act.put, List.setIfInBounds_toArray, List.set_cons_zero, List.set_cons_succ, i64_w, i32_w]
                                                            rfl
                                                          refine take_ (i := 15) (N := some 95) (v := ?_) (a' := ?_) #[true, true, true, true, true, true, true, true, false, false, false, true, true, true, true, true, false, false, false, true, false, false, false] rfl rfl (take_ofW HT_.out HW_.out (by kernel_rfl)) (fun _ _ _ h => h) (Or.inl ⟨by rfl, ?_⟩) hHeld ?_ ?_
                                                          rotate_left
                                                          · rintro w' ⟨s0, s1, s2, s3, s4, s5, s6, s7, s8, s9⟩
                                                            go_simp
                                                            with_reducible rfl
                                                          rotate_left
                                                          · simp only [Act.put, List.setIfInBounds_toArray, List.set_cons_zero, List.set_cons_succ, i64_w, i32_w]
                                                            rfl
                                                          refine one_ (i := 8) (N := some 88) #[true, true, true, true, true, true, true, true, true, false, false, true, true, true, true, true, false, false, false, true, false, false, false] rfl rfl (one_of HT_.out (by kernel_rfl)) (by decide) (fun K hK => ?_)
                                                          refine goes_ Tryz.func35 (by kernel_rfl) rfl #[.int .i64 ((rd_T36 l0 x6_2).f1)] (by rfl) rfl rfl (by (try simp only [List.map_toArray, List.map_cons, List.map_nil]); first | done | rfl | (simp only [List.length_drop, List.length_take]; rfl)) ?_
                                                          with_reducible refine (causewayref20_names.calls kj27 ((rd_T36 l0 x6_2).f1) t247 _ A36.out).mono ?_
                                                          rintro e w45 ⟨rfl, hb⟩
                                                          refine ⟨_, rfl, ?_⟩
                                                          have n0_ := Aside0.mk (below_step (by repeat (first | (with_reducible first | exact HB.out | apply below_alloc | apply pw_below_drewN | apply below_drew1) | exact HB.out)) hb)
                                                          clear HB
                                                          have HB := n0_
                                                          clear n0_
                                                          (try clear hb)
                                                          (try clear hb2)
                                                          (try clear hk)
                                                          (try clear hi)
                                                          refine hK.out _ _ ⟨((HB.out.cell (World.block_lt_of_cell? w _ hw246_0)).trans hw246_0), ((HB.out.cell (World.block_lt_of_cell? w _ hw246_1)).trans hw246_1), ((HB.out.cell (World.block_lt_of_cell? w _ hw246_2)).trans hw246_2), ((HB.out.cell (World.block_lt_of_cell? w _ hw246_3)).trans hw246_3), ((HB.out.cell (World.block_lt_of_cell? w _ hw246_4)).trans hw246_4), ((HB.out.cell (World.block_lt_of_cell? w _ hw248_0)).trans hw248_0), ((HB.out.cell (World.block_lt_of_cell? w _ hw248_1)).trans hw248_1), ((HB.out.cell (World.block_lt_of_cell? w _ hw248_2)).trans hw248_2), ((HB.out.cell (World.block_lt_of_cell? w _ hw248_3)).trans hw248_3), ((HB.out.cell (World.block_lt_of_cell? w _ hw248_4)).trans hw248_4)⟩ (fun hHeld => ?_)
                                                          clear hK K
                                                          refine norm_ (a' := ?_) ?_ ?_
                                                          rotate_left
                                                          · show Act.put _ (some 88) _ = _
                                                            simp only [Act.put, List.setIfInBounds_toArray, List.set_cons_zero, List.set_cons_succ, i64_w, i32_w]
                                                            rfl
                                                          refine pure_ (i := 9) (N := some 89) (v := ?_) (a' := ?_) #[true, true, true, true, true, true, true, true, true, true, false, true, true, true, true, true, false, false, false, true, false, false, false] rfl rfl (any_of HT_.out (by kernel_rfl)) (fun _ _ _ h => h) (Or.inl ⟨by rfl, ?_⟩) ?_ ?_
                                                          rotate_left
                                                          · intro w'
                                                            go_simp
                                                            with_reducible rfl
                                                          rotate_left
                                                          · simp only [Act.put, List.setIfInBounds_toArray, List.set_cons_zero, List.set_cons_succ, i64_w, i32_w]
                                                            rfl
                                                          refine pure_ (i := 10) (N := some 90) (v := ?_) (a' := ?_) #[true, true, true, true, true, true, true, true, true, true, true, true, true, true, true, true, false, false, false, true, false, false, false] rfl rfl (any_of HT_.out (by kernel_rfl)) (fun _ _ _ h => h) (Or.inl ⟨by rfl, ?_⟩) ?_ ?_
                                                          rotate_left
                                                          · intro w'
                                                            go_simp
                                                            with_reducible rfl
                                                          rotate_left
                                                          · simp only [Act.put, List.setIfInBounds_toArray, List.set_cons_zero, List.set_cons_succ, i64_w, i32_w]
                                                            rfl
                                                          refine one_ (i := 16) (N := some 96) #[true, true, true, true, true, true, true, true, true, true, true, true, true, true, true, true, true, false, false, true, false, false, false] rfl rfl (one_of HT_.out (by kernel_rfl)) (by decide) (fun K hK => ?_)
                                                          refine goes_ Tryz.func35 (by kernel_rfl) rfl #[.int .i64 ((rd_T36 l0 x6_2).f2)] (by rfl) rfl rfl (by (try simp only [List.map_toArray, List.map_cons, List.map_nil]); first | done | rfl | (simp only [List.length_drop, List.length_take]; rfl)) ?_
                                                          with_reducible refine (causewayref20_names.calls kj27 ((rd_T36 l0 x6_2).f2) t249 _ A39.out).mono ?_
                                                          rintro e w46 ⟨rfl, hb⟩
                                                          refine ⟨_, rfl, ?_⟩
                                                          have n0_ := Aside0.mk (below_step (by repeat (first | (with_reducible first | exact HB.out | apply below_alloc | apply pw_below_drewN | apply below_drew1) | exact HB.out)) hb)
                                                          clear HB
                                                          have HB := n0_
                                                          clear n0_
                                                          (try clear hb)
                                                          (try clear hb2)
                                                          (try clear hk)
                                                          (try clear hi)
                                                          refine hK.out _ _ ⟨((HB.out.cell (World.block_lt_of_cell? w _ hw246_0)).trans hw246_0), ((HB.out.cell (World.block_lt_of_cell? w _ hw246_1)).trans hw246_1), ((HB.out.cell (World.block_lt_of_cell? w _ hw246_2)).trans hw246_2), ((HB.out.cell (World.block_lt_of_cell? w _ hw246_3)).trans hw246_3), ((HB.out.cell (World.block_lt_of_cell? w _ hw246_4)).trans hw246_4), ((HB.out.cell (World.block_lt_of_cell? w _ hw248_0)).trans hw248_0), ((HB.out.cell (World.block_lt_of_cell? w _ hw248_1)).trans hw248_1), ((HB.out.cell (World.block_lt_of_cell? w _ hw248_2)).trans hw248_2), ((HB.out.cell (World.block_lt_of_cell? w _ hw248_3)).trans hw248_3), ((HB.out.cell (World.block_lt_of_cell? w _ hw248_4)).trans hw248_4)⟩ (fun hHeld => ?_)
                                                          clear hK K
                                                          refine norm_ (a' := ?_) ?_ ?_
                                                          rotate_left
                                                          · show Act.put _ (some 96) _ = _
                                                            simp only [Act.put, List.setIfInBounds_toArray, List.set_cons_zero, List.set_cons_succ, i64_w, i32_w]
                                                            rfl
                                                          refine pure_ (i := 17) (N := some 97) (v := ?_) (a' := ?_) #[true, true, true, true, true, true, true, true, true, true, true, true, true, true, true, true, true, true, false, true, false, false, false] rfl rfl (any_of HT_.out (by kernel_rfl)) (fun _ _ _ h => h) (Or.inl ⟨by rfl, ?_⟩) ?_ ?_
                                                          rotate_left
                                                          · intro w'
                                                            go_simp
                                                            with_reducible rfl
                                                          rotate_left
                                                          · simp only [Act.put, List.setIfInBounds_toArray, List.set_cons_zero, List.set_cons_succ, i64_w, i32_w]
                                                            rfl
                                                          refine pure_ (i := 18) (N := some 98) (v := ?_) (a' := ?_) #[true, true, true, true, true, true, true, true, true, true, true, true, true, true, true, true, true, true, true, true, false, false, false] rfl rfl (any_of HT_.out (by kernel_rfl)) (fun _ _ _ h => h) (Or.inl ⟨by rfl, ?_⟩) ?_ ?_
                                                          rotate_left
                                                          · intro w'
                                                            go_simp
                                                            with_reducible rfl
                                                          rotate_left
                                                          · simp only [Act.put, List.setIfInBounds_toArray, List.set_cons_zero, List.set_cons_succ, i64_w, i32_w]
                                                            rfl
                                                          refine pure_ (i := 20) (N := some 100) (v := ?_) (a' := ?_) #[true, true, true, true, true, true, true, true, true, true, true, true, true, true, true, true, true, true, true, true, true, false, false] rfl rfl (any_of HT_.out (by kernel_rfl)) (fun _ _ _ h => h) (Or.inl ⟨by rfl, ?_⟩) ?_ ?_
                                                          rotate_left
                                                          · intro w'
                                                            go_simp
                                                            with_reducible rfl
                                                          rotate_left
                                                          · simp only [Act.put, List.setIfInBounds_toArray, List.set_cons_zero, List.set_cons_succ, i64_w, i32_w]
                                                            rfl
                                                          refine pure_ (i := 21) (N := some 101) (v := ?_) (a' := ?_) #[true, true, true, true, true, true, true, true, true, true, true, true, true, true, true, true, true, true, true, true, true, true, false] rfl rfl (any_of HT_.out (by kernel_rfl)) (fun _ _ _ h => h) (Or.inl ⟨by rfl, ?_⟩) ?_ ?_
                                                          rotate_left
                                                          · intro w'
                                                            go_simp
                                                            with_reducible rfl
                                                          rotate_left
                                                          · simp only [Act.put, List.setIfInBounds_toArray, List.set_cons_zero, List.set_cons_succ, i64_w, i32_w]
                                                            rfl
                                                          refine pure_ (i := 22) (N := some 5) (v := ?_) (a' := ?_) #[true, true, true, true, true, true, true, true, true, true, true, true, true, true, true, true, true, true, true, true, true, true, true] rfl rfl (any_of HT_.out (by kernel_rfl)) (fun _ _ _ h => h) (Or.inl ⟨by rfl, ?_⟩) ?_ ?_
                                                          rotate_left
                                                          · intro w'
                                                            go_simp
                                                            with_reducible rfl
                                                          rotate_left
                                                          · simp only [Act.put, List.setIfInBounds_toArray, List.set_cons_zero, List.set_cons_succ, i64_w, i32_w]
                                                            rfl
                                                          refine done_ (done_of HT_.out (by kernel_rfl)) ?_
                                                          try go_wp2
                                                          go_roundg kj27
                                                          case measure => have := HK1.out; have := HK2.out; have := HJ10.out; have := HJ19.out; have := HJ27.out; omega
                                                          case rel => exact ⟨(((((((x5_2 ++ x7_10) ++ t247) ++ (⟨#[32, 62, 32]⟩ : ByteArray)) ++ t249) ++ (⟨#[32]⟩ : ByteArray)) ++ (⟨#[42]⟩ : ByteArray)) ++ (⟨#[10]⟩ : ByteArray)), (wrap64 (x6_2 + 1)), (by first | rfl | (simp; done) | (simp [*]; done)), (by first | rfl | (simp; done) | (simp [*]; done)), H', ⟨by have := HK1.out; have := HK2.out; have := HJ10.out; have := HJ19.out; have := HJ27.out; omega⟩, ⟨by repeat (first | (with_reducible first | exact HB.out | apply below_alloc | apply pw_below_drewN | apply below_drew1) | exact HB.out)⟩⟩
                                                        · rw [if_neg c43] at H
                                                          exact absurd H (by simp)
                                                      · rw [if_neg c42] at H
                                                        exact absurd H (by simp)
                                                    · rw [if_neg c41] at H
                                                      exact absurd H (by simp)
                                                  · rw [if_neg c40] at H
                                                    exact absurd H (by simp)
                                                · rw [if_neg c38] at H
                                                  exact absurd H (by simp)
                                              · rw [if_neg c37] at H
                                                exact absurd H (by simp)
                                            · rw [if_neg c35] at H
                                              exact absurd H (by simp)
                                          · rw [if_neg c34] at H
                                            exact absurd H (by simp)
                                        · rw [if_neg c33] at H
                                          exact absurd H (by simp)
                                      · replace c32 := Bool.eq_false_iff.mpr c32
                                        subst c32
                                        have H1 : (if x5_2.size + x7_10.size ≤ 9223372036854775807 then (if 0 ≤ x6_2 then (if x6_2 < (l0.length : Int) then ((causewayref20_names.f kj27 ((rd_T36 l0 x6_2).f1)).bind fun t251 => (if (x5_2 ++ x7_10).size + t251.size ≤ 9223372036854775807 then (if ((x5_2 ++ x7_10) ++ t251).size + 3 ≤ 9223372036854775807 then ((causewayref20_names.f kj27 ((rd_T36 l0 x6_2).f2)).bind fun t253 => (if (((x5_2 ++ x7_10) ++ t251) ++ (⟨#[32, 62, 32]⟩ : ByteArray)).size + t253.size ≤ 9223372036854775807 then (if ((((x5_2 ++ x7_10) ++ t251) ++ (⟨#[32, 62, 32]⟩ : ByteArray)) ++ t253).size + 1 ≤ 9223372036854775807 then (if (((((x5_2 ++ x7_10) ++ t251) ++ (⟨#[32, 62, 32]⟩ : ByteArray)) ++ t253) ++ (⟨#[32]⟩ : ByteArray)).size + x8_19.size ≤ 9223372036854775807 then (if ((((((x5_2 ++ x7_10) ++ t251) ++ (⟨#[32, 62, 32]⟩ : ByteArray)) ++ t253) ++ (⟨#[32]⟩ : ByteArray)) ++ x8_19).size + 1 ≤ 9223372036854775807 then (causewayref20_Text.l1 kj27 l0 (((((((x5_2 ++ x7_10) ++ t251) ++ (⟨#[32, 62, 32]⟩ : ByteArray)) ++ t253) ++ (⟨#[32]⟩ : ByteArray)) ++ x8_19) ++ (⟨#[10]⟩ : ByteArray)) (wrap64 (x6_2 + 1))) else (none)) else (none)) else (none)) else (none))) else (none)) else (none))) else (none)) else (none)) else (none)) = some (r1, r2) := by rw [if_neg (show ¬ (false = true) by decide)] at H; exact H
                                        clear H
                                        have H := H1
                                        clear H1
                                        by_cases c47 : x5_2.size + x7_10.size ≤ 9223372036854775807
                                        · rw [if_pos c47] at H
                                          have c47b0 := eq_true c47
                                          have c47b1 : decide (x5_2.size + x7_10.size ≤ 9223372036854775807) = true := decide_eq_true c47
                                          try have c47b2 : (9223372036854775807 < x5_2.size + x7_10.size) = False := eq_false (Nat.not_lt.2 c47)
                                          by_cases c48 : 0 ≤ x6_2
                                          · rw [if_pos c48] at H
                                            have c48b0 : decide (0 ≤ x6_2) = true := decide_eq_true c48
                                            clear c48
                                            by_cases c49 : x6_2 < (l0.length : Int)
                                            · rw [if_pos c49] at H
                                              have c49b0 : decide (x6_2 < (l0.length : Int)) = true := decide_eq_true c49
                                              clear c49
                                              replace H := Option.bind_eq_some_iff.mp H
                                              obtain ⟨t251, A500, H⟩ := H
                                              replace H : (if (x5_2 ++ x7_10).size + t251.size ≤ 9223372036854775807 then (if ((x5_2 ++ x7_10) ++ t251).size + 3 ≤ 9223372036854775807 then ((causewayref20_names.f kj27 ((rd_T36 l0 x6_2).f2)).bind fun t253 => (if (((x5_2 ++ x7_10) ++ t251) ++ (⟨#[32, 62, 32]⟩ : ByteArray)).size + t253.size ≤ 9223372036854775807 then (if ((((x5_2 ++ x7_10) ++ t251) ++ (⟨#[32, 62, 32]⟩ : ByteArray)) ++ t253).size + 1 ≤ 9223372036854775807 then (if (((((x5_2 ++ x7_10) ++ t251) ++ (⟨#[32, 62, 32]⟩ : ByteArray)) ++ t253) ++ (⟨#[32]⟩ : ByteArray)).size + x8_19.size ≤ 9223372036854775807 then (if ((((((x5_2 ++ x7_10) ++ t251) ++ (⟨#[32, 62, 32]⟩ : ByteArray)) ++ t253) ++ (⟨#[32]⟩ : ByteArray)) ++ x8_19).size + 1 ≤ 9223372036854775807 then (causewayref20_Text.l1 kj27 l0 (((((((x5_2 ++ x7_10) ++ t251) ++ (⟨#[32, 62, 32]⟩ : ByteArray)) ++ t253) ++ (⟨#[32]⟩ : ByteArray)) ++ x8_19) ++ (⟨#[10]⟩ : ByteArray)) (wrap64 (x6_2 + 1))) else (none)) else (none)) else (none)) else (none))) else (none)) else (none)) = some (r1, r2) := H
                                              have A50 := Aside0.mk A500
                                              clear A500
                                              by_cases c51 : (x5_2 ++ x7_10).size + t251.size ≤ 9223372036854775807
                                              · rw [if_pos c51] at H
                                                have c51b0 := eq_true c51
                                                have c51b1 : decide ((x5_2 ++ x7_10).size + t251.size ≤ 9223372036854775807) = true := decide_eq_true c51
                                                try have c51b2 : (9223372036854775807 < (x5_2 ++ x7_10).size + t251.size) = False := eq_false (Nat.not_lt.2 c51)
                                                try (have c51b3 := c51b2; simp only [ByteArray.size_append, sz_lit1, sz_lit3] at c51b3)
                                                by_cases c52 : ((x5_2 ++ x7_10) ++ t251).size + 3 ≤ 9223372036854775807
                                                · rw [if_pos c52] at H
                                                  have c52b0 := eq_true c52
                                                  have c52b1 : decide (((x5_2 ++ x7_10) ++ t251).size + 3 ≤ 9223372036854775807) = true := decide_eq_true c52
                                                  try have c52b2 : (9223372036854775807 < ((x5_2 ++ x7_10) ++ t251).size + 3) = False := eq_false (Nat.not_lt.2 c52)
                                                  try (have c52b3 := c52b2; simp only [ByteArray.size_append, sz_lit1, sz_lit3] at c52b3)
                                                  replace H := Option.bind_eq_some_iff.mp H
                                                  obtain ⟨t253, A530, H⟩ := H
                                                  replace H : (if (((x5_2 ++ x7_10) ++ t251) ++ (⟨#[32, 62, 32]⟩ : ByteArray)).size + t253.size ≤ 9223372036854775807 then (if ((((x5_2 ++ x7_10) ++ t251) ++ (⟨#[32, 62, 32]⟩ : ByteArray)) ++ t253).size + 1 ≤ 9223372036854775807 then (if (((((x5_2 ++ x7_10) ++ t251) ++ (⟨#[32, 62, 32]⟩ : ByteArray)) ++ t253) ++ (⟨#[32]⟩ : ByteArray)).size + x8_19.size ≤ 9223372036854775807 then (if ((((((x5_2 ++ x7_10) ++ t251) ++ (⟨#[32, 62, 32]⟩ : ByteArray)) ++ t253) ++ (⟨#[32]⟩ : ByteArray)) ++ x8_19).size + 1 ≤ 9223372036854775807 then (causewayref20_Text.l1 kj27 l0 (((((((x5_2 ++ x7_10) ++ t251) ++ (⟨#[32, 62, 32]⟩ : ByteArray)) ++ t253) ++ (⟨#[32]⟩ : ByteArray)) ++ x8_19) ++ (⟨#[10]⟩ : ByteArray)) (wrap64 (x6_2 + 1))) else (none)) else (none)) else (none)) else (none)) = some (r1, r2) := H
                                                  have A53 := Aside0.mk A530
                                                  clear A530
                                                  by_cases c54 : (((x5_2 ++ x7_10) ++ t251) ++ (⟨#[32, 62, 32]⟩ : ByteArray)).size + t253.size ≤ 9223372036854775807
                                                  · rw [if_pos c54] at H
                                                    have c54b0 := eq_true c54
                                                    have c54b1 : decide ((((x5_2 ++ x7_10) ++ t251) ++ (⟨#[32, 62, 32]⟩ : ByteArray)).size + t253.size ≤ 9223372036854775807) = true := decide_eq_true c54
                                                    try have c54b2 : (9223372036854775807 < (((x5_2 ++ x7_10) ++ t251) ++ (⟨#[32, 62, 32]⟩ : ByteArray)).size + t253.size) = False := eq_false (Nat.not_lt.2 c54)
                                                    try (have c54b3 := c54b2; simp only [ByteArray.size_append, sz_lit1, sz_lit3] at c54b3)
                                                    by_cases c55 : ((((x5_2 ++ x7_10) ++ t251) ++ (⟨#[32, 62, 32]⟩ : ByteArray)) ++ t253).size + 1 ≤ 9223372036854775807
                                                    · rw [if_pos c55] at H
                                                      have c55b0 := eq_true c55
                                                      have c55b1 : decide (((((x5_2 ++ x7_10) ++ t251) ++ (⟨#[32, 62, 32]⟩ : ByteArray)) ++ t253).size + 1 ≤ 9223372036854775807) = true := decide_eq_true c55
                                                      try have c55b2 : (9223372036854775807 < ((((x5_2 ++ x7_10) ++ t251) ++ (⟨#[32, 62, 32]⟩ : ByteArray)) ++ t253).size + 1) = False := eq_false (Nat.not_lt.2 c55)
                                                      try (have c55b3 := c55b2; simp only [ByteArray.size_append, sz_lit1, sz_lit3] at c55b3)
                                                      by_cases c56 : (((((x5_2 ++ x7_10) ++ t251) ++ (⟨#[32, 62, 32]⟩ : ByteArray)) ++ t253) ++ (⟨#[32]⟩ : ByteArray)).size + x8_19.size ≤ 9223372036854775807
                                                      · rw [if_pos c56] at H
                                                        have c56b0 := eq_true c56
                                                        have c56b1 : decide ((((((x5_2 ++ x7_10) ++ t251) ++ (⟨#[32, 62, 32]⟩ : ByteArray)) ++ t253) ++ (⟨#[32]⟩ : ByteArray)).size + x8_19.size ≤ 9223372036854775807) = true := decide_eq_true c56
                                                        try have c56b2 : (9223372036854775807 < (((((x5_2 ++ x7_10) ++ t251) ++ (⟨#[32, 62, 32]⟩ : ByteArray)) ++ t253) ++ (⟨#[32]⟩ : ByteArray)).size + x8_19.size) = False := eq_false (Nat.not_lt.2 c56)
                                                        try (have c56b3 := c56b2; simp only [ByteArray.size_append, sz_lit1, sz_lit3] at c56b3)
                                                        by_cases c57 : ((((((x5_2 ++ x7_10) ++ t251) ++ (⟨#[32, 62, 32]⟩ : ByteArray)) ++ t253) ++ (⟨#[32]⟩ : ByteArray)) ++ x8_19).size + 1 ≤ 9223372036854775807
                                                        · rw [if_pos c57] at H
                                                          have c57b0 := eq_true c57
                                                          have c57b1 : decide (((((((x5_2 ++ x7_10) ++ t251) ++ (⟨#[32, 62, 32]⟩ : ByteArray)) ++ t253) ++ (⟨#[32]⟩ : ByteArray)) ++ x8_19).size + 1 ≤ 9223372036854775807) = true := decide_eq_true c57
                                                          try have c57b2 : (9223372036854775807 < ((((((x5_2 ++ x7_10) ++ t251) ++ (⟨#[32, 62, 32]⟩ : ByteArray)) ++ t253) ++ (⟨#[32]⟩ : ByteArray)) ++ x8_19).size + 1) = False := eq_false (Nat.not_lt.2 c57)
                                                          try (have c57b3 := c57b2; simp only [ByteArray.size_append, sz_lit1, sz_lit3] at c57b3)
                                                          have H' := Aside0.mk H
                                                          clear H
                                                          try go_wp2
                                                          have n0_ := Aside0.mk (below_drew1 HB.out)
                                                          clear HB
                                                          have HB := n0_
                                                          clear n0_
                                                          have p250 : 0 ≤ (x6_2 : Int) := of_decide_eq_true (by first | (with_reducible assumption) | assumption)
                                                          have q250 : x6_2 < (l0.length : Int) := of_decide_eq_true (by first | (with_reducible assumption) | assumption)
                                                          obtain ⟨ad250, e250, hx250_0, hx250_1, hx250_2, hx250_3, hx250_4⟩ := at_T36 HR0.out x6_2 p250 q250
                                                          have hw250_4 := hx250_4
                                                          have hw250_3 := hx250_3
                                                          have hw250_2 := hx250_2
                                                          have hw250_1 := hx250_1
                                                          have hw250_0 := hx250_0
                                                          obtain rfl : ad235 = ad250 := (by injection e250)
                                                          replace hx250_0 := (HB.out.cell (World.block_lt_of_cell? w _ hx250_0)).trans hx250_0
                                                          replace hx250_1 := (HB.out.cell (World.block_lt_of_cell? w _ hx250_1)).trans hx250_1
                                                          replace hx250_2 := (HB.out.cell (World.block_lt_of_cell? w _ hx250_2)).trans hx250_2
                                                          replace hx250_3 := (HB.out.cell (World.block_lt_of_cell? w _ hx250_3)).trans hx250_3
                                                          replace hx250_4 := (HB.out.cell (World.block_lt_of_cell? w _ hx250_4)).trans hx250_4
                                                          replace p250 := eq_true p250
                                                          replace q250 := eq_true q250
                                                          have p252 : 0 ≤ (x6_2 : Int) := of_decide_eq_true (by first | (with_reducible assumption) | assumption)
                                                          have q252 : x6_2 < (l0.length : Int) := of_decide_eq_true (by first | (with_reducible assumption) | assumption)
                                                          obtain ⟨ad252, e252, hx252_0, hx252_1, hx252_2, hx252_3, hx252_4⟩ := at_T36 HR0.out x6_2 p252 q252
                                                          have hw252_4 := hx252_4
                                                          have hw252_3 := hx252_3
                                                          have hw252_2 := hx252_2
                                                          have hw252_1 := hx252_1
                                                          have hw252_0 := hx252_0
                                                          obtain rfl : ad235 = ad252 := (by injection e252)
                                                          replace hx252_0 := (HB.out.cell (World.block_lt_of_cell? w _ hx252_0)).trans hx252_0
                                                          replace hx252_1 := (HB.out.cell (World.block_lt_of_cell? w _ hx252_1)).trans hx252_1
                                                          replace hx252_2 := (HB.out.cell (World.block_lt_of_cell? w _ hx252_2)).trans hx252_2
                                                          replace hx252_3 := (HB.out.cell (World.block_lt_of_cell? w _ hx252_3)).trans hx252_3
                                                          replace hx252_4 := (HB.out.cell (World.block_lt_of_cell? w _ hx252_4)).trans hx252_4
                                                          replace p252 := eq_true p252
                                                          replace q252 := eq_true q252
                                                          refine start_ (n := 23) (S := fun w' => w'.cell? (ad235.add ((x6_2).toNat * 5)) = some (.bool ((rd_T36 l0 x6_2).f0)) ∧ w'.cell? ⟨(ad235.add ((x6_2).toNat * 5)).block, (ad235.add ((x6_2).toNat * 5)).off + 1, none⟩ = some (.int .i64 ((rd_T36 l0 x6_2).f1)) ∧ w'.cell? ⟨(ad235.add ((x6_2).toNat * 5)).block, (ad235.add ((x6_2).toNat * 5)).off + 2, none⟩ = some (.int .i64 ((rd_T36 l0 x6_2).f2)) ∧ w'.cell? ⟨(ad235.add ((x6_2).toNat * 5)).block, (ad235.add ((x6_2).toNat * 5)).off + 3, none⟩ = some (.int .i64 ((rd_T36 l0 x6_2).f3)) ∧ w'.cell? ⟨(ad235.add ((x6_2).toNat * 5)).block, (ad235.add ((x6_2).toNat * 5)).off + 4, none⟩ = some (.int .i64 ((rd_T36 l0 x6_2).f4)) ∧ w'.cell? (ad235.add ((x6_2).toNat * 5)) = some (.bool ((rd_T36 l0 x6_2).f0)) ∧ w'.cell? ⟨(ad235.add ((x6_2).toNat * 5)).block, (ad235.add ((x6_2).toNat * 5)).off + 1, none⟩ = some (.int .i64 ((rd_T36 l0 x6_2).f1)) ∧ w'.cell? ⟨(ad235.add ((x6_2).toNat * 5)).block, (ad235.add ((x6_2).toNat * 5)).off + 2, none⟩ = some (.int .i64 ((rd_T36 l0 x6_2).f2)) ∧ w'.cell? ⟨(ad235.add ((x6_2).toNat * 5)).block, (ad235.add ((x6_2).toNat * 5)).off + 3, none⟩ = some (.int .i64 ((rd_T36 l0 x6_2).f3)) ∧ w'.cell? ⟨(ad235.add ((x6_2).toNat * 5)).block, (ad235.add ((x6_2).toNat * 5)).off + 4, none⟩ = some (.int .i64 ((rd_T36 l0 x6_2).f4))) (ds := []) #[false, false, false, false, false, false, false, false, false, false, false, false, false, false, false, false, false, false, false, false, false, false, false] (by kernel_rfl) rfl rfl ⟨((HB.out.cell (World.block_lt_of_cell? w _ hw250_0)).trans hw250_0), ((HB.out.cell (World.block_lt_of_cell? w _ hw250_1)).trans hw250_1), ((HB.out.cell (World.block_lt_of_cell? w _ hw250_2)).trans hw250_2), ((HB.out.cell (World.block_lt_of_cell? w _ hw250_3)).trans hw250_3), ((HB.out.cell (World.block_lt_of_cell? w _ hw250_4)).trans hw250_4), ((HB.out.cell (World.block_lt_of_cell? w _ hw252_0)).trans hw252_0), ((HB.out.cell (World.block_lt_of_cell? w _ hw252_1)).trans hw252_1), ((HB.out.cell (World.block_lt_of_cell? w _ hw252_2)).trans hw252_2), ((HB.out.cell (World.block_lt_of_cell? w _ hw252_3)).trans hw252_3), ((HB.out.cell (World.block_lt_of_cell? w _ hw252_4)).trans hw252_4)⟩ (fun hHeld => ?_); refine with_tabW causewayref20_Text.tab20 causewayref20_Text.bits20 (fun HT_ HW_ => ?_)
                                                          generalize wc.drew = w58 at HB hx250_0 hx250_1 hx250_2 hx250_3 hx250_4 hx252_0 hx252_1 hx252_2 hx252_3 hx252_4 hHeld ⊢
                                                          refine pure_ (i := 0) (N := some 80) (v := ?_) (a' := ?_) #[true, false, false, false, false, false, false, false, false, false, false, false, false, false, false, false, false, false, false, false, false, false, false] rfl rfl (any_of HT_.out (by kernel_rfl)) (fun _ _ _ h => h) (Or.inl ⟨by rfl, ?_⟩) ?_ ?_
                                                          rotate_left
                                                          · intro w'
                                                            go_simp
                                                            with_reducible rfl
                                                          rotate_left
                                                          · simp only [Act.put, List.setIfInBounds_toArray, List.set_cons_zero, List.set_cons_succ, i64_w, i32_w]
                                                            rfl
                                                          refine pure_ (i := 1) (N := some 81) (v := ?_) (a' := ?_) #[true, true, false, false, false, false, false, false, false, false, false, false, false, false, false, false, false, false, false, false, false, false, false] rfl rfl (any_of HT_.out (by kernel_rfl)) (fun _ _ _ h => h) (Or.inl ⟨by rfl, ?_⟩) ?_ ?_
                                                          rotate_left
                                                          · intro w'
                                                            go_simp
                                                            with_reducible rfl
                                                          rotate_left
                                                          · simp only [Act.put, List.setIfInBounds_toArray, List.set_cons_zero, List.set_cons_succ, i64_w, i32_w]
                                                            rfl
                                                          refine pure_ (i := 2) (N := some 82) (v := ?_) (a' := ?_) #[true, true, true, false, false, false, false, false, false, false, false, false, false, false, false, false, false, false, false, false, false, false, false] rfl rfl (any_of HT_.out (by kernel_rfl)) (fun _ _ _ h => h) (Or.inl ⟨by rfl, ?_⟩) ?_ ?_
                                                          rotate_left
                                                          · intro w'
                                                            go_simp
                                                            with_reducible rfl
                                                          rotate_left
                                                          · simp only [Act.put, List.setIfInBounds_toArray, List.set_cons_zero, List.set_cons_succ, i64_w, i32_w]
                                                            rfl
                                                          refine pure_ (i := 3) (N := some 83) (v := ?_) (a' := ?_) #[true, true, true, true, false, false, false, false, false, false, false, false, false, false, false, false, false, false, false, false, false, false, false] rfl rfl (any_of HT_.out (by kernel_rfl)) (fun _ _ _ h => h) (Or.inl ⟨by rfl, ?_⟩) ?_ ?_
                                                          rotate_left
                                                          · intro w'
                                                            go_simp
                                                            with_reducible rfl
                                                          rotate_left
                                                          · simp only [Act.put, List.setIfInBounds_toArray, List.set_cons_zero, List.set_cons_succ, i64_w, i32_w]
                                                            rfl
                                                          refine pure_ (i := 4) (N := some 84) (v := ?_) (a' := ?_) #[true, true, true, true, true, false, false, false, false, false, false, false, false, false, false, false, false, false, false, false, false, false, false] rfl rfl (any_of HT_.out (by kernel_rfl)) (fun _ _ _ h => h) (Or.inl ⟨by rfl, ?_⟩) ?_ ?_
                                                          rotate_left
                                                          · intro w'
                                                            go_simp
                                                            with_reducible rfl
                                                          rotate_left
                                                          · simp only [Act.put, List.setIfInBounds_toArray, List.set_cons_zero, List.set_cons_succ, i64_w, i32_w]
                                                            rfl
                                                          refine pure_ (i := 5) (N := some 85) (v := ?_) (a' := ?_) #[true, true, true, true, true, true, false, false, false, false, false, false, false, false, false, false, false, false, false, false, false, false, false] rfl rfl (any_of HT_.out (by kernel_rfl)) (fun _ _ _ h => h) (Or.inl ⟨by rfl, ?_⟩) ?_ ?_
                                                          rotate_left
                                                          · intro w'
                                                            go_simp
                                                            with_reducible rfl
                                                          rotate_left
                                                          · simp only [Act.put, List.setIfInBounds_toArray, List.set_cons_zero, List.set_cons_succ, i64_w, i32_w]
                                                            rfl
                                                          refine pure_ (i := 6) (N := some 86) (v := ?_) (a' := ?_) #[true, true, true, true, true, true, true, false, false, false, false, false, false, false, false, false, false, false, false, false, false, false, false] rfl rfl (any_of HT_.out (by kernel_rfl)) (fun _ _ _ h => h) (Or.inl ⟨by rfl, ?_⟩) ?_ ?_
                                                          rotate_left
                                                          · intro w'
                                                            go_simp
                                                            with_reducible rfl
                                                          rotate_left
                                                          · simp only [Act.put, List.setIfInBounds_toArray, List.set_cons_zero, List.set_cons_succ, i64_w, i32_w]
                                                            rfl
                                                          refine pure_ (i := 11) (N := some 91) (v := ?_) (a' := ?_) #[true, true, true, true, true, true, true, false, false, false, false, true, false, false, false, false, false, false, false, false, false, false, false] rfl rfl (any_of HT_.out (by kernel_rfl)) (fun _ _ _ h => h) (Or.inl ⟨by rfl, ?_⟩) ?_ ?_
                                                          rotate_left
                                                          · intro w'
                                                            go_simp
                                                            with_reducible rfl
                                                          rotate_left
                                                          · simp only [Act.put, List.setIfInBounds_toArray, List.set_cons_zero, List.set_cons_succ, i64_w, i32_w]
                                                            rfl
                                                          refine pure_ (i := 12) (N := some 92) (v := ?_) (a' := ?_) #[true, true, true, true, true, true, true, false, false, false, false, true, true, false, false, false, false, false, false, false, false, false, false] rfl rfl (any_of HT_.out (by kernel_rfl)) (fun _ _ _ h => h) (Or.inl ⟨by rfl, ?_⟩) ?_ ?_
                                                          rotate_left
                                                          · intro w'
                                                            go_simp
                                                            with_reducible rfl
                                                          rotate_left
                                                          · simp only [Act.put, List.setIfInBounds_toArray, List.set_cons_zero, List.set_cons_succ, i64_w, i32_w]
                                                            rfl
                                                          refine pure_ (i := 13) (N := some 93) (v := ?_) (a' := ?_) #[true, true, true, true, true, true, true, false, false, false, false, true, true, true, false, false, false, false, false, false, false, false, false] rfl rfl (any_of HT_.out (by kernel_rfl)) (fun _ _ _ h => h) (Or.inl ⟨by rfl, ?_⟩) ?_ ?_
                                                          rotate_left
                                                          · intro w'
                                                            go_simp
                                                            with_reducible rfl
                                                          rotate_left
                                                          · simp only [Act.put, List.setIfInBounds_toArray, List.set_cons_zero, List.set_cons_succ, i64_w, i32_w]
                                                            rfl
                                                          refine pure_ (i := 14) (N := some 94) (v := ?_) (a' := ?_) #[true, true, true, true, true, true, true, false, false, false, false, true, true, true, true, false, false, false, false, false, false, false, false] rfl rfl (any_of HT_.out (by kernel_rfl)) (fun _ _ _ h => h) (Or.inl ⟨by rfl, ?_⟩) ?_ ?_
                                                          rotate_left
                                                          · intro w'
                                                            go_simp
                                                            with_reducible rfl
                                                          rotate_left
                                                          · simp only [Act.put, List.setIfInBounds_toArray, List.set_cons_zero, List.set_cons_succ, i64_w, i32_w]
                                                            rfl
                                                          refine pure_ (i := 19) (N := some 99) (v := ?_) (a' := ?_) #[true, true, true, true, true, true, true, false, false, false, false, true, true, true, true, false, false, false, false, true, false, false, false] rfl rfl (any_of HT_.out (by kernel_rfl)) (fun _ _ _ h => h) (Or.inl ⟨by rfl, ?_⟩) ?_ ?_
                                                          rotate_left
                                                          · intro w'
                                                            go_simp
                                                            with_reducible rfl
                                                          rotate_left
                                                          · simp only [Act.put, List.setIfInBounds_toArray, List.set_cons_zero, List.set_cons_succ, i64_w, i32_w]
                                                            rfl
                                                          refine take_ (i := 7) (N := some 87) (v := ?_) (a' := ?_) #[true, true, true, true, true, true, true, true, false, false, false, true, true, true, true, false, false, false, false, true, false, false, false] rfl rfl (take_ofW HT_.out HW_.out (by kernel_rfl)) (fun _ _ _ h => h) (Or.inl ⟨by rfl, ?_⟩) hHeld ?_ ?_
                                                          rotate_left
                                                          · rintro w' ⟨s0, s1, s2, s3, s4, s5, s6, s7, s8, s9⟩
                                                            go_simp
                                                            with_reducible rfl
                                                          rotate_left
                                                          · simp only [Act.put, List.setIfInBounds_toArray, List.set_cons_zero, List.set_cons_succ, i64_w, i32_w]
                                                            rfl
                                                          refine take_ (i := 15) (N := some 95) (v := ?_) (a' := ?_) #[true, true, true, true, true, true, true, true, false, false, false, true, true, true, true, true, false, false, false, true, false, false, false] rfl rfl (take_ofW HT_.out HW_.out (by kernel_rfl)) (fun _ _ _ h => h) (Or.inl ⟨by rfl, ?_⟩) hHeld ?_ ?_
                                                          rotate_left
                                                          · rintro w' ⟨s0, s1, s2, s3, s4, s5, s6, s7, s8, s9⟩
                                                            go_simp
                                                            with_reducible rfl
                                                          rotate_left
                                                          · simp only [Act.put, List.setIfInBounds_toArray, List.set_cons_zero, List.set_cons_succ, i64_w, i32_w]
                                                            rfl
                                                          refine one_ (i := 8) (N := some 88) #[true, true, true, true, true, true, true, true, true, false, false, true, true, true, true, true, false, false, false, true, false, false, false] rfl rfl (one_of HT_.out (by kernel_rfl)) (by decide) (fun K hK => ?_)
                                                          refine goes_ Tryz.func35 (by kernel_rfl) rfl #[.int .i64 ((rd_T36 l0 x6_2).f1)] (by rfl) rfl rfl (by (try simp only [List.map_toArray, List.map_cons, List.map_nil]); first | done | rfl | (simp only [List.length_drop, List.length_take]; rfl)) ?_
                                                          with_reducible refine (causewayref20_names.calls kj27 ((rd_T36 l0 x6_2).f1) t251 _ A50.out).mono ?_
                                                          rintro e w59 ⟨rfl, hb⟩
                                                          refine ⟨_, rfl, ?_⟩
                                                          have n0_ := Aside0.mk (below_step (by repeat (first | (with_reducible first | exact HB.out | apply below_alloc | apply pw_below_drewN | apply below_drew1) | exact HB.out)) hb)
                                                          clear HB
                                                          have HB := n0_
                                                          clear n0_
                                                          (try clear hb)
                                                          (try clear hb2)
                                                          (try clear hk)
                                                          (try clear hi)
                                                          refine hK.out _ _ ⟨((HB.out.cell (World.block_lt_of_cell? w _ hw250_0)).trans hw250_0), ((HB.out.cell (World.block_lt_of_cell? w _ hw250_1)).trans hw250_1), ((HB.out.cell (World.block_lt_of_cell? w _ hw250_2)).trans hw250_2), ((HB.out.cell (World.block_lt_of_cell? w _ hw250_3)).trans hw250_3), ((HB.out.cell (World.block_lt_of_cell? w _ hw250_4)).trans hw250_4), ((HB.out.cell (World.block_lt_of_cell? w _ hw252_0)).trans hw252_0), ((HB.out.cell (World.block_lt_of_cell? w _ hw252_1)).trans hw252_1), ((HB.out.cell (World.block_lt_of_cell? w _ hw252_2)).trans hw252_2), ((HB.out.cell (World.block_lt_of_cell? w _ hw252_3)).trans hw252_3), ((HB.out.cell (World.block_lt_of_cell? w _ hw252_4)).trans hw252_4)⟩ (fun hHeld => ?_)
                                                          clear hK K
                                                          refine norm_ (a' := ?_) ?_ ?_
                                                          rotate_left
                                                          · show Act.put _ (some 88) _ = _
                                                            simp only [Act.put, List.setIfInBounds_toArray, List.set_cons_zero, List.set_cons_succ, i64_w, i32_w]
                                                            rfl
                                                          refine pure_ (i := 9) (N := some 89) (v := ?_) (a' := ?_) #[true, true, true, true, true, true, true, true, true, true, false, true, true, true, true, true, false, false, false, true, false, false, false] rfl rfl (any_of HT_.out (by kernel_rfl)) (fun _ _ _ h => h) (Or.inl ⟨by rfl, ?_⟩) ?_ ?_
                                                          rotate_left
                                                          · intro w'
                                                            go_simp
                                                            with_reducible rfl
                                                          rotate_left
                                                          · simp only [Act.put, List.setIfInBounds_toArray, List.set_cons_zero, List.set_cons_succ, i64_w, i32_w]
                                                            rfl
                                                          refine pure_ (i := 10) (N := some 90) (v := ?_) (a' := ?_) #[true, true, true, true, true, true, true, true, true, true, true, true, true, true, true, true, false, false, false, true, false, false, false] rfl rfl (any_of HT_.out (by kernel_rfl)) (fun _ _ _ h => h) (Or.inl ⟨by rfl, ?_⟩) ?_ ?_
                                                          rotate_left
                                                          · intro w'
                                                            go_simp
                                                            with_reducible rfl
                                                          rotate_left
                                                          · simp only [Act.put, List.setIfInBounds_toArray, List.set_cons_zero, List.set_cons_succ, i64_w, i32_w]
                                                            rfl
                                                          refine one_ (i := 16) (N := some 96) #[true, true, true, true, true, true, true, true, true, true, true, true, true, true, true, true, true, false, false, true, false, false, false] rfl rfl (one_of HT_.out (by kernel_rfl)) (by decide) (fun K hK => ?_)
                                                          refine goes_ Tryz.func35 (by kernel_rfl) rfl #[.int .i64 ((rd_T36 l0 x6_2).f2)] (by rfl) rfl rfl (by (try simp only [List.map_toArray, List.map_cons, List.map_nil]); first | done | rfl | (simp only [List.length_drop, List.length_take]; rfl)) ?_
                                                          with_reducible refine (causewayref20_names.calls kj27 ((rd_T36 l0 x6_2).f2) t253 _ A53.out).mono ?_
                                                          rintro e w60 ⟨rfl, hb⟩
                                                          refine ⟨_, rfl, ?_⟩
                                                          have n0_ := Aside0.mk (below_step (by repeat (first | (with_reducible first | exact HB.out | apply below_alloc | apply pw_below_drewN | apply below_drew1) | exact HB.out)) hb)
                                                          clear HB
                                                          have HB := n0_
                                                          clear n0_
                                                          (try clear hb)
                                                          (try clear hb2)
                                                          (try clear hk)
                                                          (try clear hi)
                                                          refine hK.out _ _ ⟨((HB.out.cell (World.block_lt_of_cell? w _ hw250_0)).trans hw250_0), ((HB.out.cell (World.block_lt_of_cell? w _ hw250_1)).trans hw250_1), ((HB.out.cell (World.block_lt_of_cell? w _ hw250_2)).trans hw250_2), ((HB.out.cell (World.block_lt_of_cell? w _ hw250_3)).trans hw250_3), ((HB.out.cell (World.block_lt_of_cell? w _ hw250_4)).trans hw250_4), ((HB.out.cell (World.block_lt_of_cell? w _ hw252_0)).trans hw252_0), ((HB.out.cell (World.block_lt_of_cell? w _ hw252_1)).trans hw252_1), ((HB.out.cell (World.block_lt_of_cell? w _ hw252_2)).trans hw252_2), ((HB.out.cell (World.block_lt_of_cell? w _ hw252_3)).trans hw252_3), ((HB.out.cell (World.block_lt_of_cell? w _ hw252_4)).trans hw252_4)⟩ (fun hHeld => ?_)
                                                          clear hK K
                                                          refine norm_ (a' := ?_) ?_ ?_
                                                          rotate_left
                                                          · show Act.put _ (some 96) _ = _
                                                            simp only [Act.put, List.setIfInBounds_toArray, List.set_cons_zero, List.set_cons_succ, i64_w, i32_w]
                                                            rfl
                                                          refine pure_ (i := 17) (N := some 97) (v := ?_) (a' := ?_) #[true, true, true, true, true, true, true, true, true, true, true, true, true, true, true, true, true, true, false, true, false, false, false] rfl rfl (any_of HT_.out (by kernel_rfl)) (fun _ _ _ h => h) (Or.inl ⟨by rfl, ?_⟩) ?_ ?_
                                                          rotate_left
                                                          · intro w'
                                                            go_simp
                                                            with_reducible rfl
                                                          rotate_left
                                                          · simp only [Act.put, List.setIfInBounds_toArray, List.set_cons_zero, List.set_cons_succ, i64_w, i32_w]
                                                            rfl
                                                          refine pure_ (i := 18) (N := some 98) (v := ?_) (a' := ?_) #[true, true, true, true, true, true, true, true, true, true, true, true, true, true, true, true, true, true, true, true, false, false, false] rfl rfl (any_of HT_.out (by kernel_rfl)) (fun _ _ _ h => h) (Or.inl ⟨by rfl, ?_⟩) ?_ ?_
                                                          rotate_left
                                                          · intro w'
                                                            go_simp
                                                            with_reducible rfl
                                                          rotate_left
                                                          · simp only [Act.put, List.setIfInBounds_toArray, List.set_cons_zero, List.set_cons_succ, i64_w, i32_w]
                                                            rfl
                                                          refine pure_ (i := 20) (N := some 100) (v := ?_) (a' := ?_) #[true, true, true, true, true, true, true, true, true, true, true, true, true, true, true, true, true, true, true, true, true, false, false] rfl rfl (any_of HT_.out (by kernel_rfl)) (fun _ _ _ h => h) (Or.inl ⟨by rfl, ?_⟩) ?_ ?_
                                                          rotate_left
                                                          · intro w'
                                                            go_simp
                                                            with_reducible rfl
                                                          rotate_left
                                                          · simp only [Act.put, List.setIfInBounds_toArray, List.set_cons_zero, List.set_cons_succ, i64_w, i32_w]
                                                            rfl
                                                          refine pure_ (i := 21) (N := some 101) (v := ?_) (a' := ?_) #[true, true, true, true, true, true, true, true, true, true, true, true, true, true, true, true, true, true, true, true, true, true, false] rfl rfl (any_of HT_.out (by kernel_rfl)) (fun _ _ _ h => h) (Or.inl ⟨by rfl, ?_⟩) ?_ ?_
                                                          rotate_left
                                                          · intro w'
                                                            go_simp
                                                            with_reducible rfl
                                                          rotate_left
                                                          · simp only [Act.put, List.setIfInBounds_toArray, List.set_cons_zero, List.set_cons_succ, i64_w, i32_w]
                                                            rfl
                                                          refine pure_ (i := 22) (N := some 5) (v := ?_) (a' := ?_) #[true, true, true, true, true, true, true, true, true, true, true, true, true, true, true, true, true, true, true, true, true, true, true] rfl rfl (any_of HT_.out (by kernel_rfl)) (fun _ _ _ h => h) (Or.inl ⟨by rfl, ?_⟩) ?_ ?_
                                                          rotate_left
                                                          · intro w'
                                                            go_simp
                                                            with_reducible rfl
                                                          rotate_left
                                                          · simp only [Act.put, List.setIfInBounds_toArray, List.set_cons_zero, List.set_cons_succ, i64_w, i32_w]
                                                            rfl
                                                          refine done_ (done_of HT_.out (by kernel_rfl)) ?_
                                                          try go_wp2
                                                          go_roundg kj27
                                                          case measure => have := HK1.out; have := HK2.out; have := HJ10.out; have := HJ19.out; have := HJ27.out; omega
                                                          case rel => exact ⟨(((((((x5_2 ++ x7_10) ++ t251) ++ (⟨#[32, 62, 32]⟩ : ByteArray)) ++ t253) ++ (⟨#[32]⟩ : ByteArray)) ++ x8_19) ++ (⟨#[10]⟩ : ByteArray)), (wrap64 (x6_2 + 1)), (by first | rfl | (simp; done) | (simp [*]; done)), (by first | rfl | (simp; done) | (simp [*]; done)), H', ⟨by have := HK1.out; have := HK2.out; have := HJ10.out; have := HJ19.out; have := HJ27.out; omega⟩, ⟨by repeat (first | (with_reducible first | exact HB.out | apply below_alloc | apply pw_below_drewN | apply below_drew1) | exact HB.out)⟩⟩
                                                        · rw [if_neg c57] at H
                                                          exact absurd H (by simp)
                                                      · rw [if_neg c56] at H
                                                        exact absurd H (by simp)
                                                    · rw [if_neg c55] at H
                                                      exact absurd H (by simp)
                                                  · rw [if_neg c54] at H
                                                    exact absurd H (by simp)
                                                · rw [if_neg c52] at H
                                                  exact absurd H (by simp)
                                              · rw [if_neg c51] at H
                                                exact absurd H (by simp)
                                            · rw [if_neg c49] at H
                                              exact absurd H (by simp)
                                          · rw [if_neg c48] at H
                                            exact absurd H (by simp)
                                        · rw [if_neg c47] at H
                                          exact absurd H (by simp)
                            · rw [if_neg c19] at H
                              exact absurd H (by simp)
                          · rw [if_neg c17] at H
                            exact absurd H (by simp)
                        · rw [if_neg c15] at H
                          exact absurd H (by simp)
                      · rw [if_neg c14] at H
                        exact absurd H (by simp)
                · rw [if_neg c10] at H
                  exact absurd H (by simp)
              · rw [if_neg c9] at H
                have c9b0 : decide (x6_2 < (l0.length : Int)) = false := decide_eq_false c9
                clear c9
                by_cases c61 : (x5_2.size : Int) > 1024
                · rw [if_pos c61] at H
                  have c61b0 : decide (1024 < (x5_2.size : Int)) = true := decide_eq_true c61
                  have c61b1 : decide (1024 < x5_2.size) = true := decide_eq_true (by omega)
                  clear c61
                  simp only [Option.some.injEq, Prod.mk.injEq] at H
                  obtain ⟨rfl, rfl⟩ := H
                  go_wp2
                  go_ret2
                  exact ⟨by first | rfl | (simp [errW_none, errW_some] <;> rfl) | (simp [*, errW_none, errW_some] <;> rfl), by repeat (first | (with_reducible first | exact HB.out | apply below_alloc | apply pw_below_drewN | apply below_drew1) | exact HB.out)⟩
                · rw [if_neg c61] at H
                  have c61b0 : decide (1024 < (x5_2.size : Int)) = false := decide_eq_false c61
                  have c61b1 : decide (1024 < x5_2.size) = false := decide_eq_false (by omega)
                  clear c61
                  simp only [Option.some.injEq, Prod.mk.injEq] at H
                  obtain ⟨rfl, rfl⟩ := H
                  go_wp2
                  go_ret2
                  exact ⟨by first | rfl | (simp [errW_none, errW_some] <;> rfl) | (simp [*, errW_none, errW_some] <;> rfl), by repeat (first | (with_reducible first | exact HB.out | apply below_alloc | apply pw_below_drewN | apply below_drew1) | exact HB.out)⟩

end Go.Proofs.YtglnnlpkhjijhaaGreatDoor.PA
