/- slices.BinarySearchFunc at devices and at keys; at. -/
import Derived.Test.YthnpiimiimiijaaGreatDoorKk3
section
namespace Go.Proofs.YthnpiimiimiijaaGreatDoor.Dir
open Go Go.RowKit Go.Proofs Go.Proofs.YthnpiimiimiijaaGreatDoorW.PrintWords Go.Proofs.YthnpiimiimiijaaGreatDoorW.PrintLast Go.Proofs.YthnpiimiimiijaaGreatDoorW.PrintMore
set_option linter.unusedVariables false
set_option linter.unusedSimpArgs false
def Parts {α : Type} (f : α → Int) (l : List α) (lo hi : Nat) : Prop :=
 (∀ (a b : Nat) x y, a ≤ b → l[a]? = some x → l[b]? = some y → f y < 0 → f x < 0) →
  (∀ t x, t < lo → l[t]? = some x → f x < 0) ∧ (∀ t x, hi ≤ t → l[t]? = some x → 0 ≤ f x)
theorem Parts.start {α : Type} (f : α → Int) (l : List α) : Parts f l 0 l.length := fun _ => ⟨fun t x h => absurd h (Nat.not_lt_zero _), fun t x h hx => absurd (List.getElem?_eq_some_iff.1 hx).1 (by omega)⟩
theorem Parts.up {α : Type} {f : α → Int} {l : List α} {lo hi m : Nat} {x : α} (h : Parts f l lo hi) (hm : l[m]? = some x) (hx : f x < 0) : Parts f l (m + 1) hi := fun M =>
 ⟨fun t y ht hy => M t m y x (by omega) hy hm hx, (h M).2⟩
theorem Parts.down {α : Type} {f : α → Int} {l : List α} {lo hi m : Nat} {x : α} (h : Parts f l lo hi) (hm : l[m]? = some x) (hx : ¬ f x < 0) : Parts f l lo m := fun M =>
 ⟨(h M).1, fun t y ht hy => Int.not_lt.1 fun hn => hx (M m t x y ht hm hy hn)⟩
def foundAt {α : Type} (f : α → Int) (l : List α) (i : Nat) : Bool := match l[i]? with | some x => decide (f x = 0) | none => false
set_option maxHeartbeats 4000000 in
set_option maxRecDepth 100000 in
theorem search_dev (l : List Dev) (node : Int) (A : Option Addr) (c base : Nat) (w : World) (h : w.ownsRow base 46 35 (.slice A l.length c) l.length (flatD l)) (hl : l.length ≤ 8) :
  Calls Tryz.prog 146 #[.slice A l.length c, .int .i64 node, .func (.func 147) #[] #[]] w fun e w' => (∃ i : Nat, i ≤ l.length ∧ e = .returned (.tuple #[.int .i64 i, .bool (foundAt (fun d : Dev => wrap64 (d.node - node)) l i)]) ∧ Parts (fun d : Dev => wrap64 (d.node - node)) l i i) ∧ Below w.heap.size w w' := by
 obtain ⟨f, hf⟩ : ∃ f : Dev → Int, f = fun d => wrap64 (d.node - node) := ⟨_, rfl⟩
 have HLess := Aside0.mk (fun (d : Dev) (W : World) => (show Calls Tryz.prog 147 #[.agg (encD d).toArray, .int .i64 node] W fun e w' => e = .returned (.int .i64 (f d)) ∧ w' = W.alloc (.cells (encD d).toArray 46) by rw [hf]; exact less_any d node W))
 rw [← hf]
 clear hf
 have HW := Aside0.mk h
 have HL := Aside0.mk hl
 clear h hl
 go_enter Tryz.func146, Tryz.ntmps146
 go_wp2
 go_loopg [9, 10] l.length (fun kx s9 s10 wr => ∃ lo hi : Nat, s9 = .int .i64 lo ∧ s10 = .int .i64 hi ∧ lo ≤ hi ∧ hi ≤ l.length ∧ hi - lo ≤ kx ∧ Aside0 (Below w.heap.size w wr) ∧ Aside0 (Parts f l lo hi))
 case atStart => exact ⟨0, l.length, rfl, rfl, Nat.zero_le _, Nat.le_refl _, by omega, ⟨Below.refl _ w⟩, ⟨Parts.start f l⟩⟩
 case round =>
  obtain ⟨lo, hi, rfl, rfl, hlh, hin, hg, BW, I⟩ := hrel
  have hA : l.length ≠ 0 → ∃ g, A = some ⟨g, 0, none⟩ := fun hn => by
   rcases HW.out.2 with ⟨e, e2⟩ | ⟨g, _, _, e, _⟩
   ·omega
   ·injection e with e; exact ⟨g, e⟩
  have HA := Aside0.mk hA
  clear hA
  have L8 := HL.out
  by_cases hlt : lo < hi
  ·obtain ⟨g, rfl⟩ := HA.out (by omega)
   obtain ⟨y, hy⟩ : ∃ y, l[(lo + hi) / 2]? = some y := ⟨_, List.getElem?_eq_getElem (by omega)⟩
   have l1 := Aside0.mk (load_dev HW.out BW.out hy)
   have Y := Aside0.mk hy
   have hc := Aside0.mk (HLess.out y wr)
   clear hy
   generalize hfy : f y = fy at hc
   have FY := Aside0.mk hfy
   clear hfy
   by_cases hyx : fy < 0
   ·go_wp2_with (first | (refine wpList_loadK rfl 46 _ rfl _ rfl _ l1.out ?_) | (go_at_call 147; refine hc.out.mono ?_; rintro e w' ⟨rfl, rfl⟩))
    go_roundg (hi - ((lo + hi) / 2 + 1))
    case measure => omega
    case rel => exact ⟨(lo + hi) / 2 + 1, hi, by rw [show ((lo : Int) + (hi : Int)) / 2 + 1 = (((lo + hi) / 2 + 1 : Nat) : Int) by omega], rfl, by omega, hin, Nat.le_refl _, ⟨BW.out.alloc BW.out.size _⟩, ⟨I.out.up Y.out (by rw [FY.out]; exact hyx)⟩⟩
   ·go_wp2_with (first | (refine wpList_loadK rfl 46 _ rfl _ rfl _ l1.out ?_) | (go_at_call 147; refine hc.out.mono ?_; rintro e w' ⟨rfl, rfl⟩))
    go_roundg ((lo + hi) / 2 - lo)
    case measure => omega
    case rel => exact ⟨lo, (lo + hi) / 2, rfl, by rw [show ((lo : Int) + (hi : Int)) / 2 = (((lo + hi) / 2 : Nat) : Int) by omega], by omega, by omega, Nat.le_refl _, ⟨BW.out.alloc BW.out.size _⟩, ⟨I.out.down Y.out (by rw [FY.out]; omega)⟩⟩
  ·obtain rfl : hi = lo := by omega
   by_cases hn : hi < l.length
   ·obtain ⟨g, rfl⟩ := HA.out (by omega)
    obtain ⟨y, hy⟩ : ∃ y, l[hi]? = some y := ⟨_, List.getElem?_eq_getElem (by omega)⟩
    have l1 := Aside0.mk (load_dev HW.out BW.out hy)
    have Y := Aside0.mk hy
    have hc := Aside0.mk (HLess.out y wr)
    clear hy
    generalize hfy : f y = fy at hc
    have FY := Aside0.mk hfy
    clear hfy
    by_cases hyx : fy = 0
    ·go_wp2_with (first | (refine wpList_loadW (by rfl) 46 _ rfl _ rfl _ l1.out ?_) | (go_at_call 147; refine hc.out.mono ?_; rintro e w' ⟨rfl, rfl⟩))
     go_ret2
     have hfa : foundAt f l hi = true := by unfold foundAt; rw [Y.out]; exact decide_eq_true (by show f y = 0; rw [FY.out]; exact hyx)
     refine ⟨⟨hi, hin, ?_, I.out⟩, BW.out.alloc BW.out.size _⟩
     rw [hfa]
     first | rfl | (simp [hyx]; done)
    ·go_wp2_with (first | (refine wpList_loadW (by rfl) 46 _ rfl _ rfl _ l1.out ?_) | (go_at_call 147; refine hc.out.mono ?_; rintro e w' ⟨rfl, rfl⟩))
     go_ret2
     have hfa : foundAt f l hi = false := by unfold foundAt; rw [Y.out]; exact decide_eq_false (by show ¬ f y = 0; rw [FY.out]; exact hyx)
     refine ⟨⟨hi, hin, ?_, I.out⟩, BW.out.alloc BW.out.size _⟩
     rw [hfa]
     first | rfl | (simp [hyx]; done)
   ·go_wp2
    go_ret2
    exact ⟨⟨hi, hin, by unfold foundAt; rw [List.getElem?_eq_none (by omega)]; rfl, I.out⟩, BW.out⟩
set_option maxHeartbeats 4000000 in
set_option maxRecDepth 100000 in
theorem search_key (l : List Key) (ky : Key) (A : Option Addr) (c base : Nat) (w : World) (h : w.ownsRow base 34 32 (.slice A l.length c) l.length (flatK l)) (hl : l.length ≤ 64) :
  Calls Tryz.prog 149 #[.slice A l.length c, .agg (encK ky).toArray, .func (.func 50) #[] #[]] w fun e w' => (∃ i : Nat, i ≤ l.length ∧ e = .returned (.tuple #[.int .i64 i, .bool (foundAt (fun d : Key => cmpK d ky) l i)]) ∧ Parts (fun d : Key => cmpK d ky) l i i) ∧ Below w.heap.size w w' := by
 obtain ⟨f, hf⟩ : ∃ f : Key → Int, f = fun d => cmpK d ky := ⟨_, rfl⟩
 have HLess := Aside0.mk (fun (d : Key) (W : World) => (show Calls Tryz.prog 50 #[.agg (encK d).toArray, .agg (encK ky).toArray] W fun e w' => e = .returned (.int .i64 (f d)) ∧ Below W.heap.size W w' by
  rw [hf]
  refine (compare_any d ky W).mono ?_
  rintro e w' ⟨rfl, n, rfl⟩
  refine ⟨rfl, ?_⟩
  have hb : Below W.heap.size W ((W.alloc (.cells (encK d).toArray 34)).alloc (.cells (encK ky).toArray 34)) := ((Below.refl _ W).alloc (Nat.le_refl _) _).alloc (by simp) _
  exact ⟨hb.os, hb.tape, hb.output, hb.size, hb.block⟩))
 rw [← hf]
 clear hf
 obtain ⟨W0, hW0⟩ : ∃ W0, W0 = w.alloc (.cells (encK ky).toArray 34) := ⟨_, rfl⟩
 have hk0 : W0.heap[w.heap.size]? = some (.cells (encK ky).toArray 34 (0, 0)) := by rw [hW0]; exact heap_alloc_new w _
 have HB0 := Aside0.mk (show Below w.heap.size w W0 by rw [hW0]; exact (Below.refl w.heap.size w).alloc (Nat.le_refl _) _)
 have HW := Aside0.mk (pw_own_below h HB0.out)
 have HL2 := Aside0.mk (fun (W : World) (hs : Below W0.heap.size W0 W) => run_loadAtK Tryz.prog W 34 32 Tryz.isAgg34 Tryz.sizeOf34 w.heap.size 0 (encK ky) (encK_len _) (cells_of_heap (T := 34) (fr := (0, 0)) ((hs.block _ (Array.getElem?_eq_some_iff.1 hk0).1).trans hk0)))
 have HL := Aside0.mk hl
 clear h hl hk0
 go_enter Tryz.func149, Tryz.ntmps149
 go_upto_region 1 with fail
 rw [← hW0]
 clear hW0
 go_wp2
 go_loopg [9, 10] l.length (fun kx s9 s10 wr => ∃ lo hi : Nat, s9 = .int .i64 lo ∧ s10 = .int .i64 hi ∧ lo ≤ hi ∧ hi ≤ l.length ∧ hi - lo ≤ kx ∧ Aside0 (Below W0.heap.size W0 wr) ∧ Aside0 (Parts f l lo hi))
 case atStart => exact ⟨0, l.length, rfl, rfl, Nat.zero_le _, Nat.le_refl _, by omega, ⟨Below.refl _ W0⟩, ⟨Parts.start f l⟩⟩
 case round =>
  obtain ⟨lo, hi, rfl, rfl, hlh, hin, hg, BW, I⟩ := hrel
  have hA : l.length ≠ 0 → ∃ g, A = some ⟨g, 0, none⟩ := fun hn => by
   rcases HW.out.2 with ⟨e, e2⟩ | ⟨g, _, _, e, _⟩
   ·omega
   ·injection e with e; exact ⟨g, e⟩
  have HA := Aside0.mk hA
  clear hA
  have L8 := HL.out
  by_cases hlt : lo < hi
  ·obtain ⟨g, rfl⟩ := HA.out (by omega)
   obtain ⟨y, hy⟩ : ∃ y, l[(lo + hi) / 2]? = some y := ⟨_, List.getElem?_eq_getElem (by omega)⟩
   have Y := Aside0.mk hy
   clear hy
   go_wp2_with fail
   refine start_ (n := 8) (S := fun W => Below W0.heap.size W0 W) (ds := []) #[false, false, false, false, false, false, false, false] (by kernel_rfl) rfl rfl BW.out.drew (fun hHeld => ?_)
   generalize World.drew _ = w5 at hHeld ⊢
   refine pure_ (i := 0) (N := (some 24)) (v := ?_) (a' := ?_) #[true, false, false, false, false, false, false, false] rfl rfl (by kernel_rfl) (fun _ _ _ h => h) (Or.inl ⟨by rfl, ?_⟩) ?_ ?_
   rotate_left
   ·intro w'
    go_simp
    with_reducible rfl
   rotate_left
   ·simp only [Act.put, List.setIfInBounds_toArray, List.set_cons_zero, List.set_cons_succ, i64_w, i32_w]
    rfl
   refine pure_ (i := 1) (N := (some 25)) (v := ?_) (a' := ?_) #[true, true, false, false, false, false, false, false] rfl rfl (by kernel_rfl) (fun _ _ _ h => h) (Or.inl ⟨by rfl, ?_⟩) ?_ ?_
   rotate_left
   ·intro w'
    go_simp
    with_reducible rfl
   rotate_left
   ·simp only [Act.put, List.setIfInBounds_toArray, List.set_cons_zero, List.set_cons_succ, i64_w, i32_w]
    rfl
   refine pure_ (i := 2) (N := (some 26)) (v := ?_) (a' := ?_) #[true, true, true, false, false, false, false, false] rfl rfl (by kernel_rfl) (fun _ _ _ h => h) (Or.inl ⟨by rfl, ?_⟩) ?_ ?_
   rotate_left
   ·intro w'
    go_simp
    with_reducible rfl
   rotate_left
   ·simp only [Act.put, List.setIfInBounds_toArray, List.set_cons_zero, List.set_cons_succ, i64_w, i32_w]
    rfl
   refine pure_ (i := 3) (N := (some 27)) (v := ?_) (a' := ?_) #[true, true, true, true, false, false, false, false] rfl rfl (by kernel_rfl) (fun _ _ _ h => h) (Or.inl ⟨by rfl, ?_⟩) ?_ ?_
   rotate_left
   ·intro w'
    go_simp
    rw [if_pos ⟨by omega, by omega⟩, show (((lo : Int) + (hi : Int)) / 2).toNat = (lo + hi) / 2 by omega]
   rotate_left
   ·simp only [Act.put, List.setIfInBounds_toArray, List.set_cons_zero, List.set_cons_succ, i64_w, i32_w]
    rfl
   refine take_ (i := 4) (N := (some 28)) (v := _) (a' := ?_) #[true, true, true, true, true, false, false, false] rfl rfl (by kernel_rfl) (fun _ _ _ h => h) (Or.inl ⟨by rfl, fun w' hs => yields_load 34 (.tmp 27) _ rfl _ _ rfl _ (load_key HW.out hs Y.out)⟩) hHeld ?_ ?_
   rotate_left
   ·simp only [Act.put, List.setIfInBounds_toArray, List.set_cons_zero, List.set_cons_succ, i64_w, i32_w]
    rfl
   refine take_ (i := 5) (N := (some 29)) (v := _) (a' := ?_) #[true, true, true, true, true, true, false, false] rfl rfl (by kernel_rfl) (fun _ _ _ h => h) (Or.inl ⟨by rfl, fun w' hs => yields_load 34 (.tmp 4) _ rfl _ _ rfl _ (HL2.out w' hs)⟩) hHeld ?_ ?_
   rotate_left
   ·simp only [Act.put, List.setIfInBounds_toArray, List.set_cons_zero, List.set_cons_succ, i64_w, i32_w]
    rfl
   refine one_ (i := 6) (N := (some 30)) #[true, true, true, true, true, true, true, false] rfl rfl (by kernel_rfl) (by decide) (fun K hK => ?_)
   refine goesv_ Tryz.func50 (by kernel_rfl) rfl #[.agg (encK y).toArray, .agg (encK ky).toArray] (by rfl) rfl rfl (by rfl) (by (try simp only [List.map_toArray, List.map_cons, List.map_nil]); first | done | rfl) ?_
   refine (HLess.out y _).mono ?_
   rintro e w5c ⟨rfl, hbn⟩
   refine ⟨_, rfl, ?_⟩
   have hS_ := below_step hHeld hbn
   clear hbn
   refine hK.out _ _ hS_ (fun hHeld => ?_)
   clear hK K
   refine norm_ (a' := ?_) ?_ ?_
   rotate_left
   ·show Act.put _ (some 30) _ = _
    simp only [Act.put, List.setIfInBounds_toArray, List.set_cons_zero, List.set_cons_succ, i64_w, i32_w]
    rfl
   refine pure_ (i := 7) (N := (some 31)) (v := ?_) (a' := ?_) #[true, true, true, true, true, true, true, true] rfl rfl (by kernel_rfl) (fun _ _ _ h => h) (Or.inl ⟨by rfl, ?_⟩) ?_ ?_
   rotate_left
   ·intro w'
    go_simp
    with_reducible rfl
   rotate_left
   ·simp only [Act.put, List.setIfInBounds_toArray, List.set_cons_zero, List.set_cons_succ, i64_w, i32_w]
    rfl
   refine done_ (by kernel_rfl) ?_
   generalize hfy : f y = fy
   have FY := Aside0.mk hfy
   clear hfy
   have HH := Aside0.mk hHeld
   clear hHeld
   by_cases hyx : fy < 0
   ·go_wp2
    go_roundg (hi - ((lo + hi) / 2 + 1))
    case measure => omega
    case rel => exact ⟨(lo + hi) / 2 + 1, hi, by rw [show ((lo : Int) + (hi : Int)) / 2 + 1 = (((lo + hi) / 2 + 1 : Nat) : Int) by omega], rfl, by omega, hin, Nat.le_refl _, ⟨HH.out⟩, ⟨I.out.up Y.out (by rw [FY.out]; exact hyx)⟩⟩
   ·go_wp2
    go_roundg ((lo + hi) / 2 - lo)
    case measure => omega
    case rel => exact ⟨lo, (lo + hi) / 2, rfl, by rw [show ((lo : Int) + (hi : Int)) / 2 = (((lo + hi) / 2 : Nat) : Int) by omega], by omega, by omega, Nat.le_refl _, ⟨HH.out⟩, ⟨I.out.down Y.out (by rw [FY.out]; omega)⟩⟩
  ·obtain rfl : hi = lo := by omega
   by_cases hn : hi < l.length
   ·obtain ⟨g, rfl⟩ := HA.out (by omega)
    obtain ⟨y, hy⟩ : ∃ y, l[hi]? = some y := ⟨_, List.getElem?_eq_getElem (by omega)⟩
    have Y := Aside0.mk hy
    clear hy
    have hb0 : decide ((hi : Int) < (l.length : Int)) = true := decide_eq_true (by omega)
    go_wp2_with fail
    refine start_ (n := 16) (S := fun W => Below W0.heap.size W0 W) (ds := []) #[false, false, false, false, false, false, false, false, false, false, false, false, false, false, false, false] (by kernel_rfl) rfl rfl BW.out.drew (fun hHeld => ?_)
    generalize World.drew _ = w5 at hHeld ⊢
    refine pure_ (i := 0) (N := (some 35)) (v := ?_) (a' := ?_) #[true, false, false, false, false, false, false, false, false, false, false, false, false, false, false, false] rfl rfl (by kernel_rfl) (fun _ _ _ h => h) (Or.inl ⟨by rfl, ?_⟩) ?_ ?_
    rotate_left
    ·intro w'
     go_simp
     with_reducible rfl
    rotate_left
    ·simp only [Act.put, List.setIfInBounds_toArray, List.set_cons_zero, List.set_cons_succ, i64_w, i32_w]
     rfl
    refine pure_ (i := 1) (N := (some 36)) (v := ?_) (a' := ?_) #[true, true, false, false, false, false, false, false, false, false, false, false, false, false, false, false] rfl rfl (by kernel_rfl) (fun _ _ _ h => h) (Or.inl ⟨by rfl, ?_⟩) ?_ ?_
    rotate_left
    ·intro w'
     go_simp
     with_reducible rfl
    rotate_left
    ·simp only [Act.put, List.setIfInBounds_toArray, List.set_cons_zero, List.set_cons_succ, i64_w, i32_w]
     rfl
    refine pure_ (i := 2) (N := (some 37)) (v := ?_) (a' := ?_) #[true, true, true, false, false, false, false, false, false, false, false, false, false, false, false, false] rfl rfl (by kernel_rfl) (fun _ _ _ h => h) (Or.inl ⟨by rfl, ?_⟩) ?_ ?_
    rotate_left
    ·intro w'
     go_simp
     with_reducible rfl
    rotate_left
    ·simp only [Act.put, List.setIfInBounds_toArray, List.set_cons_zero, List.set_cons_succ, i64_w, i32_w]
     rfl
    refine pure_ (i := 3) (N := (some 38)) (v := ?_) (a' := ?_) #[true, true, true, true, false, false, false, false, false, false, false, false, false, false, false, false] rfl rfl (by kernel_rfl) (fun _ _ _ h => h) (Or.inl ⟨by rfl, ?_⟩) ?_ ?_
    rotate_left
    ·intro w'
     go_simp
     with_reducible rfl
    rotate_left
    ·simp only [Act.put, List.setIfInBounds_toArray, List.set_cons_zero, List.set_cons_succ, i64_w, i32_w]
     rfl
    refine pure_ (i := 4) (N := (some 39)) (v := ?_) (a' := ?_) #[true, true, true, true, true, false, false, false, false, false, false, false, false, false, false, false] rfl rfl (by kernel_rfl) (fun _ _ _ h => h) (Or.inl ⟨by rfl, ?_⟩) ?_ ?_
    rotate_left
    ·intro w'
     go_simp
     with_reducible rfl
    rotate_left
    ·simp only [Act.put, List.setIfInBounds_toArray, List.set_cons_zero, List.set_cons_succ, i64_w, i32_w]
     rfl
    refine pure_ (i := 5) (N := (some 40)) (v := ?_) (a' := ?_) #[true, true, true, true, true, true, false, false, false, false, false, false, false, false, false, false] rfl rfl (by kernel_rfl) (fun _ _ _ h => h) (Or.inl ⟨by rfl, ?_⟩) ?_ ?_
    rotate_left
    ·intro w'
     go_simp
     with_reducible rfl
    rotate_left
    ·simp only [Act.put, List.setIfInBounds_toArray, List.set_cons_zero, List.set_cons_succ, i64_w, i32_w]
     rfl
    refine pure_ (i := 6) (N := (some 41)) (v := ?_) (a' := ?_) #[true, true, true, true, true, true, true, false, false, false, false, false, false, false, false, false] rfl rfl (by kernel_rfl) (fun _ _ _ h => h) (Or.inl ⟨by rfl, ?_⟩) ?_ ?_
    rotate_left
    ·intro w'
     go_simp
     with_reducible rfl
    rotate_left
    ·simp only [Act.put, List.setIfInBounds_toArray, List.set_cons_zero, List.set_cons_succ, i64_w, i32_w]
     rfl
    refine pure_ (i := 7) (N := (some 42)) (v := ?_) (a' := ?_) #[true, true, true, true, true, true, true, true, false, false, false, false, false, false, false, false] rfl rfl (by kernel_rfl) (fun _ _ _ h => h) (Or.inl ⟨by rfl, ?_⟩) ?_ ?_
    rotate_left
    ·intro w'
     go_simp
     with_reducible rfl
    rotate_left
    ·simp only [Act.put, List.setIfInBounds_toArray, List.set_cons_zero, List.set_cons_succ, i64_w, i32_w]
     rfl
    refine pure_ (i := 8) (N := (some 43)) (v := ?_) (a' := ?_) #[true, true, true, true, true, true, true, true, true, false, false, false, false, false, false, false] rfl rfl (by kernel_rfl) (fun _ _ _ h => h) (Or.inl ⟨by rfl, ?_⟩) ?_ ?_
    rotate_left
    ·intro w'
     go_simp
     with_reducible rfl
    rotate_left
    ·simp only [Act.put, List.setIfInBounds_toArray, List.set_cons_zero, List.set_cons_succ, i64_w, i32_w]
     rfl
    refine take_ (i := 9) (N := (some 44)) (v := _) (a' := ?_) #[true, true, true, true, true, true, true, true, true, true, false, false, false, false, false, false] rfl rfl (by kernel_rfl) (fun _ _ _ h => h) (Or.inl ⟨by rfl, fun w' hs => yields_load 34 (.tmp 43) _ rfl _ _ rfl _ (load_key HW.out hs Y.out)⟩) hHeld ?_ ?_
    rotate_left
    ·simp only [Act.put, List.setIfInBounds_toArray, List.set_cons_zero, List.set_cons_succ, i64_w, i32_w]
     rfl
    refine take_ (i := 10) (N := (some 45)) (v := _) (a' := ?_) #[true, true, true, true, true, true, true, true, true, true, true, false, false, false, false, false] rfl rfl (by kernel_rfl) (fun _ _ _ h => h) (Or.inl ⟨by rfl, fun w' hs => yields_load 34 (.tmp 4) _ rfl _ _ rfl _ (HL2.out w' hs)⟩) hHeld ?_ ?_
    rotate_left
    ·simp only [Act.put, List.setIfInBounds_toArray, List.set_cons_zero, List.set_cons_succ, i64_w, i32_w]
     rfl
    refine one_ (i := 11) (N := (some 46)) #[true, true, true, true, true, true, true, true, true, true, true, true, false, false, false, false] rfl rfl (by kernel_rfl) (by decide) (fun K hK => ?_)
    refine goesv_ Tryz.func50 (by kernel_rfl) rfl #[.agg (encK y).toArray, .agg (encK ky).toArray] (by rfl) rfl rfl (by rfl) (by (try simp only [List.map_toArray, List.map_cons, List.map_nil]); first | done | rfl) ?_
    refine (HLess.out y _).mono ?_
    rintro e w5c ⟨rfl, hbn⟩
    refine ⟨_, rfl, ?_⟩
    have hS_ := below_step hHeld hbn
    clear hbn
    refine hK.out _ _ hS_ (fun hHeld => ?_)
    clear hK K
    refine norm_ (a' := ?_) ?_ ?_
    rotate_left
    ·show Act.put _ (some 46) _ = _
     simp only [Act.put, List.setIfInBounds_toArray, List.set_cons_zero, List.set_cons_succ, i64_w, i32_w]
     rfl
    refine pure_ (i := 14) (N := (some 6)) (v := ?_) (a' := ?_) #[true, true, true, true, true, true, true, true, true, true, true, true, false, false, true, false] rfl rfl (by kernel_rfl) (fun _ _ _ h => h) (Or.inl ⟨by rfl, ?_⟩) ?_ ?_
    rotate_left
    ·intro w'
     go_simp
     with_reducible rfl
    rotate_left
    ·simp only [Act.put, List.setIfInBounds_toArray, List.set_cons_zero, List.set_cons_succ, i64_w, i32_w]
     rfl
    refine pure_ (i := 12) (N := (some 47)) (v := ?_) (a' := ?_) #[true, true, true, true, true, true, true, true, true, true, true, true, true, false, true, false] rfl rfl (by kernel_rfl) (fun _ _ _ h => h) (Or.inl ⟨by rfl, ?_⟩) ?_ ?_
    rotate_left
    ·intro w'
     go_simp
     with_reducible rfl
    rotate_left
    ·simp only [Act.put, List.setIfInBounds_toArray, List.set_cons_zero, List.set_cons_succ, i64_w, i32_w]
     rfl
    refine pure_ (i := 13) (N := (some 48)) (v := ?_) (a' := ?_) #[true, true, true, true, true, true, true, true, true, true, true, true, true, true, true, false] rfl rfl (by kernel_rfl) (fun _ _ _ h => h) (Or.inl ⟨by rfl, ?_⟩) ?_ ?_
    rotate_left
    ·intro w'
     go_simp
     with_reducible rfl
    rotate_left
    ·simp only [Act.put, List.setIfInBounds_toArray, List.set_cons_zero, List.set_cons_succ, i64_w, i32_w]
     rfl
    refine pure_ (i := 15) (N := (some 7)) (v := ?_) (a' := ?_) #[true, true, true, true, true, true, true, true, true, true, true, true, true, true, true, true] rfl rfl (by kernel_rfl) (fun _ _ _ h => h) (Or.inl ⟨by rfl, ?_⟩) ?_ ?_
    rotate_left
    ·intro w'
     go_simp
     with_reducible rfl
    rotate_left
    ·simp only [Act.put, List.setIfInBounds_toArray, List.set_cons_zero, List.set_cons_succ, i64_w, i32_w]
     rfl
    refine done_ (by kernel_rfl) ?_
    generalize hfy : f y = fy
    have FY := Aside0.mk hfy
    clear hfy
    have HH := Aside0.mk hHeld
    clear hHeld
    go_wp2
    go_ret2
    have hfa : foundAt f l hi = decide (fy = 0) := by unfold foundAt; rw [Y.out, ← FY.out]
    refine ⟨⟨hi, hin, ?_, I.out⟩, below_step HB0.out HH.out⟩
    rw [hfa]
    rfl
   ·have hb0 : decide ((hi : Int) < (l.length : Int)) = false := decide_eq_false (by omega)
    go_wp2_with fail
    refine start_ (n := 16) (S := fun W => Below W0.heap.size W0 W) (ds := []) #[false, false, false, false, false, false, false, false, false, false, false, false, false, false, false, false] (by kernel_rfl) rfl rfl BW.out.drew (fun hHeld => ?_)
    generalize World.drew _ = w5 at hHeld ⊢
    refine pure_ (i := 0) (N := (some 35)) (v := ?_) (a' := ?_) #[true, false, false, false, false, false, false, false, false, false, false, false, false, false, false, false] rfl rfl (by kernel_rfl) (fun _ _ _ h => h) (Or.inl ⟨by rfl, ?_⟩) ?_ ?_
    rotate_left
    ·intro w'
     go_simp
     with_reducible rfl
    rotate_left
    ·simp only [Act.put, List.setIfInBounds_toArray, List.set_cons_zero, List.set_cons_succ, i64_w, i32_w]
     rfl
    refine pure_ (i := 1) (N := (some 36)) (v := ?_) (a' := ?_) #[true, true, false, false, false, false, false, false, false, false, false, false, false, false, false, false] rfl rfl (by kernel_rfl) (fun _ _ _ h => h) (Or.inl ⟨by rfl, ?_⟩) ?_ ?_
    rotate_left
    ·intro w'
     go_simp
     with_reducible rfl
    rotate_left
    ·simp only [Act.put, List.setIfInBounds_toArray, List.set_cons_zero, List.set_cons_succ, i64_w, i32_w]
     rfl
    refine pure_ (i := 2) (N := (some 37)) (v := ?_) (a' := ?_) #[true, true, true, false, false, false, false, false, false, false, false, false, false, false, false, false] rfl rfl (by kernel_rfl) (fun _ _ _ h => h) (Or.inl ⟨by rfl, ?_⟩) ?_ ?_
    rotate_left
    ·intro w'
     go_simp
     with_reducible rfl
    rotate_left
    ·simp only [Act.put, List.setIfInBounds_toArray, List.set_cons_zero, List.set_cons_succ, i64_w, i32_w]
     rfl
    refine pure_ (i := 3) (N := (some 38)) (v := ?_) (a' := ?_) #[true, true, true, true, false, false, false, false, false, false, false, false, false, false, false, false] rfl rfl (by kernel_rfl) (fun _ _ _ h => h) (Or.inl ⟨by rfl, ?_⟩) ?_ ?_
    rotate_left
    ·intro w'
     go_simp
     with_reducible rfl
    rotate_left
    ·simp only [Act.put, List.setIfInBounds_toArray, List.set_cons_zero, List.set_cons_succ, i64_w, i32_w]
     rfl
    refine pure_ (i := 4) (N := (some 39)) (v := ?_) (a' := ?_) #[true, true, true, true, true, false, false, false, false, false, false, false, false, false, false, false] rfl rfl (by kernel_rfl) (fun _ _ _ h => h) (Or.inl ⟨by rfl, ?_⟩) ?_ ?_
    rotate_left
    ·intro w'
     go_simp
     with_reducible rfl
    rotate_left
    ·simp only [Act.put, List.setIfInBounds_toArray, List.set_cons_zero, List.set_cons_succ, i64_w, i32_w]
     rfl
    refine pure_ (i := 5) (N := (some 40)) (v := undef) (a' := ?_) #[true, true, true, true, true, true, false, false, false, false, false, false, false, false, false, false] rfl rfl (by kernel_rfl) (fun _ _ _ h => h) (Or.inr ⟨by rfl, rfl⟩) ?_ ?_
    rotate_left
    ·simp only [Act.put, List.setIfInBounds_toArray, List.set_cons_zero, List.set_cons_succ, i64_w, i32_w]
     rfl
    refine pure_ (i := 6) (N := (some 41)) (v := undef) (a' := ?_) #[true, true, true, true, true, true, true, false, false, false, false, false, false, false, false, false] rfl rfl (by kernel_rfl) (fun _ _ _ h => h) (Or.inr ⟨by rfl, rfl⟩) ?_ ?_
    rotate_left
    ·simp only [Act.put, List.setIfInBounds_toArray, List.set_cons_zero, List.set_cons_succ, i64_w, i32_w]
     rfl
    refine pure_ (i := 7) (N := (some 42)) (v := undef) (a' := ?_) #[true, true, true, true, true, true, true, true, false, false, false, false, false, false, false, false] rfl rfl (by kernel_rfl) (fun _ _ _ h => h) (Or.inr ⟨by rfl, rfl⟩) ?_ ?_
    rotate_left
    ·simp only [Act.put, List.setIfInBounds_toArray, List.set_cons_zero, List.set_cons_succ, i64_w, i32_w]
     rfl
    refine pure_ (i := 8) (N := (some 43)) (v := undef) (a' := ?_) #[true, true, true, true, true, true, true, true, true, false, false, false, false, false, false, false] rfl rfl (by kernel_rfl) (fun _ _ _ h => h) (Or.inr ⟨by rfl, rfl⟩) ?_ ?_
    rotate_left
    ·simp only [Act.put, List.setIfInBounds_toArray, List.set_cons_zero, List.set_cons_succ, i64_w, i32_w]
     rfl
    refine pure_ (i := 9) (N := (some 44)) (v := undef) (a' := ?_) #[true, true, true, true, true, true, true, true, true, true, false, false, false, false, false, false] rfl rfl (by kernel_rfl) (fun _ _ _ h => h) (Or.inr ⟨by rfl, rfl⟩) ?_ ?_
    rotate_left
    ·simp only [Act.put, List.setIfInBounds_toArray, List.set_cons_zero, List.set_cons_succ, i64_w, i32_w]
     rfl
    refine pure_ (i := 10) (N := (some 45)) (v := undef) (a' := ?_) #[true, true, true, true, true, true, true, true, true, true, true, false, false, false, false, false] rfl rfl (by kernel_rfl) (fun _ _ _ h => h) (Or.inr ⟨by rfl, rfl⟩) ?_ ?_
    rotate_left
    ·simp only [Act.put, List.setIfInBounds_toArray, List.set_cons_zero, List.set_cons_succ, i64_w, i32_w]
     rfl
    refine pure_ (i := 11) (N := (some 46)) (v := undef) (a' := ?_) #[true, true, true, true, true, true, true, true, true, true, true, true, false, false, false, false] rfl rfl (by kernel_rfl) (fun _ _ _ h => h) (Or.inr ⟨by rfl, rfl⟩) ?_ ?_
    rotate_left
    ·simp only [Act.put, List.setIfInBounds_toArray, List.set_cons_zero, List.set_cons_succ, i64_w, i32_w]
     rfl
    refine pure_ (i := 14) (N := (some 6)) (v := ?_) (a' := ?_) #[true, true, true, true, true, true, true, true, true, true, true, true, false, false, true, false] rfl rfl (by kernel_rfl) (fun _ _ _ h => h) (Or.inl ⟨by rfl, ?_⟩) ?_ ?_
    rotate_left
    ·intro w'
     go_simp
     with_reducible rfl
    rotate_left
    ·simp only [Act.put, List.setIfInBounds_toArray, List.set_cons_zero, List.set_cons_succ, i64_w, i32_w]
     rfl
    refine pure_ (i := 12) (N := (some 47)) (v := undef) (a' := ?_) #[true, true, true, true, true, true, true, true, true, true, true, true, true, false, true, false] rfl rfl (by kernel_rfl) (fun _ _ _ h => h) (Or.inr ⟨by rfl, rfl⟩) ?_ ?_
    rotate_left
    ·simp only [Act.put, List.setIfInBounds_toArray, List.set_cons_zero, List.set_cons_succ, i64_w, i32_w]
     rfl
    refine pure_ (i := 13) (N := (some 48)) (v := ?_) (a' := ?_) #[true, true, true, true, true, true, true, true, true, true, true, true, true, true, true, false] rfl rfl (by kernel_rfl) (fun _ _ _ h => h) (Or.inl ⟨by rfl, ?_⟩) ?_ ?_
    rotate_left
    ·intro w'
     go_simp
     with_reducible rfl
    rotate_left
    ·simp only [Act.put, List.setIfInBounds_toArray, List.set_cons_zero, List.set_cons_succ, i64_w, i32_w]
     rfl
    refine pure_ (i := 15) (N := (some 7)) (v := ?_) (a' := ?_) #[true, true, true, true, true, true, true, true, true, true, true, true, true, true, true, true] rfl rfl (by kernel_rfl) (fun _ _ _ h => h) (Or.inl ⟨by rfl, ?_⟩) ?_ ?_
    rotate_left
    ·intro w'
     go_simp
     with_reducible rfl
    rotate_left
    ·simp only [Act.put, List.setIfInBounds_toArray, List.set_cons_zero, List.set_cons_succ, i64_w, i32_w]
     rfl
    refine done_ (by kernel_rfl) ?_
    go_wp2
    go_ret2
    exact ⟨⟨hi, hin, by unfold foundAt; rw [List.getElem?_eq_none (by omega)]; rfl, I.out⟩, below_step HB0.out hHeld⟩
end Go.Proofs.YthnpiimiimiijaaGreatDoor.Dir
/- at and live: where a node's device is. -/
namespace Go.Proofs.YthnpiimiimiijaaGreatDoor.Dir
open Go Go.RowKit Go.Proofs Go.Proofs.YthnpiimiimiijaaGreatDoorW.PrintWords Go.Proofs.YthnpiimiimiijaaGreatDoorW.PrintLast Go.Proofs.YthnpiimiimiijaaGreatDoorW.PrintMore
set_option linter.unusedVariables false
set_option linter.unusedSimpArgs false
theorem countP_parts {α : Type} (p : α → Bool) (l : List α) (i : Nat) (hi : i ≤ l.length) (h1 : ∀ t x, t < i → l[t]? = some x → p x = true) (h2 : ∀ t x, i ≤ t → l[t]? = some x → p x = false) : l.countP p = i := by
 have e := List.take_append_drop i l
 conv => lhs; rw [← e]
 rw [List.countP_append]
 have a1 : (l.take i).countP p = i := by
  rw [List.countP_eq_length.2]
  ·rw [List.length_take]; omega
  ·intro x hx
   obtain ⟨t, ht⟩ := List.getElem?_of_mem hx
   rw [List.getElem?_take] at ht
   split at ht
   ·rename_i hlt; exact h1 t x hlt ht
   ·cases ht
 have a2 : (l.drop i).countP p = 0 := by
  rw [List.countP_eq_zero]
  intro x hx
  obtain ⟨t, ht⟩ := List.getElem?_of_mem hx
  rw [List.getElem?_drop] at ht
  simp [h2 (i + t) x (by omega) ht]
 omega
theorem nodes_lt {l : List Dev} (hs : l.Pairwise (·.node < ·.node)) {a b : Nat} {x y : Dev} (hab : a < b) (hx : l[a]? = some x) (hy : l[b]? = some y) : x.node < y.node := by
 obtain ⟨ha, rfl⟩ := List.getElem?_eq_some_iff.1 hx
 obtain ⟨hb, rfl⟩ := List.getElem?_eq_some_iff.1 hy
 exact List.pairwise_iff_getElem.1 hs a b ha hb hab
theorem wrap_in {a : Int} (h1 : -9223372036854775808 ≤ a) (h2 : a ≤ 9223372036854775807) : wrap64 a = a := by unfold wrap64; omega
theorem wrap_ne {a : Int} (h1 : 0 < a) (h2 : a < 18446744073709551616) : wrap64 a ≠ 0 := by unfold wrap64; omega
theorem at_plain {l : List Dev} (hs : l.Pairwise (·.node < ·.node)) (hn : ∀ d ∈ l, 1 ≤ d.node ∧ d.node ≤ 8) {node : Int} (h1 : -9223372036854775808 ≤ node) (h2 : node ≤ 9223372036854775807) {i : Nat} (hi : i ≤ l.length)
  (hp : Parts (fun d : Dev => wrap64 (d.node - node)) l i i) : foundAt (fun d : Dev => wrap64 (d.node - node)) l i = hasD l node ∧ (hasD l node = true ∨ 1 ≤ node → i = posD l node) := by
 by_cases hpos : 1 ≤ node
 ·have hw : ∀ (t : Nat) (x : Dev), l[t]? = some x → wrap64 (x.node - node) = x.node - node := fun t x hx => by
   have := hn x (List.mem_of_getElem? hx)
   exact wrap_in (by omega) (by omega)
  obtain ⟨q1, q2⟩ := hp (fun a b x y hab hx hy hlt => by
   simp only [hw a x hx, hw b y hy] at hlt ⊢
   rcases Nat.lt_or_eq_of_le hab with h | h
   ·have := nodes_lt hs h hx hy; omega
   ·subst h; rw [hx] at hy; cases hy; exact hlt)
  have hpo : posD l node = i := countP_parts _ l i hi (fun t x ht hx => by
    have := q1 t x ht hx
    simp only [hw t x hx] at this
    exact decide_eq_true (by omega)) (fun t x ht hx => by
    have := q2 t x ht hx
    simp only [hw t x hx] at this
    exact decide_eq_false (by omega))
  refine ⟨?_, fun _ => hpo.symm⟩
  unfold foundAt
  cases hx : l[i]? with
  | none =>
   cases hh : hasD l node with
   | false => rfl
   | true =>
    obtain ⟨d, hd, he⟩ := List.any_eq_true.1 hh
    obtain ⟨t, ht⟩ := List.getElem?_of_mem hd
    have hlt : t < i := by have := (List.getElem?_eq_some_iff.1 ht).1; have := List.getElem?_eq_none_iff.1 hx; omega
    have := q1 t d hlt ht
    simp only [hw t d ht] at this
    have := of_decide_eq_true he
    omega
  | some x =>
   have h0 := q2 i x (Nat.le_refl _) hx
   simp only [hw i x hx] at h0 ⊢
   rw [Bool.eq_iff_iff, decide_eq_true_eq]
   constructor
   ·intro h; exact List.any_eq_true.2 ⟨x, List.mem_of_getElem? hx, decide_eq_true (by omega)⟩
   ·intro hh
    obtain ⟨d, hd, he⟩ := List.any_eq_true.1 hh
    have he := of_decide_eq_true he
    obtain ⟨t, ht⟩ := List.getElem?_of_mem hd
    rcases Nat.lt_trichotomy t i with h | h | h
    ·have := q1 t d h ht
     simp only [hw t d ht] at this
     omega
    ·subst h; rw [hx] at ht; cases ht; omega
    ·have := nodes_lt hs h hx ht; omega
 ·have hh : hasD l node = false := by
   cases hh : hasD l node with
   | false => rfl
   | true =>
    obtain ⟨d, hd, he⟩ := List.any_eq_true.1 hh
    have := hn d hd
    have := of_decide_eq_true he
    omega
  rw [hh]
  refine ⟨?_, fun h => h.elim (fun h => by cases h) (fun h => absurd h hpos)⟩
  unfold foundAt
  cases hx : l[i]? with
  | none => rfl
  | some x =>
   have := hn x (List.mem_of_getElem? hx)
   exact decide_eq_false (wrap_ne (by omega) (by omega))
structure NextIs (w : World) (base q : Nat) (B : Book) (A1 : Option Addr) (c1 : Nat) (A2 : Option Addr) (c2 : Nat) : Prop where
 box : w.heap[q]? = some (.cells (bookCells B A1 c1 A2 c2).toArray 43 (0, 0))
 lists : Lists w base B A1 c1 A2 c2
 low : base ≤ q
 ne1 : ∀ k, (Value.slice A1 B.devs.length c1).ownBlock = some k → k ≠ q
 ne2 : ∀ k, (Value.slice A2 B.spent.length c2).ownBlock = some k → k ≠ q
def NextAt (w : World) (base q : Nat) (B : Book) : Prop := ∃ A1 c1 A2 c2, NextIs w base q B A1 c1 A2 c2
section
variable {w w' : World} {base q : Nat} {B : Book} {A1 : Option Addr} {c1 : Nat} {A2 : Option Addr} {c2 : Nat}
theorem NextIs.lt (h : NextIs w base q B A1 c1 A2 c2) : q < w.heap.size := (Array.getElem?_eq_some_iff.1 h.box).1
theorem NextIs.below (h : NextIs w base q B A1 c1 A2 c2) (hb : Below w.heap.size w w') : NextIs w' base q B A1 c1 A2 c2 :=
 ⟨(hb.block _ h.lt).trans h.box, h.lists.below hb, h.low, h.ne1, h.ne2⟩
theorem NextIs.cells (h : NextIs w base q B A1 c1 A2 c2) : w.cell? ⟨q, 0, none⟩ = some (.int .i64 B.ver) ∧ w.cell? ⟨q, 1, none⟩ = some (.int .i64 B.clock) ∧ w.cell? ⟨q, 2, none⟩ = some (.slice A1 B.devs.length c1) ∧ w.cell? ⟨q, 3, none⟩ = some (.slice A2 B.spent.length c2) ∧ w.cell? ⟨q, 4, none⟩ = some (.string (str B.acl)) ∧ (∀ j, w.frozen? ⟨q, j, none⟩ = false) := by
 have hk := h.box
 simp [World.cell?, World.frozen?, hk, bookCells]
theorem NextAt.below (h : NextAt w base q B) (hb : Below w.heap.size w w') : NextAt w' base q B := by
 obtain ⟨A1, c1, A2, c2, h⟩ := h
 exact ⟨A1, c1, A2, c2, h.below hb⟩
end
theorem owned_at {w : World} {base : Nat} {e : TypeId} {size n c : Nat} {A : Option Addr} {xs : List Value} (h : w.ownsRow base e size (.slice A n c) n xs) (hn : n ≠ 0) : ∃ g, A = some ⟨g, 0, none⟩ := by
 rcases h.2 with ⟨e, e2⟩ | ⟨g, _, _, e, _⟩
 ·omega
 ·injection e with e; exact ⟨g, e⟩
set_option maxHeartbeats 1000000 in
set_option maxRecDepth 100000 in
theorem at_any (w : World) (base q : Nat) (B : Book) (A1 : Option Addr) (c1 : Nat) (A2 : Option Addr) (c2 : Nat) (node : Int) (h : NextIs w base q B A1 c1 A2 c2) (hw : WF B) (h1 : -9223372036854775808 ≤ node) (h2 : node ≤ 9223372036854775807) :
  Calls Tryz.prog 116 #[.pointer (some ⟨q, 0, none⟩), .int .i64 node] w fun e w' => (∃ i : Nat, e = .returned (.tuple #[.int .i64 i, .bool (hasD B.devs node)]) ∧ i ≤ B.devs.length ∧ (hasD B.devs node = true ∨ 1 ≤ node → i = posD B.devs node)) ∧ Below w.heap.size w w' := by
 obtain ⟨k0, k1, k2, k3, k4, kf⟩ := h.cells
 have hs := Aside0.mk (search_dev B.devs node A1 c1 base w h.lists.1 hw.few.1)
 have hp := Aside0.mk (fun (i : Nat) (hi : i ≤ B.devs.length) (hp : Parts (fun d : Dev => wrap64 (d.node - node)) B.devs i i) => at_plain hw.devs hw.nodes h1 h2 hi hp)
 clear h hw h1 h2
 go_enter Tryz.func116, Tryz.ntmps116
 go_wp2_with fail
 refine hs.out.mono ?_
 rintro e w' ⟨⟨i, hi, rfl, hpa⟩, hb⟩
 have HP := Aside0.mk (hp.out i hi hpa)
 have HI := Aside0.mk hi
 have HB := Aside0.mk hb
 clear hi hpa hb
 go_wp2_with fail
 go_ret2
 refine ⟨⟨i, ?_, HI.out, HP.out.2⟩, HB.out⟩
 rw [← HP.out.1]
 rfl
theorem dev_cell {w : World} {base q : Nat} {B : Book} {g c1 : Nat} {A2 : Option Addr} {c2 : Nat} (h : NextIs w base q B (some ⟨g, 0, none⟩) c1 A2 c2) {i : Nat} {d : Dev} (hd : B.devs[i]? = some d) {j : Nat} {v : Value} (hv : (encD d)[j]? = some v) : w.cell? ⟨g, i * 35 + j, none⟩ = some v :=
 row_cell h.lists.1 (Below.refl _ w) (flatMap_at encD 35 encD_len B.devs i d hd j v hv)
set_option maxHeartbeats 1000000 in
set_option maxRecDepth 100000 in
theorem live_any (w : World) (base q : Nat) (B : Book) (A1 : Option Addr) (c1 : Nat) (A2 : Option Addr) (c2 : Nat) (node : Int) (h : NextIs w base q B A1 c1 A2 c2) (hw : WF B) (h1 : -9223372036854775808 ≤ node) (h2 : node ≤ 9223372036854775807) :
  Calls Tryz.prog 120 #[.pointer (some ⟨q, 0, none⟩), .int .i64 node] w fun e w' => (if liveOf B node = 0 then ∃ g, A1 = some ⟨g, 0, none⟩ ∧ e = .returned (.tuple #[.pointer (some ⟨g, posD B.devs node * 35, none⟩), .int .i64 0]) else e = .returned (.tuple #[.pointer none, .int .i64 (liveOf B node)])) ∧ Below w.heap.size w w' := by
 have ha := at_any w base q B A1 c1 A2 c2 node h hw h1 h2
 have HN := Aside0.mk h
 have hlim := hw.few.1
 have HWD := Aside0.mk hw.devs
 clear h1 h2 hw
 cases hh : hasD B.devs node with
 | false =>
  have hl : liveOf B node = 220 := by unfold liveOf; rw [if_pos hh]
  rw [hl]
  simp only [hh] at ha
  replace ha := Aside0.mk ha
  clear h hh hl
  go_enter Tryz.func120, Tryz.ntmps120
  go_wp2_with fail
  refine ha.out.mono ?_
  rintro e w1 ⟨⟨i, rfl, hi, hpos⟩, hb⟩
  have HB := Aside0.mk hb
  have HN1 := Aside0.mk (HN.out.below hb)
  have HP := Aside0.mk hpos
  have HI := Aside0.mk hi
  obtain ⟨k0, k1, k2, k3, k4, kf⟩ := HN1.out.cells
  clear hb hpos hi ha k0 k1 k3 k4 kf
  go_wp2_with fail
  go_ret2
  exact ⟨rfl, HB.out⟩
 | true =>
  obtain ⟨g1, g2, g3, g4⟩ := has_at HWD.out hh
  obtain ⟨g, rfl⟩ := owned_at h.lists.1 (by omega)
  have hl : liveOf B node = if (devAt B node).rev = true then 222 else 0 := by unfold liveOf; rw [if_neg (by rw [hh]; simp)]
  rw [hl]
  have hc := dev_cell h g2 (revOfD _)
  have hlt := World.block_lt_of_cell? w _ hc
  simp only [hh] at ha
  replace ha := Aside0.mk ha
  have HC := Aside0.mk hc
  have HLT := Aside0.mk hlt
  have G1 := Aside0.mk g1
  clear h hh hl hc hlt g1 g2 g3 g4
  generalize (devAt B node).rev = rv at HC ⊢
  cases rv with
  | true =>
   simp only [if_true]
   go_enter Tryz.func120, Tryz.ntmps120
   go_wp2_with fail
   refine ha.out.mono ?_
   rintro e w1 ⟨⟨i, rfl, hi, hpos⟩, hb⟩
   have HB := Aside0.mk hb
   have HN1 := Aside0.mk (HN.out.below hb)
   have HP := Aside0.mk hpos
   have HI := Aside0.mk hi
   obtain ⟨k0, k1, k2, k3, k4, kf⟩ := HN1.out.cells
   clear hb hpos hi ha k0 k1 k3 k4 kf
   have hii : i = posD B.devs node := HP.out (.inl trivial)
   have hc := (HB.out.cell HLT.out).trans HC.out
   have g1 := G1.out
   rw [← hii] at hc g1
   have hin : (i : Int) < (B.devs.length : Int) := by omega
   clear hii g1
   go_wp2_with fail
   go_ret2
   exact ⟨rfl, HB.out⟩
  | false =>
   simp only [Bool.false_eq_true, if_false, if_true]
   go_enter Tryz.func120, Tryz.ntmps120
   go_wp2_with fail
   refine ha.out.mono ?_
   rintro e w1 ⟨⟨i, rfl, hi, hpos⟩, hb⟩
   have HB := Aside0.mk hb
   have HN1 := Aside0.mk (HN.out.below hb)
   have HP := Aside0.mk hpos
   have HI := Aside0.mk hi
   obtain ⟨k0, k1, k2, k3, k4, kf⟩ := HN1.out.cells
   clear hb hpos hi ha k0 k1 k3 k4 kf
   have hii : i = posD B.devs node := HP.out (.inl trivial)
   have hc := (HB.out.cell HLT.out).trans HC.out
   have g1 := G1.out
   rw [← hii] at hc g1
   have hin : (i : Int) < (B.devs.length : Int) := by omega
   have HI2 := Aside0.mk hii
   clear hii g1
   go_wp2_with fail
   go_ret2
   exact ⟨⟨g, rfl, by rw [← HI2.out]; rfl⟩, HB.out⟩
end Go.Proofs.YthnpiimiimiijaaGreatDoor.Dir
end
