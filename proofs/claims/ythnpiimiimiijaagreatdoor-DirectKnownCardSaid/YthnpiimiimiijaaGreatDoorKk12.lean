/- advance and rules, of an op's book. -/
import Derived.Test.YthnpiimiimiijaaGreatDoorKk8
import Derived.Test.YthnpiimiimiijaaGreatDoorKk11
import Derived.Test.YthnpiimiimiijaaGreatDoorKk6
section
namespace Go.Proofs.YthnpiimiimiijaaGreatDoor.Dir
open Go Go.RowKit Go.Proofs Go.Proofs.YthnpiimiimiijaaGreatDoorW.PrintWords Go.Proofs.YthnpiimiimiijaaGreatDoorW.PrintLast Go.Proofs.YthnpiimiimiijaaGreatDoorW.PrintMore
set_option linter.unusedVariables false
set_option linter.unusedSimpArgs false
def OpPost (w : World) (base q : Nat) (X : Book × Int) (e : Ending) (w' : World) : Prop := e = .returned (.int .i64 X.2) ∧ (X.2 = 0 → NextAt w' base q X.1) ∧ Below base w w' ∧ w.heap.size ≤ w'.heap.size
theorem OnBook.post {w W : World} {base q : Nat} {B : Book} {A1 : Option Addr} {c1 : Nat} {A2 : Option Addr} {c2 bx : Nat} {cs : List Value} {T : TypeId} (h : OnBook w W base q B A1 c1 A2 c2 bx cs T) (B' : Book) (n : Int) (hn : n ≠ 0) : OpPost w base q (B', n) (.returned (.int .i64 n)) W :=
 ⟨rfl, fun h => absurd h hn, h.fr, h.fr.size⟩
section
variable {W : World} {base q : Nat} {B : Book} {A1 : Option Addr} {c1 : Nat} {A2 : Option Addr} {c2 : Nat}
theorem NextIs.setq (h : NextIs W base q B A1 c1 A2 c2) (B' : Book) (j : Nat) (u : Value) (hd : B'.devs = B.devs) (hs : B'.spent = B.spent) (hc : ((bookCells B A1 c1 A2 c2).toArray.setIfInBounds j u) = (bookCells B' A1 c1 A2 c2).toArray) : NextIs (W.setCell ⟨q, j, none⟩ u) base q B' A1 c1 A2 c2 := by
 refine ⟨by rw [heap_setCell_same W q j _ _ u h.box, hc], ?_, h.low, by rw [hd]; exact h.ne1, by rw [hs]; exact h.ne2⟩
 unfold Lists
 rw [hd, hs]
 exact ⟨ownsRow_setCell_other h.lists.1 (a := ⟨q, j, none⟩) h.ne1 u, ownsRow_setCell_other h.lists.2.1 (a := ⟨q, j, none⟩) h.ne2 u, h.lists.2.2⟩
theorem NextIs.clock (h : NextIs W base q B A1 c1 A2 c2) (t : Int) : NextIs (W.setCell ⟨q, 1, none⟩ (.int .i64 t)) base q { B with clock := t } A1 c1 A2 c2 := h.setq _ 1 _ rfl rfl rfl
theorem NextIs.acl (h : NextIs W base q B A1 c1 A2 c2) (t : List UInt8) : NextIs (W.setCell ⟨q, 4, none⟩ (.string ⟨t.toArray⟩)) base q { B with acl := t } A1 c1 A2 c2 := h.setq _ 4 _ rfl rfl rfl
theorem NextIs.ver (h : NextIs W base q B A1 c1 A2 c2) (t : Int) : NextIs (W.setCell ⟨q, 0, none⟩ (.int .i64 t)) base q { B with ver := t } A1 c1 A2 c2 := h.setq _ 0 _ rfl rfl rfl
end
set_option maxHeartbeats 4000000 in
set_option maxRecDepth 100000 in
theorem advance_any (w : World) (base q : Nat) (B : Book) (A1 : Option Addr) (c1 : Nat) (A2 : Option Addr) (c2 : Nat) (o : Op) (h : NextIs w base q B A1 c1 A2 c2) (hb : base ≤ w.heap.size) :
  Calls Tryz.prog 84 #[.pointer (some ⟨q, 0, none⟩), .agg (encO o).toArray] w fun e w' => OpPost w base q (advanceOf B o) e w' := by
 obtain ⟨W0, hW0⟩ : ∃ W0, W0 = w.alloc (.cells (encO o).toArray 36) := ⟨_, rfl⟩
 have HS : Aside0 (OnBook w W0 base q B A1 c1 A2 c2 w.heap.size (encO o) 36) := ⟨by rw [hW0]; exact OnBook.start w h hb _ _⟩
 clear h
 by_cases e1 : o.at_ ≤ B.clock
 ·have hX : advanceOf B o = (B, 9) := by unfold advanceOf; rw [if_pos (.inl e1)]
  rw [hX]
  have d1 : decide (o.at_ ≤ B.clock) = true := decide_eq_true e1
  clear e1 hX
  go_enter Tryz.func84, Tryz.ntmps84
  go_upto_region 1 with fail
  rw [← hW0]
  clear hW0
  refine start_ (n := 13) (S := fun W => OnBook w W base q B A1 c1 A2 c2 w.heap.size (encO o) 36) (ds := []) #[false, false, false, false, false, false, false, false, false, false, false, false, false] (by kernel_rfl) rfl rfl HS.out.drew (fun hHeld => ?_)
  generalize World.drew _ = w5 at hHeld ⊢
  refine pure_ (i := 0) (N := (some 5)) (v := ?_) (a' := ?_) #[true, false, false, false, false, false, false, false, false, false, false, false, false] rfl rfl (by kernel_rfl) (fun _ _ _ h => h) (Or.inl ⟨by rfl, ?_⟩) ?_ ?_
  rotate_left
  ·intro w'
   go_simp
   with_reducible rfl
  rotate_left
  ·simp only [Act.put, List.setIfInBounds_toArray, List.set_cons_zero, List.set_cons_succ, i64_w, i32_w]
   rfl
  refine pure_ (i := 2) (N := (some 7)) (v := ?_) (a' := ?_) #[true, false, true, false, false, false, false, false, false, false, false, false, false] rfl rfl (by kernel_rfl) (fun _ _ _ h => h) (Or.inl ⟨by rfl, ?_⟩) ?_ ?_
  rotate_left
  ·intro w'
   go_simp
   with_reducible rfl
  rotate_left
  ·simp only [Act.put, List.setIfInBounds_toArray, List.set_cons_zero, List.set_cons_succ, i64_w, i32_w]
   rfl
  refine pure_ (i := 3) (N := (some 8)) (v := ?_) (a' := ?_) #[true, false, true, true, false, false, false, false, false, false, false, false, false] rfl rfl (by kernel_rfl) (fun _ _ _ h => h) (Or.inl ⟨by rfl, ?_⟩) ?_ ?_
  rotate_left
  ·intro w'
   go_simp
   with_reducible rfl
  rotate_left
  ·simp only [Act.put, List.setIfInBounds_toArray, List.set_cons_zero, List.set_cons_succ, i64_w, i32_w]
   rfl
  refine pure_ (i := 4) (N := (some 9)) (v := ?_) (a' := ?_) #[true, false, true, true, true, false, false, false, false, false, false, false, false] rfl rfl (by kernel_rfl) (fun _ _ _ h => h) (Or.inl ⟨by rfl, ?_⟩) ?_ ?_
  rotate_left
  ·intro w'
   go_simp
   with_reducible rfl
  rotate_left
  ·simp only [Act.put, List.setIfInBounds_toArray, List.set_cons_zero, List.set_cons_succ, i64_w, i32_w]
   rfl
  refine take_ (i := 1) (N := (some 6)) (v := ?_) (a' := ?_) #[true, true, true, true, true, false, false, false, false, false, false, false, false] rfl rfl (by kernel_rfl) (fun _ _ _ h => h) (Or.inl ⟨by rfl, ?_⟩) hHeld ?_ ?_
  rotate_left
  ·rintro w' hs
   obtain ⟨o0, o1, o34, o35, o36⟩ := hs.op
   go_simp
   with_reducible rfl
  rotate_left
  ·simp only [Act.put, List.setIfInBounds_toArray, List.set_cons_zero, List.set_cons_succ, i64_w, i32_w]
   rfl
  refine take_ (i := 5) (N := (some 10)) (v := ?_) (a' := ?_) #[true, true, true, true, true, true, false, false, false, false, false, false, false] rfl rfl (by kernel_rfl) (fun _ _ _ h => h) (Or.inl ⟨by rfl, ?_⟩) hHeld ?_ ?_
  rotate_left
  ·rintro w' hs
   obtain ⟨s0, s1, s2, s3, s4, sf⟩ := hs.nx.cells
   go_simp
   with_reducible rfl
  rotate_left
  ·simp only [Act.put, List.setIfInBounds_toArray, List.set_cons_zero, List.set_cons_succ, i64_w, i32_w]
   rfl
  refine pure_ (i := 6) (N := (some 11)) (v := ?_) (a' := ?_) #[true, true, true, true, true, true, true, false, false, false, false, false, false] rfl rfl (by kernel_rfl) (fun _ _ _ h => h) (Or.inl ⟨by rfl, ?_⟩) ?_ ?_
  rotate_left
  ·intro w'
   go_simp
   with_reducible rfl
  rotate_left
  ·simp only [Act.put, List.setIfInBounds_toArray, List.set_cons_zero, List.set_cons_succ, i64_w, i32_w]
   rfl
  refine pure_ (i := 7) (N := (some 12)) (v := ?_) (a' := ?_) #[true, true, true, true, true, true, true, true, false, false, false, false, false] rfl rfl (by kernel_rfl) (fun _ _ _ h => h) (Or.inl ⟨by rfl, ?_⟩) ?_ ?_
  rotate_left
  ·intro w'
   go_simp
   with_reducible rfl
  rotate_left
  ·simp only [Act.put, List.setIfInBounds_toArray, List.set_cons_zero, List.set_cons_succ, i64_w, i32_w]
   rfl
  refine pure_ (i := 8) (N := (some 13)) (v := undef) (a' := ?_) #[true, true, true, true, true, true, true, true, true, false, false, false, false] rfl rfl (by kernel_rfl) (fun _ _ _ h => h) (Or.inr ⟨by rfl, rfl⟩) ?_ ?_
  rotate_left
  ·simp only [Act.put, List.setIfInBounds_toArray, List.set_cons_zero, List.set_cons_succ, i64_w, i32_w]
   rfl
  refine pure_ (i := 9) (N := (some 14)) (v := undef) (a' := ?_) #[true, true, true, true, true, true, true, true, true, true, false, false, false] rfl rfl (by kernel_rfl) (fun _ _ _ h => h) (Or.inr ⟨by rfl, rfl⟩) ?_ ?_
  rotate_left
  ·simp only [Act.put, List.setIfInBounds_toArray, List.set_cons_zero, List.set_cons_succ, i64_w, i32_w]
   rfl
  refine pure_ (i := 10) (N := (some 15)) (v := undef) (a' := ?_) #[true, true, true, true, true, true, true, true, true, true, true, false, false] rfl rfl (by kernel_rfl) (fun _ _ _ h => h) (Or.inr ⟨by rfl, rfl⟩) ?_ ?_
  rotate_left
  ·simp only [Act.put, List.setIfInBounds_toArray, List.set_cons_zero, List.set_cons_succ, i64_w, i32_w]
   rfl
  refine pure_ (i := 11) (N := (some 16)) (v := undef) (a' := ?_) #[true, true, true, true, true, true, true, true, true, true, true, true, false] rfl rfl (by kernel_rfl) (fun _ _ _ h => h) (Or.inr ⟨by rfl, rfl⟩) ?_ ?_
  rotate_left
  ·simp only [Act.put, List.setIfInBounds_toArray, List.set_cons_zero, List.set_cons_succ, i64_w, i32_w]
   rfl
  refine pure_ (i := 12) (N := (some 17)) (v := ?_) (a' := ?_) #[true, true, true, true, true, true, true, true, true, true, true, true, true] rfl rfl (by kernel_rfl) (fun _ _ _ h => h) (Or.inl ⟨by rfl, ?_⟩) ?_ ?_
  rotate_left
  ·intro w'
   go_simp
   with_reducible rfl
  rotate_left
  ·simp only [Act.put, List.setIfInBounds_toArray, List.set_cons_zero, List.set_cons_succ, i64_w, i32_w]
   rfl
  refine done_ (by kernel_rfl) ?_
  go_wp2
  go_ret
  exact hHeld.post B 9 (by decide)
 ·have d1 : decide (o.at_ ≤ B.clock) = false := decide_eq_false e1
  cases hnum : number o.at_ with
  | false =>
   have hX : advanceOf B o = (B, 9) := by unfold advanceOf; rw [if_pos (.inr hnum)]
   rw [hX]
   clear e1 hX
   go_enter Tryz.func84, Tryz.ntmps84
   go_upto_region 1 with fail
   rw [← hW0]
   clear hW0
   refine start_ (n := 13) (S := fun W => OnBook w W base q B A1 c1 A2 c2 w.heap.size (encO o) 36) (ds := []) #[false, false, false, false, false, false, false, false, false, false, false, false, false] (by kernel_rfl) rfl rfl HS.out.drew (fun hHeld => ?_)
   generalize World.drew _ = w5 at hHeld ⊢
   refine pure_ (i := 0) (N := (some 5)) (v := ?_) (a' := ?_) #[true, false, false, false, false, false, false, false, false, false, false, false, false] rfl rfl (by kernel_rfl) (fun _ _ _ h => h) (Or.inl ⟨by rfl, ?_⟩) ?_ ?_
   rotate_left
   ·intro w'
    go_simp
    with_reducible rfl
   rotate_left
   ·simp only [Act.put, List.setIfInBounds_toArray, List.set_cons_zero, List.set_cons_succ, i64_w, i32_w]
    rfl
   refine pure_ (i := 2) (N := (some 7)) (v := ?_) (a' := ?_) #[true, false, true, false, false, false, false, false, false, false, false, false, false] rfl rfl (by kernel_rfl) (fun _ _ _ h => h) (Or.inl ⟨by rfl, ?_⟩) ?_ ?_
   rotate_left
   ·intro w'
    go_simp
    with_reducible rfl
   rotate_left
   ·simp only [Act.put, List.setIfInBounds_toArray, List.set_cons_zero, List.set_cons_succ, i64_w, i32_w]
    rfl
   refine pure_ (i := 3) (N := (some 8)) (v := ?_) (a' := ?_) #[true, false, true, true, false, false, false, false, false, false, false, false, false] rfl rfl (by kernel_rfl) (fun _ _ _ h => h) (Or.inl ⟨by rfl, ?_⟩) ?_ ?_
   rotate_left
   ·intro w'
    go_simp
    with_reducible rfl
   rotate_left
   ·simp only [Act.put, List.setIfInBounds_toArray, List.set_cons_zero, List.set_cons_succ, i64_w, i32_w]
    rfl
   refine pure_ (i := 4) (N := (some 9)) (v := ?_) (a' := ?_) #[true, false, true, true, true, false, false, false, false, false, false, false, false] rfl rfl (by kernel_rfl) (fun _ _ _ h => h) (Or.inl ⟨by rfl, ?_⟩) ?_ ?_
   rotate_left
   ·intro w'
    go_simp
    with_reducible rfl
   rotate_left
   ·simp only [Act.put, List.setIfInBounds_toArray, List.set_cons_zero, List.set_cons_succ, i64_w, i32_w]
    rfl
   refine take_ (i := 1) (N := (some 6)) (v := ?_) (a' := ?_) #[true, true, true, true, true, false, false, false, false, false, false, false, false] rfl rfl (by kernel_rfl) (fun _ _ _ h => h) (Or.inl ⟨by rfl, ?_⟩) hHeld ?_ ?_
   rotate_left
   ·rintro w' hs
    obtain ⟨o0, o1, o34, o35, o36⟩ := hs.op
    go_simp
    with_reducible rfl
   rotate_left
   ·simp only [Act.put, List.setIfInBounds_toArray, List.set_cons_zero, List.set_cons_succ, i64_w, i32_w]
    rfl
   refine take_ (i := 5) (N := (some 10)) (v := ?_) (a' := ?_) #[true, true, true, true, true, true, false, false, false, false, false, false, false] rfl rfl (by kernel_rfl) (fun _ _ _ h => h) (Or.inl ⟨by rfl, ?_⟩) hHeld ?_ ?_
   rotate_left
   ·rintro w' hs
    obtain ⟨s0, s1, s2, s3, s4, sf⟩ := hs.nx.cells
    go_simp
    with_reducible rfl
   rotate_left
   ·simp only [Act.put, List.setIfInBounds_toArray, List.set_cons_zero, List.set_cons_succ, i64_w, i32_w]
    rfl
   refine pure_ (i := 6) (N := (some 11)) (v := ?_) (a' := ?_) #[true, true, true, true, true, true, true, false, false, false, false, false, false] rfl rfl (by kernel_rfl) (fun _ _ _ h => h) (Or.inl ⟨by rfl, ?_⟩) ?_ ?_
   rotate_left
   ·intro w'
    go_simp
    with_reducible rfl
   rotate_left
   ·simp only [Act.put, List.setIfInBounds_toArray, List.set_cons_zero, List.set_cons_succ, i64_w, i32_w]
    rfl
   refine pure_ (i := 7) (N := (some 12)) (v := ?_) (a' := ?_) #[true, true, true, true, true, true, true, true, false, false, false, false, false] rfl rfl (by kernel_rfl) (fun _ _ _ h => h) (Or.inl ⟨by rfl, ?_⟩) ?_ ?_
   rotate_left
   ·intro w'
    go_simp
    with_reducible rfl
   rotate_left
   ·simp only [Act.put, List.setIfInBounds_toArray, List.set_cons_zero, List.set_cons_succ, i64_w, i32_w]
    rfl
   refine pure_ (i := 8) (N := (some 13)) (v := ?_) (a' := ?_) #[true, true, true, true, true, true, true, true, true, false, false, false, false] rfl rfl (by kernel_rfl) (fun _ _ _ h => h) (Or.inl ⟨by rfl, ?_⟩) ?_ ?_
   rotate_left
   ·intro w'
    go_simp
    with_reducible rfl
   rotate_left
   ·simp only [Act.put, List.setIfInBounds_toArray, List.set_cons_zero, List.set_cons_succ, i64_w, i32_w]
    rfl
   refine take_ (i := 9) (N := (some 14)) (v := ?_) (a' := ?_) #[true, true, true, true, true, true, true, true, true, true, false, false, false] rfl rfl (by kernel_rfl) (fun _ _ _ h => h) (Or.inl ⟨by rfl, ?_⟩) hHeld ?_ ?_
   rotate_left
   ·rintro w' hs
    obtain ⟨o0, o1, o34, o35, o36⟩ := hs.op
    go_simp
    with_reducible rfl
   rotate_left
   ·simp only [Act.put, List.setIfInBounds_toArray, List.set_cons_zero, List.set_cons_succ, i64_w, i32_w]
    rfl
   refine one_ (i := 10) (N := (some 15)) #[true, true, true, true, true, true, true, true, true, true, true, false, false] rfl rfl (by kernel_rfl) (by decide) (fun K hK => ?_)
   refine goes_ Tryz.func47 (by kernel_rfl) rfl #[.int .i64 o.at_] (by rfl) rfl rfl (by (try simp only [List.map_toArray, List.map_cons, List.map_nil]); first | done | rfl) ?_
   refine (number_any o.at_ _).mono ?_
   rintro e w5c ⟨rfl, rfl⟩
   refine ⟨_, rfl, ?_⟩
   have hS_ := hHeld
   refine hK.out _ _ hS_ (fun hHeld => ?_)
   clear hK K
   refine norm_ (a' := ?_) ?_ ?_
   rotate_left
   ·show Act.put _ (some 15) _ = _
    simp only [Act.put, List.setIfInBounds_toArray, List.set_cons_zero, List.set_cons_succ, i64_w, i32_w]
    rfl
   refine pure_ (i := 11) (N := (some 16)) (v := ?_) (a' := ?_) #[true, true, true, true, true, true, true, true, true, true, true, true, false] rfl rfl (by kernel_rfl) (fun _ _ _ h => h) (Or.inl ⟨by rfl, ?_⟩) ?_ ?_
   rotate_left
   ·intro w'
    go_simp
    with_reducible rfl
   rotate_left
   ·simp only [Act.put, List.setIfInBounds_toArray, List.set_cons_zero, List.set_cons_succ, i64_w, i32_w]
    rfl
   refine pure_ (i := 12) (N := (some 17)) (v := ?_) (a' := ?_) #[true, true, true, true, true, true, true, true, true, true, true, true, true] rfl rfl (by kernel_rfl) (fun _ _ _ h => h) (Or.inl ⟨by rfl, ?_⟩) ?_ ?_
   rotate_left
   ·intro w'
    go_simp
    with_reducible rfl
   rotate_left
   ·simp only [Act.put, List.setIfInBounds_toArray, List.set_cons_zero, List.set_cons_succ, i64_w, i32_w]
    rfl
   refine done_ (by kernel_rfl) ?_
   go_wp2
   go_ret
   exact hHeld.post B 9 (by decide)
  | true =>
   have hX : advanceOf B o = ({ B with clock := o.at_ }, 0) := by unfold advanceOf; rw [if_neg (fun hc => hc.elim e1 (fun h => by rw [hnum] at h; cases h))]
   rw [hX]
   clear e1 hX
   go_enter Tryz.func84, Tryz.ntmps84
   go_upto_region 1 with fail
   rw [← hW0]
   clear hW0
   refine start_ (n := 13) (S := fun W => OnBook w W base q B A1 c1 A2 c2 w.heap.size (encO o) 36) (ds := []) #[false, false, false, false, false, false, false, false, false, false, false, false, false] (by kernel_rfl) rfl rfl HS.out.drew (fun hHeld => ?_)
   generalize World.drew _ = w5 at hHeld ⊢
   refine pure_ (i := 0) (N := (some 5)) (v := ?_) (a' := ?_) #[true, false, false, false, false, false, false, false, false, false, false, false, false] rfl rfl (by kernel_rfl) (fun _ _ _ h => h) (Or.inl ⟨by rfl, ?_⟩) ?_ ?_
   rotate_left
   ·intro w'
    go_simp
    with_reducible rfl
   rotate_left
   ·simp only [Act.put, List.setIfInBounds_toArray, List.set_cons_zero, List.set_cons_succ, i64_w, i32_w]
    rfl
   refine pure_ (i := 2) (N := (some 7)) (v := ?_) (a' := ?_) #[true, false, true, false, false, false, false, false, false, false, false, false, false] rfl rfl (by kernel_rfl) (fun _ _ _ h => h) (Or.inl ⟨by rfl, ?_⟩) ?_ ?_
   rotate_left
   ·intro w'
    go_simp
    with_reducible rfl
   rotate_left
   ·simp only [Act.put, List.setIfInBounds_toArray, List.set_cons_zero, List.set_cons_succ, i64_w, i32_w]
    rfl
   refine pure_ (i := 3) (N := (some 8)) (v := ?_) (a' := ?_) #[true, false, true, true, false, false, false, false, false, false, false, false, false] rfl rfl (by kernel_rfl) (fun _ _ _ h => h) (Or.inl ⟨by rfl, ?_⟩) ?_ ?_
   rotate_left
   ·intro w'
    go_simp
    with_reducible rfl
   rotate_left
   ·simp only [Act.put, List.setIfInBounds_toArray, List.set_cons_zero, List.set_cons_succ, i64_w, i32_w]
    rfl
   refine pure_ (i := 4) (N := (some 9)) (v := ?_) (a' := ?_) #[true, false, true, true, true, false, false, false, false, false, false, false, false] rfl rfl (by kernel_rfl) (fun _ _ _ h => h) (Or.inl ⟨by rfl, ?_⟩) ?_ ?_
   rotate_left
   ·intro w'
    go_simp
    with_reducible rfl
   rotate_left
   ·simp only [Act.put, List.setIfInBounds_toArray, List.set_cons_zero, List.set_cons_succ, i64_w, i32_w]
    rfl
   refine take_ (i := 1) (N := (some 6)) (v := ?_) (a' := ?_) #[true, true, true, true, true, false, false, false, false, false, false, false, false] rfl rfl (by kernel_rfl) (fun _ _ _ h => h) (Or.inl ⟨by rfl, ?_⟩) hHeld ?_ ?_
   rotate_left
   ·rintro w' hs
    obtain ⟨o0, o1, o34, o35, o36⟩ := hs.op
    go_simp
    with_reducible rfl
   rotate_left
   ·simp only [Act.put, List.setIfInBounds_toArray, List.set_cons_zero, List.set_cons_succ, i64_w, i32_w]
    rfl
   refine take_ (i := 5) (N := (some 10)) (v := ?_) (a' := ?_) #[true, true, true, true, true, true, false, false, false, false, false, false, false] rfl rfl (by kernel_rfl) (fun _ _ _ h => h) (Or.inl ⟨by rfl, ?_⟩) hHeld ?_ ?_
   rotate_left
   ·rintro w' hs
    obtain ⟨s0, s1, s2, s3, s4, sf⟩ := hs.nx.cells
    go_simp
    with_reducible rfl
   rotate_left
   ·simp only [Act.put, List.setIfInBounds_toArray, List.set_cons_zero, List.set_cons_succ, i64_w, i32_w]
    rfl
   refine pure_ (i := 6) (N := (some 11)) (v := ?_) (a' := ?_) #[true, true, true, true, true, true, true, false, false, false, false, false, false] rfl rfl (by kernel_rfl) (fun _ _ _ h => h) (Or.inl ⟨by rfl, ?_⟩) ?_ ?_
   rotate_left
   ·intro w'
    go_simp
    with_reducible rfl
   rotate_left
   ·simp only [Act.put, List.setIfInBounds_toArray, List.set_cons_zero, List.set_cons_succ, i64_w, i32_w]
    rfl
   refine pure_ (i := 7) (N := (some 12)) (v := ?_) (a' := ?_) #[true, true, true, true, true, true, true, true, false, false, false, false, false] rfl rfl (by kernel_rfl) (fun _ _ _ h => h) (Or.inl ⟨by rfl, ?_⟩) ?_ ?_
   rotate_left
   ·intro w'
    go_simp
    with_reducible rfl
   rotate_left
   ·simp only [Act.put, List.setIfInBounds_toArray, List.set_cons_zero, List.set_cons_succ, i64_w, i32_w]
    rfl
   refine pure_ (i := 8) (N := (some 13)) (v := ?_) (a' := ?_) #[true, true, true, true, true, true, true, true, true, false, false, false, false] rfl rfl (by kernel_rfl) (fun _ _ _ h => h) (Or.inl ⟨by rfl, ?_⟩) ?_ ?_
   rotate_left
   ·intro w'
    go_simp
    with_reducible rfl
   rotate_left
   ·simp only [Act.put, List.setIfInBounds_toArray, List.set_cons_zero, List.set_cons_succ, i64_w, i32_w]
    rfl
   refine take_ (i := 9) (N := (some 14)) (v := ?_) (a' := ?_) #[true, true, true, true, true, true, true, true, true, true, false, false, false] rfl rfl (by kernel_rfl) (fun _ _ _ h => h) (Or.inl ⟨by rfl, ?_⟩) hHeld ?_ ?_
   rotate_left
   ·rintro w' hs
    obtain ⟨o0, o1, o34, o35, o36⟩ := hs.op
    go_simp
    with_reducible rfl
   rotate_left
   ·simp only [Act.put, List.setIfInBounds_toArray, List.set_cons_zero, List.set_cons_succ, i64_w, i32_w]
    rfl
   refine one_ (i := 10) (N := (some 15)) #[true, true, true, true, true, true, true, true, true, true, true, false, false] rfl rfl (by kernel_rfl) (by decide) (fun K hK => ?_)
   refine goes_ Tryz.func47 (by kernel_rfl) rfl #[.int .i64 o.at_] (by rfl) rfl rfl (by (try simp only [List.map_toArray, List.map_cons, List.map_nil]); first | done | rfl) ?_
   refine (number_any o.at_ _).mono ?_
   rintro e w5c ⟨rfl, rfl⟩
   refine ⟨_, rfl, ?_⟩
   have hS_ := hHeld
   refine hK.out _ _ hS_ (fun hHeld => ?_)
   clear hK K
   refine norm_ (a' := ?_) ?_ ?_
   rotate_left
   ·show Act.put _ (some 15) _ = _
    simp only [Act.put, List.setIfInBounds_toArray, List.set_cons_zero, List.set_cons_succ, i64_w, i32_w]
    rfl
   refine pure_ (i := 11) (N := (some 16)) (v := ?_) (a' := ?_) #[true, true, true, true, true, true, true, true, true, true, true, true, false] rfl rfl (by kernel_rfl) (fun _ _ _ h => h) (Or.inl ⟨by rfl, ?_⟩) ?_ ?_
   rotate_left
   ·intro w'
    go_simp
    with_reducible rfl
   rotate_left
   ·simp only [Act.put, List.setIfInBounds_toArray, List.set_cons_zero, List.set_cons_succ, i64_w, i32_w]
    rfl
   refine pure_ (i := 12) (N := (some 17)) (v := ?_) (a' := ?_) #[true, true, true, true, true, true, true, true, true, true, true, true, true] rfl rfl (by kernel_rfl) (fun _ _ _ h => h) (Or.inl ⟨by rfl, ?_⟩) ?_ ?_
   rotate_left
   ·intro w'
    go_simp
    with_reducible rfl
   rotate_left
   ·simp only [Act.put, List.setIfInBounds_toArray, List.set_cons_zero, List.set_cons_succ, i64_w, i32_w]
    rfl
   refine done_ (by kernel_rfl) ?_
   obtain ⟨o0, o1, o34, o35, o36⟩ := hHeld.op
   obtain ⟨s0, s1, s2, s3, s4, sf⟩ := hHeld.nx.cells
   have HH := Aside0.mk hHeld
   clear hHeld
   go_wp2
   go_ret
   exact ⟨rfl, fun _ => ⟨_, _, _, _, HH.out.nx.clock o.at_⟩, HH.out.fr.setCell HH.out.nx.low _, by simpa using HH.out.fr.size⟩
set_option maxHeartbeats 4000000 in
set_option maxRecDepth 100000 in
theorem rules_any (w : World) (base q : Nat) (B : Book) (A1 : Option Addr) (c1 : Nat) (A2 : Option Addr) (c2 : Nat) (o : Op) (h : NextIs w base q B A1 c1 A2 c2) (hb : base ≤ w.heap.size) (hx : PA.LaidW w) :
  Calls Tryz.prog 83 #[.pointer (some ⟨q, 0, none⟩), .agg (encO o).toArray] w fun e w' => OpPost w base q ({ B with acl := o.text }, (Acl.parseOf o.text).2) e w' := by
 obtain ⟨W0, hW0⟩ : ∃ W0, W0 = w.alloc (.cells (encO o).toArray 36) := ⟨_, rfl⟩
 have HS : Aside0 (OnBook w W0 base q B A1 c1 A2 c2 w.heap.size (encO o) 36) := ⟨by rw [hW0]; exact OnBook.start w h hb _ _⟩
 have hx0 : PA.LaidW W0 := hx.below (by rw [hW0]; exact (Below.refl _ w).alloc (Nat.le_refl _) _)
 obtain ⟨r1, r2, hr⟩ : ∃ r1 r2, Acl.parseOf o.text = (r1, r2) := ⟨_, _, rfl⟩
 rw [hr]
 have HC := Aside0.mk (PA.acl_Parse.calls ⟨o.text.toArray⟩ r1 r2 W0 hx0 (by unfold PA.acl_Parse.f; rw [hr]))
 obtain ⟨o0, o1, o34, o35, o36⟩ := HS.out.op
 clear h hr hx hx0
 go_enter Tryz.func83, Tryz.ntmps83
 go_upto_region 1 with fail
 rw [← hW0]
 clear hW0
 go_wp2_with fail
 refine HC.out.mono ?_
 rintro e w1 ⟨v0, rfl, -, hb1⟩
 have HS1 := Aside0.mk (HS.out.later hb1)
 obtain ⟨o0, o1, o34, o35, o36⟩ := HS1.out.op
 obtain ⟨s0, s1, s2, s3, s4, sf⟩ := HS1.out.nx.cells
 clear hb1
 go_wp2_with fail
 go_ret
 exact ⟨rfl, fun _ => ⟨_, _, _, _, HS1.out.nx.acl o.text⟩, HS1.out.fr.setCell HS1.out.nx.low _, by simpa using HS1.out.fr.size⟩
end Go.Proofs.YthnpiimiimiijaaGreatDoor.Dir
/- revoke and rotate, of an op's book. -/
namespace Go.Proofs.YthnpiimiimiijaaGreatDoor.Dir
open Go Go.RowKit Go.Proofs Go.Proofs.YthnpiimiimiijaaGreatDoorW.PrintWords Go.Proofs.YthnpiimiimiijaaGreatDoorW.PrintLast Go.Proofs.YthnpiimiimiijaaGreatDoorW.PrintMore
set_option linter.unusedVariables false
set_option linter.unusedSimpArgs false
theorem set_here {l : List Dev} {i : Nat} {d d' : Dev} (h : l[i]? = some d) : (l.set i d')[i]? = some d' := by rw [List.getElem?_set, if_pos rfl, if_pos (List.getElem?_eq_some_iff.1 h).1]
theorem below_grown {w w' : World} {base : Nat} {r : Option Nat} (h : w.grownBy w' r) (hb : base ≤ w.heap.size) (hr : ∀ k, r = some k → base ≤ k) : Below base w w' := (Below.refl _ w).grown h hb hr
theorem own_low {w : World} {base : Nat} {e : TypeId} {size n c g : Nat} {xs : List Value} (h : w.ownsRow base e size (.slice (some ⟨g, 0, none⟩) n c) n xs) : ∀ k, some g = some k → base ≤ k := fun k hk => own_base h k hk
set_option maxHeartbeats 4000000 in
set_option maxRecDepth 100000 in
theorem revoke_any (w : World) (base q : Nat) (B : Book) (A1 : Option Addr) (c1 : Nat) (A2 : Option Addr) (c2 : Nat) (o : Op) (h : NextIs w base q B A1 c1 A2 c2) (hw : WF B) (hb : base ≤ w.heap.size) (h1 : -9223372036854775808 ≤ o.node) (h2 : o.node ≤ 9223372036854775807) :
  Calls Tryz.prog 82 #[.pointer (some ⟨q, 0, none⟩), .agg (encO o).toArray] w fun e w' => OpPost w base q (revokeOf B o) e w' := by
 obtain ⟨W0, hW0⟩ : ∃ W0, W0 = w.alloc (.cells (encO o).toArray 36) := ⟨_, rfl⟩
 have HS : Aside0 (OnBook w W0 base q B A1 c1 A2 c2 w.heap.size (encO o) 36) := ⟨by rw [hW0]; exact OnBook.start w h hb _ _⟩
 have hlv := live_any W0 base q B A1 c1 A2 c2 o.node HS.out.nx hw h1 h2
 have HWF := Aside0.mk hw
 obtain ⟨o0, o1, o34, o35, o36⟩ := HS.out.op
 clear h h1 h2 hw
 by_cases hl : liveOf B o.node = 0
 ·have hX : revokeOf B o = ({ B with devs := B.devs.set (posD B.devs o.node) { devAt B o.node with rev := true } }, 0) := by unfold revokeOf; rw [if_pos hl]
  obtain ⟨g1, g2, g3, g4⟩ := has_at HWF.out.devs (live_ok hl).1
  simp only [if_pos hl] at hlv
  have HLV := Aside0.mk hlv
  have G2 := Aside0.mk g2
  rw [hX]
  clear hl hX hlv g1 g2 g3 g4
  go_enter Tryz.func82, Tryz.ntmps82
  go_upto_region 1 with fail
  rw [← hW0]
  clear hW0
  go_wp2_with fail
  refine HLV.out.mono ?_
  rintro e w1 ⟨⟨g, rfl, rfl⟩, hb1⟩
  have HS1 := Aside0.mk (HS.out.later hb1)
  obtain ⟨w2, st, ho, hg⟩ := put_dev HS1.out.nx.lists.1 rfl 4 1 Tryz.sizeOf4 (posD B.devs o.node) (devAt B o.node) { devAt B o.node with rev := true } G2.out 34 (.bool true) [.bool true] rfl rfl (by decide) (by intro u hu; simp at hu; subst hu; rfl) (encD_rev _ true)
  have ST := Aside0.mk st
  have HP := Aside0.mk (And.intro ho hg)
  clear st ho hg hb1
  go_wp2_with ((with_reducible refine at_store 4 (.tmp 18) (.const (.bool true)) ?_); refine wpList_storeK rfl 4 (.tmp 18) (.const (.bool true)) rfl rfl _ _ rfl rfl _ ST.out ?_)
  go_ret
  have hfr := below_grown HP.out.2 HS1.out.base_le (own_low HS1.out.nx.lists.1)
  exact ⟨rfl, fun _ => ⟨_, _, _, _, next_devs HS1.out.nx _ (by rw [List.length_set]) HP.out.1 HP.out.2⟩, HS1.out.fr.trans hfr, (HS1.out.fr.trans hfr).size⟩
 ·have hX : revokeOf B o = (B, liveOf B o.node) := by unfold revokeOf; rw [if_neg hl]
  simp only [if_neg hl] at hlv
  have HLV := Aside0.mk hlv
  rw [hX]
  have hq0 : (liveOf B o.node == 0) = false := by rw [beq_eq_false_iff_ne]; exact hl
  have HL := Aside0.mk hl
  clear hl hX hlv
  generalize liveOf B o.node = le at *
  go_enter Tryz.func82, Tryz.ntmps82
  go_upto_region 1 with fail
  rw [← hW0]
  clear hW0
  go_wp2_with fail
  refine HLV.out.mono ?_
  rintro e w1 ⟨rfl, hb1⟩
  have HS1 := Aside0.mk (HS.out.later hb1)
  clear hb1
  go_wp2_with fail
  go_ret
  exact HS1.out.post B le HL.out
set_option maxHeartbeats 4000000 in
set_option maxRecDepth 100000 in
theorem rotate_any (w : World) (base q : Nat) (B : Book) (A1 : Option Addr) (c1 : Nat) (A2 : Option Addr) (c2 : Nat) (o : Op) (h : NextIs w base q B A1 c1 A2 c2) (hw : WF B) (hb : base ≤ w.heap.size) (h1 : -9223372036854775808 ≤ o.node) (h2 : o.node ≤ 9223372036854775807) :
  Calls Tryz.prog 81 #[.pointer (some ⟨q, 0, none⟩), .agg (encO o).toArray] w fun e w' => OpPost w base q (rotateOf B o) e w' := by
 obtain ⟨W0, hW0⟩ : ∃ W0, W0 = w.alloc (.cells (encO o).toArray 36) := ⟨_, rfl⟩
 have HS : Aside0 (OnBook w W0 base q B A1 c1 A2 c2 w.heap.size (encO o) 36) := ⟨by rw [hW0]; exact OnBook.start w h hb _ _⟩
 have hlv := live_any W0 base q B A1 c1 A2 c2 o.node HS.out.nx hw h1 h2
 have HWF := Aside0.mk hw
 obtain ⟨o0, o1, o34, o35, o36⟩ := HS.out.op
 clear h h1 h2 hw
 by_cases hl : liveOf B o.node = 0
 ·obtain ⟨g1, g2, g3, g4⟩ := has_at HWF.out.devs (live_ok hl).1
  have hrv := (live_ok hl).2
  simp only [if_pos hl] at hlv
  have HLV := Aside0.mk hlv
  have G2 := Aside0.mk g2
  have G3 := Aside0.mk (And.intro g3 hrv)
  by_cases hfr : freshOf B o true = 0
  ·have hX : rotateOf B o = ({ spendOf B (devAt B o.node).key with devs := B.devs.set (posD B.devs o.node) (devOf o) }, 0) := by unfold rotateOf; rw [if_pos hl, if_pos hfr]
   rw [hX]
   have HFR := Aside0.mk hfr
   clear hl hX hlv g1 g2 g3 g4 hrv hfr
   go_enter Tryz.func81, Tryz.ntmps81
   go_upto_region 1 with fail
   rw [← hW0]
   clear hW0
   go_wp2_with fail
   refine HLV.out.mono ?_
   rintro e w1 ⟨⟨g, rfl, rfl⟩, hb1⟩
   have HS1 := Aside0.mk (HS.out.later hb1)
   have lo := Aside0.mk (run_loadAtK Tryz.prog w1 36 37 Tryz.isAgg36 Tryz.sizeOf36 w.heap.size 0 (encO o) (encO_len o) (cells_of_heap HS1.out.bx))
   have HFC := Aside0.mk (fresh_any w1 base q B (some ⟨g, 0, none⟩) c1 A2 c2 o true HS1.out.nx HWF.out.few HS1.out.base_le)
   clear hb1 o0 o1 o34 o35 o36
   go_wp2_with ((with_reducible refine at_load 36 (.tmp 3) ?_); refine wpList_loadK rfl 36 (.tmp 3) rfl _ rfl _ lo.out ?_)
   refine HFC.out.mono ?_
   rintro e w2 ⟨rfl, hob⟩
   rw [HFR.out]
   have HS2 := Aside0.mk (HS1.out.later hob.all)
   have lk := Aside0.mk (run_loadAtK Tryz.prog w2 34 32 Tryz.isAgg34 Tryz.sizeOf34 g (posD B.devs o.node * 35 + 1) (encK (devAt B o.node).key) (encK_len _) (fun j v hj => by
    have h3 := dev_cell HS2.out.nx G2.out (keyOfD (devAt B o.node) j v hj)
    rw [← Nat.add_assoc] at h3
    exact h3))
   have HSP := Aside0.mk (spend_any w2 base q B (some ⟨g, 0, none⟩) c1 A2 c2 (devAt B o.node).key HS2.out.nx HWF.out.spent HWF.out.len HS2.out.base_le)
   clear hob
   go_wp2_with ((with_reducible refine at_load 34 (.tmp 25) ?_); refine wpList_loadK rfl 34 (.tmp 25) rfl _ rfl _ lk.out ?_)
   refine HSP.out.mono ?_
   rintro e w3 ⟨rfl, ⟨A2', c2', hn3⟩, hf3, hs3, hk3⟩
   have hbx3 : w3.heap[w.heap.size]? = some (.cells (encO o).toArray 36 (0, 0)) := (hk3 _ (Array.getElem?_eq_some_iff.1 HS2.out.bx).1 (fun e => by have h4 := HS2.out.nx.box; rw [← e, HS2.out.bx] at h4; have h5 := Option.some.inj h4; injection h5 with _ h6; exact absurd h6 (by decide)) (fun e => own_ne HS2.out.nx.lists.2.1 HS2.out.bx (by decide) e)).trans HS2.out.bx
   have HT : Aside0 (OnBook w3 w3 base q (spendOf B (devAt B o.node).key) (some ⟨g, 0, none⟩) c1 A2' c2' w.heap.size (encO o) 36) := ⟨⟨hn3, hbx3, Below.refl _ _, Nat.le_trans HS2.out.base_le hs3⟩⟩
   have HF3 := Aside0.mk hf3
   clear hn3 hf3 hs3 hk3 hbx3
   go_wp2_with fail
   refine start_ (n := 12) (S := fun W => W.heap[w.heap.size]? = some (.cells (encO o).toArray 36 (0, 0))) (ds := []) #[false, false, false, false, false, false, false, false, false, false, false, false] (by kernel_rfl) rfl rfl HT.out.drew.bx (fun hHeld => ?_)
   skip
   refine pure_ (i := 0) (N := (some 28)) (v := ?_) (a' := ?_) #[true, false, false, false, false, false, false, false, false, false, false, false] rfl rfl (by kernel_rfl) (fun _ _ _ h => h) (Or.inl ⟨by rfl, ?_⟩) ?_ ?_
   rotate_left
   ·intro w'
    go_simp
    with_reducible rfl
   rotate_left
   ·simp only [Act.put, List.setIfInBounds_toArray, List.set_cons_zero, List.set_cons_succ, i64_w, i32_w]
    rfl
   refine pure_ (i := 1) (N := (some 29)) (v := ?_) (a' := ?_) #[true, true, false, false, false, false, false, false, false, false, false, false] rfl rfl (by kernel_rfl) (fun _ _ _ h => h) (Or.inl ⟨by rfl, ?_⟩) ?_ ?_
   rotate_left
   ·intro w'
    go_simp
    with_reducible rfl
   rotate_left
   ·simp only [Act.put, List.setIfInBounds_toArray, List.set_cons_zero, List.set_cons_succ, i64_w, i32_w]
    rfl
   refine pure_ (i := 2) (N := (some 30)) (v := ?_) (a' := ?_) #[true, true, true, false, false, false, false, false, false, false, false, false] rfl rfl (by kernel_rfl) (fun _ _ _ h => h) (Or.inl ⟨by rfl, ?_⟩) ?_ ?_
   rotate_left
   ·intro w'
    go_simp
    with_reducible rfl
   rotate_left
   ·simp only [Act.put, List.setIfInBounds_toArray, List.set_cons_zero, List.set_cons_succ, i64_w, i32_w]
    rfl
   refine pure_ (i := 4) (N := (some 32)) (v := ?_) (a' := ?_) #[true, true, true, false, true, false, false, false, false, false, false, false] rfl rfl (by kernel_rfl) (fun _ _ _ h => h) (Or.inl ⟨by rfl, ?_⟩) ?_ ?_
   rotate_left
   ·intro w'
    go_simp
    with_reducible rfl
   rotate_left
   ·simp only [Act.put, List.setIfInBounds_toArray, List.set_cons_zero, List.set_cons_succ, i64_w, i32_w]
    rfl
   refine take_ (i := 3) (N := (some 31)) (v := _) (a' := ?_) #[true, true, true, true, true, false, false, false, false, false, false, false] rfl rfl (by kernel_rfl) (fun _ _ _ h => h) (Or.inl ⟨by rfl, fun w' hs => yields_load 34 (.tmp 30) _ rfl _ _ rfl _ (run_loadAtK Tryz.prog w' 34 32 Tryz.isAgg34 Tryz.sizeOf34 w.heap.size 2 (encK o.key) (encK_len _) (fun j v hj => by rw [cell_of_heap hs]; exact keyOfO o j v hj))⟩) hHeld ?_ ?_
   rotate_left
   ·simp only [Act.put, List.setIfInBounds_toArray, List.set_cons_zero, List.set_cons_succ, i64_w, i32_w]
    rfl
   refine pure_ (i := 6) (N := (some 34)) (v := ?_) (a' := ?_) #[true, true, true, true, true, false, true, false, false, false, false, false] rfl rfl (by kernel_rfl) (fun _ _ _ h => h) (Or.inl ⟨by rfl, ?_⟩) ?_ ?_
   rotate_left
   ·intro w'
    go_simp
    with_reducible rfl
   rotate_left
   ·simp only [Act.put, List.setIfInBounds_toArray, List.set_cons_zero, List.set_cons_succ, i64_w, i32_w]
    rfl
   refine pure_ (i := 7) (N := (some 35)) (v := ?_) (a' := ?_) #[true, true, true, true, true, false, true, true, false, false, false, false] rfl rfl (by kernel_rfl) (fun _ _ _ h => h) (Or.inl ⟨by rfl, ?_⟩) ?_ ?_
   rotate_left
   ·intro w'
    go_simp
    with_reducible rfl
   rotate_left
   ·simp only [Act.put, List.setIfInBounds_toArray, List.set_cons_zero, List.set_cons_succ, i64_w, i32_w]
    rfl
   refine take_ (i := 5) (N := (some 33)) (v := ?_) (a' := ?_) #[true, true, true, true, true, true, true, true, false, false, false, false] rfl rfl (by kernel_rfl) (fun _ _ _ h => h) (Or.inl ⟨by rfl, ?_⟩) hHeld ?_ ?_
   rotate_left
   ·rintro w' hs
    have o34 : w'.cell? ⟨w.heap.size, 34, none⟩ = some (.int .i64 o.exp) := by rw [cell_of_heap hs]; exact tailOfO o 0
    go_simp
    with_reducible rfl
   rotate_left
   ·simp only [Act.put, List.setIfInBounds_toArray, List.set_cons_zero, List.set_cons_succ, i64_w, i32_w]
    rfl
   obtain ⟨w6, st6, ho6, hg6⟩ := put_dev HT.out.drew.nx.lists.1 rfl 34 32 Tryz.sizeOf34 (posD B.devs o.node) (devAt B o.node) { devAt B o.node with key := o.key } G2.out 1 (.agg (encK o.key).toArray) (encK o.key) (by simp [Value.cells]) (encK_len _) (by decide) (encK_one _) (encD_key _ _)
   have ST6 := Aside0.mk st6
   clear st6
   refine one_ (i := 8) (N := none) #[true, true, true, true, true, true, true, true, true, false, false, false] rfl rfl (by kernel_rfl) (by decide) (fun K hK => ?_)
   refine store_ (w1 := w6) (by rfl) rfl ?_ ?_
   ·exact runs_store 34 (.tmp 35) (.tmp 31) _ rfl _ _ _ rfl rfl _ ST6.out
   have hS_ := (hg6.block w.heap.size (Array.getElem?_eq_some_iff.1 hHeld).1 (fun e => own_ne HT.out.drew.nx.lists.1 HT.out.drew.bx (by decide) e)).trans hHeld
   have HP6 := Aside0.mk (And.intro ho6 hg6)
   clear ho6 hg6
   refine hK.out _ _ hS_ (fun hHeld => ?_)
   clear hK K
   refine norm_ (a' := ?_) ?_ ?_
   rotate_left
   ·show Act.put _ none _ = _
    simp only [Act.put, List.setIfInBounds_toArray, List.set_cons_zero, List.set_cons_succ, i64_w, i32_w]
    rfl
   refine pure_ (i := 9) (N := (some 36)) (v := ?_) (a' := ?_) #[true, true, true, true, true, true, true, true, true, true, false, false] rfl rfl (by kernel_rfl) (fun _ _ _ h => h) (Or.inl ⟨by rfl, ?_⟩) ?_ ?_
   rotate_left
   ·intro w'
    go_simp
    with_reducible rfl
   rotate_left
   ·simp only [Act.put, List.setIfInBounds_toArray, List.set_cons_zero, List.set_cons_succ, i64_w, i32_w]
    rfl
   refine pure_ (i := 10) (N := (some 37)) (v := ?_) (a' := ?_) #[true, true, true, true, true, true, true, true, true, true, true, false] rfl rfl (by kernel_rfl) (fun _ _ _ h => h) (Or.inl ⟨by rfl, ?_⟩) ?_ ?_
   rotate_left
   ·intro w'
    go_simp
    with_reducible rfl
   rotate_left
   ·simp only [Act.put, List.setIfInBounds_toArray, List.set_cons_zero, List.set_cons_succ, i64_w, i32_w]
    rfl
   obtain ⟨w7, st7, ho7, hg7⟩ := put_dev HP6.out.1 (by rw [List.length_set]) 3 1 Tryz.sizeOf3 (posD B.devs o.node) ({ devAt B o.node with key := o.key } : Dev) ({ ({ devAt B o.node with key := o.key } : Dev) with exp := o.exp } : Dev) (set_here G2.out) 33 (.int .i64 o.exp) [.int .i64 o.exp] rfl rfl (by decide) (by intro u hu; simp at hu; subst hu; rfl) (encD_exp ({ devAt B o.node with key := o.key } : Dev) o.exp)
   have ST7 := Aside0.mk st7
   have HP7 := Aside0.mk (And.intro ho7 hg7)
   clear st7 ho7 hg7
   refine one_ (i := 11) (N := none) #[true, true, true, true, true, true, true, true, true, true, true, true] rfl rfl (by kernel_rfl) (by decide) (fun K hK => ?_)
   refine store_ (w1 := w7) (by rfl) rfl ?_ ?_
   ·exact runs_store 3 (.tmp 37) (.tmp 33) _ rfl _ _ _ rfl rfl _ ST7.out
   have hS_ := (HP7.out.2.block w.heap.size (Array.getElem?_eq_some_iff.1 hHeld).1 (fun e => own_ne HP6.out.1 hHeld (by decide) e)).trans hHeld
   refine hK.out _ _ hS_ (fun hHeld => ?_)
   clear hK K
   refine norm_ (a' := ?_) ?_ ?_
   rotate_left
   ·show Act.put _ none _ = _
    simp only [Act.put, List.setIfInBounds_toArray, List.set_cons_zero, List.set_cons_succ, i64_w, i32_w]
    rfl
   refine done_ (by kernel_rfl) ?_
   go_wp2
   go_ret
   have hd2 : ({ ({ devAt B o.node with key := o.key } : Dev) with exp := o.exp } : Dev) = devOf o := by
    have h5 := G3.out.1
    have h6 := G3.out.2
    cases hd : devAt B o.node with
    | mk nd ky ex rv =>
     rw [hd] at h5 h6
     simp only at h5 h6
     subst h5 h6
     rfl
   have hn7 := next_devs HT.out.drew.nx (B.devs.set (posD B.devs o.node) (devOf o)) (by rw [List.length_set]; rfl) (by have h7 := HP7.out.1; rw [List.set_set, hd2] at h7; exact h7) (grownBy_trans HP6.out.2 HP7.out.2)
   have hfr := below_grown (grownBy_trans HP6.out.2 HP7.out.2) HT.out.drew.base_le (own_low HT.out.drew.nx.lists.1)
   have hall := HS2.out.fr.trans (HF3.out.trans ((Below.refl base w3).drew.trans hfr))
   exact ⟨rfl, fun _ => ⟨_, _, _, _, hn7⟩, hall, hall.size⟩
  ·have hX : rotateOf B o = (B, freshOf B o true) := by unfold rotateOf; rw [if_pos hl, if_neg hfr]
   rw [hX]
   have hq0 : (freshOf B o true == 0) = false := by rw [beq_eq_false_iff_ne]; exact hfr
   have HFR := Aside0.mk hfr
   clear hl hX hlv g1 g2 g3 g4 hrv hfr
   go_enter Tryz.func81, Tryz.ntmps81
   go_upto_region 1 with fail
   rw [← hW0]
   clear hW0
   go_wp2_with fail
   refine HLV.out.mono ?_
   rintro e w1 ⟨⟨g, rfl, rfl⟩, hb1⟩
   have HS1 := Aside0.mk (HS.out.later hb1)
   have lo := Aside0.mk (run_loadAtK Tryz.prog w1 36 37 Tryz.isAgg36 Tryz.sizeOf36 w.heap.size 0 (encO o) (encO_len o) (cells_of_heap HS1.out.bx))
   have HFC := Aside0.mk (fresh_any w1 base q B (some ⟨g, 0, none⟩) c1 A2 c2 o true HS1.out.nx HWF.out.few HS1.out.base_le)
   clear hb1 o0 o1 o34 o35 o36
   go_wp2_with ((with_reducible refine at_load 36 (.tmp 3) ?_); refine wpList_loadK rfl 36 (.tmp 3) rfl _ rfl _ lo.out ?_)
   refine HFC.out.mono ?_
   rintro e w2 ⟨rfl, hob⟩
   have HS2 := Aside0.mk (HS1.out.later hob.all)
   clear hob
   go_wp2_with fail
   go_ret
   exact HS2.out.post B _ HFR.out
 ·have hX : rotateOf B o = (B, liveOf B o.node) := by unfold rotateOf; rw [if_neg hl]
  simp only [if_neg hl] at hlv
  have HLV := Aside0.mk hlv
  rw [hX]
  have hq0 : (liveOf B o.node == 0) = false := by rw [beq_eq_false_iff_ne]; exact hl
  have HL := Aside0.mk hl
  clear hl hX hlv
  generalize liveOf B o.node = le at *
  go_enter Tryz.func81, Tryz.ntmps81
  go_upto_region 1 with fail
  rw [← hW0]
  clear hW0
  go_wp2_with fail
  refine HLV.out.mono ?_
  rintro e w1 ⟨rfl, hb1⟩
  have HS1 := Aside0.mk (HS.out.later hb1)
  clear hb1
  go_wp2_with fail
  go_ret
  exact HS1.out.post B le HL.out
end Go.Proofs.YthnpiimiimiijaaGreatDoor.Dir
/- A device is built. -/
namespace Go.Proofs.YthnpiimiimiijaaGreatDoor.Dir
open Go Go.RowKit Go.Proofs
set_option linter.unusedVariables false
set_option linter.unusedSimpArgs false
def zeroDev : Array Value := #[.int .i64 0, .int .u8 0, .int .u8 0, .int .u8 0, .int .u8 0, .int .u8 0, .int .u8 0, .int .u8 0, .int .u8 0, .int .u8 0, .int .u8 0, .int .u8 0, .int .u8 0, .int .u8 0, .int .u8 0, .int .u8 0, .int .u8 0, .int .u8 0, .int .u8 0, .int .u8 0, .int .u8 0, .int .u8 0, .int .u8 0, .int .u8 0, .int .u8 0, .int .u8 0, .int .u8 0, .int .u8 0, .int .u8 0, .int .u8 0, .int .u8 0, .int .u8 0, .int .u8 0, .int .i64 0, .bool false]
set_option maxRecDepth 100000 in
theorem fillDev (n e : Int) (k : Key) : Instr.fill (#[(0, 1), (1, 32), (33, 1), (34, 1)][·]?) zeroDev [(0, .int .i64 n), (1, .agg (encK k).toArray), (2, .int .i64 e)] = some (encD ⟨n, k, e, false⟩).toArray := by
 have hz : zeroDev.toList = encD ⟨0, key0, 0, false⟩ := rfl
 have s1 : splice zeroDev.toList 0 [.int .i64 n] = encD ⟨n, key0, 0, false⟩ := rfl
 rw [fill_cons _ _ 0 _ _ 0 1 rfl rfl (by decide)]
 rw [show (Value.int .i64 n).cells.toList = [.int .i64 n] from rfl, s1]
 rw [fill_cons _ _ 1 _ _ 1 32 rfl (by simpa [Value.cells] using encK_len k) (by simp [encD_len])]
 have s2 : splice (encD ⟨n, key0, 0, false⟩) 1 (encK k) = encD ⟨n, k, 0, false⟩ := by
  unfold splice encD
  rw [encK_len]
  simp only [List.take_succ_cons, List.take_zero, Nat.reduceAdd, List.drop_succ_cons]
  rw [List.drop_append, List.drop_eq_nil_of_le (by rw [encK_len]; omega), encK_len]
  rfl
 have s2' : splice (encD ⟨n, key0, 0, false⟩).toArray.toList 1 (Value.agg (encK k).toArray).cells.toList = encD ⟨n, k, 0, false⟩ := by
  simpa [Value.cells] using s2
 rw [s2']
 rw [fill_cons _ _ 2 _ _ 33 1 rfl rfl (by simp [encD_len])]
 have s3 : splice (encD ⟨n, k, 0, false⟩) 33 [.int .i64 e] = encD ⟨n, k, e, false⟩ := by
  unfold splice encD
  simp only [List.take_succ_cons, List.length_cons, List.length_nil, Nat.reduceAdd, List.drop_succ_cons]
  rw [List.take_append_of_le_length (by rw [encK_len]; omega), List.take_of_length_le (by rw [encK_len]; omega), List.drop_append, List.drop_eq_nil_of_le (by rw [encK_len]; omega), encK_len]
  rfl
 have s3' : splice (encD ⟨n, k, 0, false⟩).toArray.toList 33 (Value.int .i64 e).cells.toList = encD ⟨n, k, e, false⟩ := by
  simpa [Value.cells] using s3
 rw [s3']
 rfl
set_option maxRecDepth 100000 in
theorem run_buildDev (w : World) (n e : Int) (k : Key) : (Instr.build 46 #[(0, .int .i64 n), (1, .agg (encK k).toArray), (2, .int .i64 e)]).run Tryz.prog w = .ok (.agg (encD ⟨n, k, e, false⟩).toArray) w := by
 have hf := fillDev n e k
 have hz : (zeroValue 46).run Tryz.prog w = .ok (.agg zeroDev) w := Tryz.zeroValue46 w
 generalize zeroDev = Z at hf hz
 simp only [Instr.build, Sem.run_bind, hz, Result.andThen_ok, run_underlying Tryz.underlying46, Value.cells]
 simp only [List.mapM_toArray, List.mapM_cons, List.mapM_nil, Sem.run_bind, Sem.run_map, Sem.run_pure, Result.andThen_ok, Tryz.sizeOf3, Tryz.sizeOf34, Tryz.sizeOf4, Functor.map]
 have hb : ∀ {α β : Type} (x : Sem α) (f : α → Sem β), Sem.bind x f = x >>= f := fun _ _ => rfl
 simp only [hb, Sem.run_bind, Sem.run_pure, Result.andThen_ok, Tryz.sizeOf3, Tryz.sizeOf34, Tryz.sizeOf4, Function.comp]
 change ((Result.ok (#[(0, 1), (1, 32), (33, 1), (34, 1)] : Array (Nat × Nat)) w).andThen fun a w' => _) = _
 simp only [Result.andThen_ok]
 rw [hf]
 rfl
end Go.Proofs.YthnpiimiimiijaaGreatDoor.Dir
/- register, of an op's book. -/
namespace Go.Proofs.YthnpiimiimiijaaGreatDoor.Dir
open Go Go.RowKit Go.Proofs Go.Proofs.YthnpiimiimiijaaGreatDoorW.PrintWords Go.Proofs.YthnpiimiimiijaaGreatDoorW.PrintLast Go.Proofs.YthnpiimiimiijaaGreatDoorW.PrintMore
set_option linter.unusedVariables false
set_option linter.unusedSimpArgs false
theorem OnBook.keep1 {w W W' : World} {base q : Nat} {B : Book} {A1 : Option Addr} {c1 : Nat} {A2 : Option Addr} {c2 bx : Nat} {cs : List Value} {T : TypeId} (h : OnBook w W base q B A1 c1 A2 c2 bx cs T) (hg : W.grownBy W' (Value.slice A1 B.devs.length c1).ownBlock) :
  W'.heap[q]? = some (.cells (bookCells B A1 c1 A2 c2).toArray 43 (0, 0)) ∧ W'.cell? ⟨q, 2, none⟩ = some (.slice A1 B.devs.length c1) ∧ W'.frozen? ⟨q, 2, none⟩ = false := by
 have hq : W'.heap[q]? = some (.cells (bookCells B A1 c1 A2 c2).toArray 43 (0, 0)) := (hg.block q h.nx.lt (fun e => own_ne h.nx.lists.1 h.nx.box (by decide) e)).trans h.nx.box
 refine ⟨hq, ?_, ?_⟩
 ·rw [cell_of_heap hq]; rfl
 ·exact frozen_of_heap hq
theorem next_list {W : World} {base q : Nat} {B B' : Book} {A1 A1' : Option Addr} {c1 c1' : Nat} {A2 : Option Addr} {c2 : Nat} (hq : W.heap[q]? = some (.cells (bookCells B A1 c1 A2 c2).toArray 43 (0, 0))) (hd : W.ownsRow base 46 35 (.slice A1' B'.devs.length c1') B'.devs.length (flatD B'.devs)) (hs : W.ownsRow base 34 32 (.slice A2 B.spent.length c2) B.spent.length (flatK B.spent))
  (hlow : base ≤ q) (e1 : B'.ver = B.ver) (e2 : B'.clock = B.clock) (e3 : B'.spent = B.spent) (e4 : B'.acl = B.acl) : NextIs (W.setCell ⟨q, 2, none⟩ (.slice A1' B'.devs.length c1')) base q B' A1' c1' A2 c2 := by
 have n1 : ∀ k, (Value.slice A1' B'.devs.length c1').ownBlock = some k → k ≠ q := fun k hk e => own_ne hd hq (by decide) (by rw [hk, e])
 have n2 : ∀ k, (Value.slice A2 B.spent.length c2).ownBlock = some k → k ≠ q := fun k hk e => own_ne hs hq (by decide) (by rw [hk, e])
 have hd' := ownsRow_setCell_other hd (a := ⟨q, 2, none⟩) n1 (.slice A1' B'.devs.length c1')
 have hs' := ownsRow_setCell_other hs (a := ⟨q, 2, none⟩) n2 (.slice A1' B'.devs.length c1')
 refine ⟨?_, ⟨hd', by rw [e3]; exact hs', own_apart hd' (by rw [e3]; exact hs') (by decide)⟩, hlow, n1, by rw [e3]; exact n2⟩
 rw [heap_setCell_same W q 2 _ _ _ hq]
 simp only [bookCells, e1, e2, e3, e4]
 rfl
theorem execOp_build3 (P : Program) (w : World) (t : TypeId) (x0 x1 x2 : Operand) (o : Oper) (ho : o.op = .build t #[(0, x0), (1, x1), (2, x2)]) (a : Act) (v0 v1 v2 : Value) (h0 : a.eval x0 = v0) (h1 : a.eval x1 = v1) (h2 : a.eval x2 = v2) (r : Value) (w' : World) (hr : (Instr.build t #[(0, v0), (1, v1), (2, v2)]).run P w = .ok r w') : (execOp a.eval o).run P w = .ok (.value r) w' := by
 unfold execOp
 simp only [ho, Sem.run_bind]
 simp [h0, h1, h2, hr]
theorem at_build {P : Program} {ops : Array Oper} {Q : Exit → Act → World → Prop} {rest : List Oper} {a : Act} {w : World} {dst : Option Tmp} {ty : TypeId} {pos : String} {after : Array Edge} {g : Option (Nat × Bool)} (t : TypeId) (x : Array (Nat × Operand)) (h : wpList P ops Q (⟨dst, .build t x, ty, pos, after, g⟩ :: rest) a w) : wpList P ops Q (⟨dst, .build t x, ty, pos, after, g⟩ :: rest) a w := h
theorem wpList_build3 {P : Program} {w : World} {ops : Array Oper} {rest : List Oper} {o : Oper} {a : Act} {Q : Exit → Act → World → Prop} (hgd : o.guard = none) (t : TypeId) (x0 x1 x2 : Operand) (ho : o.op = .build t #[(0, x0), (1, x1), (2, x2)]) (v0 v1 v2 : Value) (h0 : a.eval x0 = v0) (h1 : a.eval x1 = v1) (h2 : a.eval x2 = v2) (r : Value) (w' : World)
  (hr : (Instr.build t #[(0, v0), (1, v1), (2, v2)]).run P w = .ok r w') (h : wpList P ops Q rest (a.put o.dst r) w') : wpList P ops Q (o :: rest) a w :=
 wpList_plain hgd fun K hK => by
  unfold Oper.wp
  rw [execOp_build3 P w t x0 x1 x2 o ho a v0 v1 v2 h0 h1 h2 r w' hr]
  exact hK _ _ h
set_option maxHeartbeats 4000000 in
set_option maxRecDepth 100000 in
theorem register_any (w : World) (base q : Nat) (B : Book) (A1 : Option Addr) (c1 : Nat) (A2 : Option Addr) (c2 : Nat) (o : Op) (h : NextIs w base q B A1 c1 A2 c2) (hw : WF B) (hb : base ≤ w.heap.size) (h1 : -9223372036854775808 ≤ o.node) (h2 : o.node ≤ 9223372036854775807) :
  Calls Tryz.prog 80 #[.pointer (some ⟨q, 0, none⟩), .agg (encO o).toArray] w fun e w' => OpPost w base q (registerOf B o) e w' := by
 obtain ⟨W0, hW0⟩ : ∃ W0, W0 = w.alloc (.cells (encO o).toArray 36) := ⟨_, rfl⟩
 have HS : Aside0 (OnBook w W0 base q B A1 c1 A2 c2 w.heap.size (encO o) 36) := ⟨by rw [hW0]; exact OnBook.start w h hb _ _⟩
 have hat := at_any W0 base q B A1 c1 A2 c2 o.node HS.out.nx hw h1 h2
 have HWF := Aside0.mk hw
 obtain ⟨o0, o1, o34, o35, o36⟩ := HS.out.op
 clear h h1 h2 hw
 by_cases e1 : o.node < 1
 ·have hX : registerOf B o = (B, 220) := by unfold registerOf; rw [if_pos (.inl e1)]
  rw [hX]
  have d1 : decide (o.node < 1) = true := decide_eq_true e1
  have HAT := Aside0.mk hat
  clear e1 hX hat
  go_enter Tryz.func80, Tryz.ntmps80
  go_upto_region 1 with fail
  rw [← hW0]
  clear hW0
  go_wp2_with fail
  refine HAT.out.mono ?_
  rintro e w1 ⟨⟨i, rfl, hi, hpos⟩, hb1⟩
  have HS1 := Aside0.mk (HS.out.later hb1)
  have HI := Aside0.mk (And.intro hi hpos)
  obtain ⟨o0, o1, o34, o35, o36⟩ := HS1.out.op
  obtain ⟨s0, s1, s2, s3, s4, sf⟩ := HS1.out.nx.cells
  clear hb1 hi hpos
  go_wp2_with fail
  go_ret
  exact HS1.out.post B 220 (by decide)
 ·have d1 : decide (o.node < 1) = false := decide_eq_false e1
  by_cases e2 : 8 < o.node
  ·have hX : registerOf B o = (B, 220) := by unfold registerOf; rw [if_pos (.inr (.inl e2))]
   rw [hX]
   have d2 : decide (8 < o.node) = true := decide_eq_true e2
   have HAT := Aside0.mk hat
   clear e1 e2 hX hat
   go_enter Tryz.func80, Tryz.ntmps80
   go_upto_region 1 with fail
   rw [← hW0]
   clear hW0
   go_wp2_with fail
   refine HAT.out.mono ?_
   rintro e w1 ⟨⟨i, rfl, hi, hpos⟩, hb1⟩
   have HS1 := Aside0.mk (HS.out.later hb1)
   have HI := Aside0.mk (And.intro hi hpos)
   obtain ⟨o0, o1, o34, o35, o36⟩ := HS1.out.op
   obtain ⟨s0, s1, s2, s3, s4, sf⟩ := HS1.out.nx.cells
   clear hb1 hi hpos
   go_wp2_with fail
   go_ret
   exact HS1.out.post B 220 (by decide)
  ·have d2 : decide (8 < o.node) = false := decide_eq_false e2
   have E12 := Aside0.mk (And.intro e1 e2)
   clear e1 e2
   cases hh : hasD B.devs o.node with
   | true =>
    obtain ⟨g1, g2, g3, g4⟩ := has_at HWF.out.devs hh
    obtain ⟨g, rfl⟩ := owned_at HS.out.nx.lists.1 (by omega)
    have G2 := Aside0.mk g2
    have G1 := Aside0.mk g1
    simp only [hh] at hat
    have HAT := Aside0.mk hat
    cases hrv : (devAt B o.node).rev with
    | false =>
     have hX : registerOf B o = (B, 220) := by unfold registerOf; rw [if_pos (.inr (.inr ⟨hh, hrv⟩))]
     rw [hX]
     have HRV := Aside0.mk hrv
     clear hX hat hh g1 g2 g3 g4 hrv
     go_enter Tryz.func80, Tryz.ntmps80
     go_upto_region 1 with fail
     rw [← hW0]
     clear hW0
     go_wp2_with fail
     refine HAT.out.mono ?_
     rintro e w1 ⟨⟨i, rfl, hi, hpos⟩, hb1⟩
     have HS1 := Aside0.mk (HS.out.later hb1)
     have HI := Aside0.mk (And.intro hi hpos)
     obtain ⟨o0, o1, o34, o35, o36⟩ := HS1.out.op
     obtain ⟨s0, s1, s2, s3, s4, sf⟩ := HS1.out.nx.cells
     clear hb1 hi hpos
     obtain rfl : i = posD B.devs o.node := HI.out.2 (.inl trivial)
     have hin : (posD B.devs o.node : Int) < (B.devs.length : Int) := by have := G1.out; omega
     have hcr := dev_cell HS1.out.nx G2.out (revOfD _)
     rw [HRV.out] at hcr
     go_wp2_with fail
     go_ret
     exact HS1.out.post B 220 (by decide)
    | true =>
     have HRV := Aside0.mk hrv
     by_cases hfr : freshOf B o true = 0
     ·have hX : registerOf B o = ({ spendOf B (devAt B o.node).key with devs := B.devs.set (posD B.devs o.node) (devOf o) }, 0) := by
       unfold registerOf
       rw [if_neg (fun hc => hc.elim E12.out.1 (fun hc => hc.elim E12.out.2 (fun hc => absurd (hc.2.symm.trans hrv) (by decide)))), hh, if_pos hfr, if_pos rfl]
      rw [hX]
      have HFR := Aside0.mk hfr
      clear hX hat hh g1 g2 g3 g4 hrv hfr
      go_enter Tryz.func80, Tryz.ntmps80
      go_upto_region 1 with fail
      rw [← hW0]
      clear hW0
      go_wp2_with fail
      refine HAT.out.mono ?_
      rintro e w1 ⟨⟨i, rfl, hi, hpos⟩, hb1⟩
      have HS1 := Aside0.mk (HS.out.later hb1)
      have HI := Aside0.mk (And.intro hi hpos)
      obtain ⟨o0, o1, o34, o35, o36⟩ := HS1.out.op
      obtain ⟨s0, s1, s2, s3, s4, sf⟩ := HS1.out.nx.cells
      clear hb1 hi hpos
      obtain rfl : i = posD B.devs o.node := HI.out.2 (.inl trivial)
      have hin : (posD B.devs o.node : Int) < (B.devs.length : Int) := by have := G1.out; omega
      have hcr := dev_cell HS1.out.nx G2.out (revOfD _)
      rw [HRV.out] at hcr
      have lo := Aside0.mk (run_loadAtK Tryz.prog w1 36 37 Tryz.isAgg36 Tryz.sizeOf36 w.heap.size 0 (encO o) (encO_len o) (cells_of_heap HS1.out.bx))
      have HFC := Aside0.mk (fresh_any w1 base q B (some ⟨g, 0, none⟩) c1 A2 c2 o true HS1.out.nx HWF.out.few HS1.out.base_le)
      clear o34 o35 o36
      go_wp2_with ((with_reducible refine at_load 36 (.tmp 3) ?_); refine wpList_loadK rfl 36 (.tmp 3) rfl _ rfl _ lo.out ?_)
      refine HFC.out.mono ?_
      rintro e w2 ⟨rfl, hob⟩
      have HS2 := Aside0.mk (HS1.out.later hob.all)
      clear hob o0 o1 s0 s1 s2 s3 s4 sf
      clear hcr
      rw [HFR.out]
      obtain ⟨o0, o1, o34, o35, o36⟩ := HS2.out.op
      have lk := Aside0.mk (run_loadAtK Tryz.prog w2 34 32 Tryz.isAgg34 Tryz.sizeOf34 w.heap.size 2 (encK o.key) (encK_len _) (fun j v hj => by rw [cell_of_heap HS2.out.bx]; exact keyOfO o j v hj))
      have bd' := Aside0.mk (run_buildDev w2 o.node o.exp o.key)
      have st := Aside0.mk (fun (c : Array Value) (hc : c.size = 35) => run_storeNew Tryz.prog w2 46 35 sizeD c (encD (devOf o)).toArray hc (by simpa using encD_len (devOf o)) (by simpa using encD_one (devOf o)))
      go_upto_region 9 with (first
       | ((with_reducible refine at_load 34 (.tmp 47) ?_); refine wpList_loadK rfl 34 (.tmp 47) rfl _ rfl _ lk.out ?_)
       | ((with_reducible refine at_build 46 #[(0, .tmp 46), (1, .tmp 48), (2, .tmp 50)] ?_); refine wpList_build3 rfl 46 (.tmp 46) (.tmp 48) (.tmp 50) rfl _ _ _ rfl rfl rfl _ _ bd'.out ?_)
       | ((with_reducible refine at_store 46 (.tmp 8) (.tmp 51) ?_); refine wpList_storeK rfl 46 (.tmp 8) (.tmp 51) rfl rfl _ _ rfl rfl _ (st.out _ rfl) ?_))
      obtain ⟨W3, hW3⟩ : ∃ W3, W3 = w2.alloc (.cells (encD (devOf o)).toArray 46) := ⟨_, rfl⟩
      obtain ⟨bd, hbd⟩ : ∃ bd, bd = w2.heap.size := ⟨_, rfl⟩
      have hbd3 : W3.heap[bd]? = some (.cells (encD (devOf o)).toArray 46 (0, 0)) := by rw [hW3, hbd]; exact heap_alloc_new w2 _
      have HS3 := Aside0.mk (show OnBook w W3 base q B (some ⟨g, 0, none⟩) c1 A2 c2 w.heap.size (encO o) 36 by rw [hW3]; exact HS2.out.later ((Below.refl _ w2).alloc (Nat.le_refl _) _))
      have HD3 := Aside0.mk hbd3
      rw [← hW3, ← hbd]
      clear hW3 hbd hbd3 o0 o1 o34 o35 o36 lk bd' st
      obtain ⟨s0, s1, s2, s3, s4, sf⟩ := HS3.out.nx.cells
      have hbdne : bd ≠ q := fun e => by have h4 := HS3.out.nx.box; rw [← e, HD3.out] at h4; have h5 := Option.some.inj h4; injection h5 with _ h6; exact absurd h6 (by decide)
      have ls := Aside0.mk (run_loadAtK Tryz.prog W3 34 32 Tryz.isAgg34 Tryz.sizeOf34 g (posD B.devs o.node * 35 + 1) (encK (devAt B o.node).key) (encK_len _) (fun j v hj => by
       have h3 := dev_cell HS3.out.nx G2.out (keyOfD (devAt B o.node) j v hj)
       rw [← Nat.add_assoc] at h3
       exact h3))
      have HSP := Aside0.mk (spend_any W3 base q B (some ⟨g, 0, none⟩) c1 A2 c2 (devAt B o.node).key HS3.out.nx HWF.out.spent HWF.out.len HS3.out.base_le)
      go_wp2_with ((with_reducible refine at_load 34 (.tmp 60) ?_); refine wpList_loadK rfl 34 (.tmp 60) rfl _ rfl _ ls.out ?_)
      refine HSP.out.mono ?_
      rintro e w4 ⟨rfl, ⟨A2', c2', hn4⟩, hf4, hs4, hk4⟩
      have hbd4 := (hk4 _ (Array.getElem?_eq_some_iff.1 HD3.out).1 hbdne (fun e => own_ne HS3.out.nx.lists.2.1 HD3.out (by decide) e)).trans HD3.out
      have HT : Aside0 (OnBook w4 w4 base q (spendOf B (devAt B o.node).key) (some ⟨g, 0, none⟩) c1 A2' c2' bd (encD (devOf o)) 46) := ⟨⟨hn4, hbd4, Below.refl _ _, Nat.le_trans HS3.out.base_le hs4⟩⟩
      have HF4 := Aside0.mk hf4
      clear hn4 hf4 hs4 hk4 hbd4 s0 s1 s2 s3 s4 sf hbdne ls
      go_wp2_with fail
      refine start_ (n := 8) (S := fun W => OnBook w4 W base q (spendOf B (devAt B o.node).key) (some ⟨g, 0, none⟩) c1 A2' c2' bd (encD (devOf o)) 46) (ds := [7]) #[false, false, false, false, false, false, false, false] (by kernel_rfl) rfl rfl HT.out.drew (fun hHeld => ?_)
      generalize World.drew _ = w5 at hHeld ⊢
      refine pure_ (i := 0) (N := (some 63)) (v := ?_) (a' := ?_) #[true, false, false, false, false, false, false, false] rfl rfl (by kernel_rfl) (fun _ _ _ h => h) (Or.inl ⟨by rfl, ?_⟩) ?_ ?_
      rotate_left
      ·intro w'
       go_simp
       with_reducible rfl
      rotate_left
      ·simp only [Act.put, List.setIfInBounds_toArray, List.set_cons_zero, List.set_cons_succ, i64_w, i32_w]
       rfl
      refine pure_ (i := 1) (N := (some 64)) (v := ?_) (a' := ?_) #[true, true, false, false, false, false, false, false] rfl rfl (by kernel_rfl) (fun _ _ _ h => h) (Or.inl ⟨by rfl, ?_⟩) ?_ ?_
      rotate_left
      ·intro w'
       go_simp
       with_reducible rfl
      rotate_left
      ·simp only [Act.put, List.setIfInBounds_toArray, List.set_cons_zero, List.set_cons_succ, i64_w, i32_w]
       rfl
      refine pure_ (i := 2) (N := (some 65)) (v := ?_) (a' := ?_) #[true, true, true, false, false, false, false, false] rfl rfl (by kernel_rfl) (fun _ _ _ h => h) (Or.inl ⟨by rfl, ?_⟩) ?_ ?_
      rotate_left
      ·intro w'
       go_simp
       with_reducible rfl
      rotate_left
      ·simp only [Act.put, List.setIfInBounds_toArray, List.set_cons_zero, List.set_cons_succ, i64_w, i32_w]
       rfl
      refine pure_ (i := 4) (N := (some 67)) (v := ?_) (a' := ?_) #[true, true, true, false, true, false, false, false] rfl rfl (by kernel_rfl) (fun _ _ _ h => h) (Or.inl ⟨by rfl, ?_⟩) ?_ ?_
      rotate_left
      ·intro w'
       go_simp
       with_reducible rfl
      rotate_left
      ·simp only [Act.put, List.setIfInBounds_toArray, List.set_cons_zero, List.set_cons_succ, i64_w, i32_w]
       rfl
      refine take_ (i := 3) (N := (some 66)) (v := ?_) (a' := ?_) #[true, true, true, true, true, false, false, false] rfl rfl (by kernel_rfl) (fun _ _ _ h => h) (Or.inl ⟨by rfl, ?_⟩) hHeld ?_ ?_
      rotate_left
      ·rintro w' hs
       obtain ⟨s0, s1, s2, s3, s4, sf⟩ := hs.nx.cells
       replace s2 : w'.cell? ⟨q, 2, none⟩ = some (.slice (some ⟨g, 0, none⟩) B.devs.length c1) := s2
       go_simp
       with_reducible rfl
      rotate_left
      ·simp only [Act.put, List.setIfInBounds_toArray, List.set_cons_zero, List.set_cons_succ, i64_w, i32_w]
       rfl
      refine take_ (i := 5) (N := (some 68)) (v := _) (a' := ?_) #[true, true, true, true, true, true, false, false] rfl rfl (by kernel_rfl) (fun _ _ _ h => h) (Or.inl ⟨by rfl, fun w' hs => yields_load 46 (.tmp 8) _ rfl _ _ rfl _ (run_loadAtK Tryz.prog w' 46 35 Tryz.isAgg46 Tryz.sizeOf46 bd 0 (encD (devOf o)) (encD_len _) (cells_of_heap hs.bx))⟩) hHeld ?_ ?_
      rotate_left
      ·simp only [Act.put, List.setIfInBounds_toArray, List.set_cons_zero, List.set_cons_succ, i64_w, i32_w]
       rfl
      refine pure_ (i := 6) (N := (some 69)) (v := ?_) (a' := ?_) #[true, true, true, true, true, true, true, false] rfl rfl (by kernel_rfl) (fun _ _ _ h => h) (Or.inl ⟨by rfl, ?_⟩) ?_ ?_
      rotate_left
      ·intro w'
       go_simp
       with_reducible rfl
      rotate_left
      ·simp only [Act.put, List.setIfInBounds_toArray, List.set_cons_zero, List.set_cons_succ, i64_w, i32_w]
       rfl
      obtain ⟨w6, st6, ho6, hg6⟩ := put_dev hHeld.nx.lists.1 rfl 46 35 Tryz.sizeOf46 (posD B.devs o.node) (devAt B o.node) (devOf o) G2.out 0 (.agg (encD (devOf o)).toArray) (encD (devOf o)) (by simp [Value.cells]) (encD_len _) (by decide) (encD_one _) (encD_all _ _)
      have ST6 := Aside0.mk st6
      have HP6 := Aside0.mk (And.intro ho6 hg6)
      have HH := Aside0.mk hHeld
      clear st6 ho6 hg6 hHeld
      refine last_ (i := 7) (N := none) #[true, true, true, true, true, true, true, true] rfl rfl (by kernel_rfl) (by decide) (fun K hK => ?_)
      refine store_ (w1 := w6) (by rfl) rfl ?_ ?_
      ·exact runs_store 46 (.tmp 69) (.tmp 68) _ rfl _ _ _ rfl rfl _ ST6.out
      skip
      refine hK.out _ _ ?_
      clear hK K
      refine norm_ (a' := ?_) ?_ ?_
      rotate_left
      ·show Act.put _ none _ = _
       simp only [Act.put, List.setIfInBounds_toArray, List.set_cons_zero, List.set_cons_succ, i64_w, i32_w]
       rfl
      refine done_ (by kernel_rfl) ?_
      go_wp2
      go_ret
      have hn7 := next_devs HH.out.nx (B.devs.set (posD B.devs o.node) (devOf o)) (by rw [List.length_set]; rfl) HP6.out.1 HP6.out.2
      have hfr := below_grown HP6.out.2 HH.out.base_le (own_low HH.out.nx.lists.1)
      have hall := HS3.out.fr.trans (HF4.out.trans (HH.out.fr.trans hfr))
      exact ⟨rfl, fun _ => ⟨_, _, _, _, hn7⟩, hall, hall.size⟩
     ·have hX : registerOf B o = (B, freshOf B o true) := by
       unfold registerOf
       rw [if_neg (fun hc => hc.elim E12.out.1 (fun hc => hc.elim E12.out.2 (fun hc => absurd (hc.2.symm.trans hrv) (by decide)))), hh, if_neg hfr]
      rw [hX]
      have HFR := Aside0.mk hfr
      have hq0 : (freshOf B o true == 0) = false := by rw [beq_eq_false_iff_ne]; exact hfr
      clear hX hat hh g1 g2 g3 g4 hrv hfr
      go_enter Tryz.func80, Tryz.ntmps80
      go_upto_region 1 with fail
      rw [← hW0]
      clear hW0
      go_wp2_with fail
      refine HAT.out.mono ?_
      rintro e w1 ⟨⟨i, rfl, hi, hpos⟩, hb1⟩
      have HS1 := Aside0.mk (HS.out.later hb1)
      have HI := Aside0.mk (And.intro hi hpos)
      obtain ⟨o0, o1, o34, o35, o36⟩ := HS1.out.op
      obtain ⟨s0, s1, s2, s3, s4, sf⟩ := HS1.out.nx.cells
      clear hb1 hi hpos
      obtain rfl : i = posD B.devs o.node := HI.out.2 (.inl trivial)
      have hin : (posD B.devs o.node : Int) < (B.devs.length : Int) := by have := G1.out; omega
      have hcr := dev_cell HS1.out.nx G2.out (revOfD _)
      rw [HRV.out] at hcr
      have lo := Aside0.mk (run_loadAtK Tryz.prog w1 36 37 Tryz.isAgg36 Tryz.sizeOf36 w.heap.size 0 (encO o) (encO_len o) (cells_of_heap HS1.out.bx))
      have HFC := Aside0.mk (fresh_any w1 base q B (some ⟨g, 0, none⟩) c1 A2 c2 o true HS1.out.nx HWF.out.few HS1.out.base_le)
      clear o34 o35 o36
      go_wp2_with ((with_reducible refine at_load 36 (.tmp 3) ?_); refine wpList_loadK rfl 36 (.tmp 3) rfl _ rfl _ lo.out ?_)
      refine HFC.out.mono ?_
      rintro e w2 ⟨rfl, hob⟩
      have HS2 := Aside0.mk (HS1.out.later hob.all)
      clear hob o0 o1 s0 s1 s2 s3 s4 sf
      go_wp2_with fail
      go_ret
      exact HS2.out.post B _ HFR.out
   | false =>
    simp only [hh] at hat
    have HAT := Aside0.mk hat
    by_cases hfr : freshOf B o false = 0
    ·have hX : registerOf B o = ({ B with devs := insertAt B.devs (posD B.devs o.node) (devOf o) }, 0) := by
      unfold registerOf
      rw [if_neg (fun hc => hc.elim E12.out.1 (fun hc => hc.elim E12.out.2 (fun hc => absurd (hc.1.symm.trans hh) (by decide)))), hh, if_pos hfr, if_neg (by decide)]
     rw [hX]
     have HFR := Aside0.mk hfr
     have HF := Aside0.mk HWF.out.few
     clear hX hat hh hfr
     go_enter Tryz.func80, Tryz.ntmps80
     go_upto_region 1 with fail
     rw [← hW0]
     clear hW0
     go_wp2_with fail
     refine HAT.out.mono ?_
     rintro e w1 ⟨⟨i, rfl, hi, hpos⟩, hb1⟩
     have HS1 := Aside0.mk (HS.out.later hb1)
     have HI := Aside0.mk (And.intro hi hpos)
     obtain ⟨o0, o1, o34, o35, o36⟩ := HS1.out.op
     obtain ⟨s0, s1, s2, s3, s4, sf⟩ := HS1.out.nx.cells
     clear hb1 hi hpos
     have lo := Aside0.mk (run_loadAtK Tryz.prog w1 36 37 Tryz.isAgg36 Tryz.sizeOf36 w.heap.size 0 (encO o) (encO_len o) (cells_of_heap HS1.out.bx))
     have HFC := Aside0.mk (fresh_any w1 base q B A1 c1 A2 c2 o false HS1.out.nx HWF.out.few HS1.out.base_le)
     clear o34 o35 o36
     go_wp2_with ((with_reducible refine at_load 36 (.tmp 3) ?_); refine wpList_loadK rfl 36 (.tmp 3) rfl _ rfl _ lo.out ?_)
     refine HFC.out.mono ?_
     rintro e w2 ⟨rfl, hob⟩
     have HS2 := Aside0.mk (HS1.out.later hob.all)
     clear hob o0 o1 s0 s1 s2 s3 s4 sf
     rw [HFR.out]
     obtain ⟨o0, o1, o34, o35, o36⟩ := HS2.out.op
     have lk := Aside0.mk (run_loadAtK Tryz.prog w2 34 32 Tryz.isAgg34 Tryz.sizeOf34 w.heap.size 2 (encK o.key) (encK_len _) (fun j v hj => by rw [cell_of_heap HS2.out.bx]; exact keyOfO o j v hj))
     have bd' := Aside0.mk (run_buildDev w2 o.node o.exp o.key)
     have st := Aside0.mk (fun (c : Array Value) (hc : c.size = 35) => run_storeNew Tryz.prog w2 46 35 sizeD c (encD (devOf o)).toArray hc (by simpa using encD_len (devOf o)) (by simpa using encD_one (devOf o)))
     go_upto_region 11 with (first
      | ((with_reducible refine at_load 34 (.tmp 47) ?_); refine wpList_loadK rfl 34 (.tmp 47) rfl _ rfl _ lk.out ?_)
      | ((with_reducible refine at_build 46 #[(0, .tmp 46), (1, .tmp 48), (2, .tmp 50)] ?_); refine wpList_build3 rfl 46 (.tmp 46) (.tmp 48) (.tmp 50) rfl _ _ _ rfl rfl rfl _ _ bd'.out ?_)
      | ((with_reducible refine at_store 46 (.tmp 8) (.tmp 51) ?_); refine wpList_storeK rfl 46 (.tmp 8) (.tmp 51) rfl rfl _ _ rfl rfl _ (st.out _ rfl) ?_))
     obtain ⟨W3, hW3⟩ : ∃ W3, W3 = w2.alloc (.cells (encD (devOf o)).toArray 46) := ⟨_, rfl⟩
     obtain ⟨bd, hbd⟩ : ∃ bd, bd = w2.heap.size := ⟨_, rfl⟩
     have hbd3 : W3.heap[bd]? = some (.cells (encD (devOf o)).toArray 46 (0, 0)) := by rw [hW3, hbd]; exact heap_alloc_new w2 _
     have HS3 := Aside0.mk (show OnBook w W3 base q B A1 c1 A2 c2 w.heap.size (encO o) 36 by rw [hW3]; exact HS2.out.later ((Below.refl _ w2).alloc (Nat.le_refl _) _))
     have HD3 := Aside0.mk hbd3
     rw [← hW3, ← hbd]
     clear hW3 hbd hbd3 o0 o1 o34 o35 o36 lk bd' st
     obtain ⟨w4, hw4⟩ : ∃ w4, w4 = W3 := ⟨_, rfl⟩
     rw [← hw4] at HS3 HD3 ⊢
     clear hw4
     have HT : Aside0 (OnBook w4 w4 base q B A1 c1 A2 c2 bd (encD (devOf o)) 46) := ⟨⟨HS3.out.nx, HD3.out, Below.refl _ _, HS3.out.base_le⟩⟩
     refine start_ (n := 12) (S := fun W => OnBook w4 W base q B A1 c1 A2 c2 bd (encD (devOf o)) 46) (ds := [8, 11]) #[false, false, false, false, false, false, false, false, false, false, false, false] (by kernel_rfl) rfl rfl HT.out.drew (fun hHeld => ?_)
     generalize World.drew _ = w6 at hHeld ⊢
     refine pure_ (i := 0) (N := (some 70)) (v := ?_) (a' := ?_) #[true, false, false, false, false, false, false, false, false, false, false, false] rfl rfl (by kernel_rfl) (fun _ _ _ h => h) (Or.inl ⟨by rfl, ?_⟩) ?_ ?_
     rotate_left
     ·intro w'
      go_simp
      with_reducible rfl
     rotate_left
     ·simp only [Act.put, List.setIfInBounds_toArray, List.set_cons_zero, List.set_cons_succ, i64_w, i32_w]
      rfl
     refine pure_ (i := 1) (N := (some 71)) (v := ?_) (a' := ?_) #[true, true, false, false, false, false, false, false, false, false, false, false] rfl rfl (by kernel_rfl) (fun _ _ _ h => h) (Or.inl ⟨by rfl, ?_⟩) ?_ ?_
     rotate_left
     ·intro w'
      go_simp
      with_reducible rfl
     rotate_left
     ·simp only [Act.put, List.setIfInBounds_toArray, List.set_cons_zero, List.set_cons_succ, i64_w, i32_w]
      rfl
     refine pure_ (i := 2) (N := (some 72)) (v := ?_) (a' := ?_) #[true, true, true, false, false, false, false, false, false, false, false, false] rfl rfl (by kernel_rfl) (fun _ _ _ h => h) (Or.inl ⟨by rfl, ?_⟩) ?_ ?_
     rotate_left
     ·intro w'
      go_simp
      with_reducible rfl
     rotate_left
     ·simp only [Act.put, List.setIfInBounds_toArray, List.set_cons_zero, List.set_cons_succ, i64_w, i32_w]
      rfl
     refine pure_ (i := 3) (N := (some 73)) (v := ?_) (a' := ?_) #[true, true, true, true, false, false, false, false, false, false, false, false] rfl rfl (by kernel_rfl) (fun _ _ _ h => h) (Or.inl ⟨by rfl, ?_⟩) ?_ ?_
     rotate_left
     ·intro w'
      go_simp
      with_reducible rfl
     rotate_left
     ·simp only [Act.put, List.setIfInBounds_toArray, List.set_cons_zero, List.set_cons_succ, i64_w, i32_w]
      rfl
     refine pure_ (i := 5) (N := (some 75)) (v := ?_) (a' := ?_) #[true, true, true, true, false, true, false, false, false, false, false, false] rfl rfl (by kernel_rfl) (fun _ _ _ h => h) (Or.inl ⟨by rfl, ?_⟩) ?_ ?_
     rotate_left
     ·intro w'
      go_simp
      with_reducible rfl
     rotate_left
     ·simp only [Act.put, List.setIfInBounds_toArray, List.set_cons_zero, List.set_cons_succ, i64_w, i32_w]
      rfl
     refine take_ (i := 4) (N := (some 74)) (v := ?_) (a' := ?_) #[true, true, true, true, true, true, false, false, false, false, false, false] rfl rfl (by kernel_rfl) (fun _ _ _ h => h) (Or.inl ⟨by rfl, ?_⟩) hHeld ?_ ?_
     rotate_left
     ·rintro w' hs
      obtain ⟨s0, s1, s2, s3, s4, sf⟩ := hs.nx.cells
      go_simp
      with_reducible rfl
     rotate_left
     ·simp only [Act.put, List.setIfInBounds_toArray, List.set_cons_zero, List.set_cons_succ, i64_w, i32_w]
      rfl
     refine take_ (i := 6) (N := (some 76)) (v := _) (a' := ?_) #[true, true, true, true, true, true, true, false, false, false, false, false] rfl rfl (by kernel_rfl) (fun _ _ _ h => h) (Or.inl ⟨by rfl, fun w' hs => yields_load 46 (.tmp 8) _ rfl _ _ rfl _ (run_loadAtK Tryz.prog w' 46 35 Tryz.isAgg46 Tryz.sizeOf46 bd 0 (encD (devOf o)) (encD_len _) (cells_of_heap hs.bx))⟩) hHeld ?_ ?_
     rotate_left
     ·simp only [Act.put, List.setIfInBounds_toArray, List.set_cons_zero, List.set_cons_succ, i64_w, i32_w]
      rfl
     refine one_ (i := 7) (N := (some 77)) #[true, true, true, true, true, true, true, true, false, false, false, false] rfl rfl (by kernel_rfl) (by decide) (fun K hK => ?_)
     refine value_ (v := .slice (some ⟨w6.heap.size, 0, none⟩) 1 1) (w1 := w6.alloc (.cells (encD (devOf o)).toArray 46)) (by rfl) rfl ?_ ?_
     ·exact execOp_buildSlice _ _ 40 (.tmp 76) _ rfl _ _ rfl _ _ (buildD w6 (devOf o))
     have HLT := Aside0.mk (fun (k : Nat) (hk : (Value.slice A1 B.devs.length c1).ownBlock = some k) => own_lt hHeld.nx.lists.1 k hk)
     have HV := Aside0.mk (heap_alloc_new w6 (.cells (encD (devOf o)).toArray 46))
     have hS_ := hHeld.later (hb := (Below.refl _ w6).alloc (Nat.le_refl _) (.cells (encD (devOf o)).toArray 46))
     obtain ⟨W7, hW7⟩ : ∃ W7, W7 = w6.alloc (.cells (encD (devOf o)).toArray 46) := ⟨_, rfl⟩
     rw [← hW7] at HV hS_ ⊢
     clear hW7
     refine hK.out _ _ hS_ (fun hHeld => ?_)
     clear hK K
     refine norm_ (a' := ?_) ?_ ?_
     rotate_left
     ·show Act.put _ (some 77) _ = _
      simp only [Act.put, List.setIfInBounds_toArray, List.set_cons_zero, List.set_cons_succ, i64_w, i32_w]
      rfl
     refine last_ (i := 8) (N := (some 78)) #[true, true, true, true, true, true, true, true, true, false, false, false] rfl rfl (by kernel_rfl) (by decide) (fun K hK => ?_)
     refine goes_ Tryz.func119 (by kernel_rfl) rfl #[.slice A1 B.devs.length c1, .int .i64 i, .slice (some ⟨w6.heap.size, 0, none⟩) 1 1] (by rfl) rfl rfl (by (try simp only [List.map_toArray, List.map_cons, List.map_nil]); first | done | rfl) ?_
     refine (insert119 W7 base A1 c1 B.devs.length i (flatD B.devs) (encD (devOf o)) w6.heap.size hHeld.nx.lists.1 HI.out.1 (by have := HF.out.1; omega) HV.out (encD_len _) (flatD_one _) (encD_one _) (fun k hk e => by have := HLT.out k hk; omega) hHeld.base_le).mono ?_
     rintro e w6c ⟨A1', c1', rfl, hown, hgr⟩
     refine ⟨_, rfl, ?_⟩
     have HO := Aside0.mk (And.intro hown hgr)
     have HH := Aside0.mk hHeld
     clear hown hgr hHeld hS_
     refine hK.out _ _ ?_
     clear hK K
     refine norm_ (a' := ?_) ?_ ?_
     rotate_left
     ·show Act.put _ (some 78) _ = _
      simp only [Act.put, List.setIfInBounds_toArray, List.set_cons_zero, List.set_cons_succ, i64_w, i32_w]
      rfl
     refine pure_ (i := 9) (N := (some 79)) (v := ?_) (a' := ?_) #[true, true, true, true, true, true, true, true, true, true, false, false] rfl rfl (by kernel_rfl) (fun _ _ _ h => h) (Or.inl ⟨by rfl, ?_⟩) ?_ ?_
     rotate_left
     ·intro w'
      go_simp
      with_reducible rfl
     rotate_left
     ·simp only [Act.put, List.setIfInBounds_toArray, List.set_cons_zero, List.set_cons_succ, i64_w, i32_w]
      rfl
     refine pure_ (i := 10) (N := (some 80)) (v := ?_) (a' := ?_) #[true, true, true, true, true, true, true, true, true, true, true, false] rfl rfl (by kernel_rfl) (fun _ _ _ h => h) (Or.inl ⟨by rfl, ?_⟩) ?_ ?_
     rotate_left
     ·intro w'
      go_simp
      with_reducible rfl
     rotate_left
     ·simp only [Act.put, List.setIfInBounds_toArray, List.set_cons_zero, List.set_cons_succ, i64_w, i32_w]
      rfl
     refine last_ (i := 11) (N := none) #[true, true, true, true, true, true, true, true, true, true, true, true] rfl rfl (by kernel_rfl) (by decide) (fun K hK => ?_)
     refine store_ (w1 := w6c.setCell ⟨q, 2, none⟩ (.slice A1' (B.devs.length + 1) c1')) (by rfl) rfl ?_ ?_
     ·exact runs_store 40 (.tmp 80) (.tmp 78) _ rfl _ _ _ rfl rfl _ (run_storeAt1 Tryz.prog w6c 40 Tryz.sizeOf40 q 2 _ rfl rfl _ (HH.out.keep1 HO.out.2).2.1 (HH.out.keep1 HO.out.2).2.2)
     skip
     refine hK.out _ _ ?_
     clear hK K
     refine norm_ (a' := ?_) ?_ ?_
     rotate_left
     ·show Act.put _ none _ = _
      simp only [Act.put, List.setIfInBounds_toArray, List.set_cons_zero, List.set_cons_succ, i64_w, i32_w]
      rfl
     refine done_ (by kernel_rfl) ?_
     go_wp2
     go_ret
     obtain ⟨hq, -, -⟩ := HH.out.keep1 HO.out.2
     have hrow := HO.out.1
     have hfl : flatD (insertAt B.devs i (devOf o)) = (flatD B.devs).take (i * 35) ++ encD (devOf o) ++ (flatD B.devs).drop (i * 35) := flat_insert encD 35 encD_len B.devs i (devOf o) HI.out.1
     rw [← hfl] at hrow
     have hlen : (insertAt B.devs i (devOf o)).length = B.devs.length + 1 := len_insertAt _ _ _
     have hsp : w6c.ownsRow base 34 32 (.slice A2 B.spent.length c2) B.spent.length (flatK B.spent) := HH.out.nx.lists.2.1.kept HO.out.2 (by
      cases hk : (Value.slice A2 B.spent.length c2).ownBlock with
      | none => exact .inl rfl
      | some k => exact .inr (fun e => HH.out.nx.lists.2.2 k e.symm hk))
     have hfr := below_grown HO.out.2 HH.out.base_le (fun k hk => own_base HH.out.nx.lists.1 k hk)
     have hall := HS3.out.fr.trans ((HH.out.fr.trans hfr).setCell HH.out.nx.low (p := ⟨q, 2, none⟩) (.slice A1' (B.devs.length + 1) c1'))
     have hpi : i = posD B.devs o.node := HI.out.2 (.inr (by have := E12.out.1; omega))
     refine ⟨rfl, fun _ => ⟨A1', c1', A2, c2, ?_⟩, hall, hall.size⟩
     rw [← hpi, ← hlen]
     exact next_list (B' := { B with devs := insertAt B.devs i (devOf o) }) hq (by rw [hlen]; exact hrow) hsp HH.out.nx.low rfl rfl rfl rfl
    ·have hX : registerOf B o = (B, freshOf B o false) := by
      unfold registerOf
      rw [if_neg (fun hc => hc.elim E12.out.1 (fun hc => hc.elim E12.out.2 (fun hc => absurd (hc.1.symm.trans hh) (by decide)))), hh, if_neg hfr]
     rw [hX]
     have HFR := Aside0.mk hfr
     have hq0 : (freshOf B o false == 0) = false := by rw [beq_eq_false_iff_ne]; exact hfr
     clear hX hat hh hfr
     go_enter Tryz.func80, Tryz.ntmps80
     go_upto_region 1 with fail
     rw [← hW0]
     clear hW0
     go_wp2_with fail
     refine HAT.out.mono ?_
     rintro e w1 ⟨⟨i, rfl, hi, hpos⟩, hb1⟩
     have HS1 := Aside0.mk (HS.out.later hb1)
     have HI := Aside0.mk (And.intro hi hpos)
     obtain ⟨o0, o1, o34, o35, o36⟩ := HS1.out.op
     obtain ⟨s0, s1, s2, s3, s4, sf⟩ := HS1.out.nx.cells
     clear hb1 hi hpos
     have lo := Aside0.mk (run_loadAtK Tryz.prog w1 36 37 Tryz.isAgg36 Tryz.sizeOf36 w.heap.size 0 (encO o) (encO_len o) (cells_of_heap HS1.out.bx))
     have HFC := Aside0.mk (fresh_any w1 base q B A1 c1 A2 c2 o false HS1.out.nx HWF.out.few HS1.out.base_le)
     clear o34 o35 o36
     go_wp2_with ((with_reducible refine at_load 36 (.tmp 3) ?_); refine wpList_loadK rfl 36 (.tmp 3) rfl _ rfl _ lo.out ?_)
     refine HFC.out.mono ?_
     rintro e w2 ⟨rfl, hob⟩
     have HS2 := Aside0.mk (HS1.out.later hob.all)
     clear hob o0 o1 s0 s1 s2 s3 s4 sf
     go_wp2_with fail
     go_ret
     exact HS2.out.post B _ HFR.out
end Go.Proofs.YthnpiimiimiijaaGreatDoor.Dir
end
