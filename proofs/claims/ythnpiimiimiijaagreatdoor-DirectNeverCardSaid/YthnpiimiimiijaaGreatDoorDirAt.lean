/- at and live: where a node's device is. -/
import Derived.Test.YthnpiimiimiijaaGreatDoorDirSearch
namespace Go.Proofs.YthnpiimiimiijaaGreatDoor.Dir
open Go Go.RowKit Go.Proofs Go.Proofs.YthnpiimiimiijaaGreatDoorW.PrintWords Go.Proofs.YthnpiimiimiijaaGreatDoorW.PrintLast Go.Proofs.YthnpiimiimiijaaGreatDoorW.PrintMore
set_option linter.unusedVariables false
set_option linter.unusedSimpArgs false

theorem countP_parts {α : Type} (p : α → Bool) (l : List α) (i : Nat) (hi : i ≤ l.length) (h1 : ∀ t x, t < i → l[t]? = some x → p x = true) (h2 : ∀ t x, i ≤ t → l[t]? = some x → p x = false) : l.countP p = i := by
  have e := List.take_append_drop i l
  conv => lhs; rw [← e]
  rw [List.countP_append]
  have a1 : (l.take i).countP p = i := by
    rw [List.countP_eq_length.2]
    · rw [List.length_take]; omega
    · intro x hx
      obtain ⟨t, ht⟩ := List.getElem?_of_mem hx
      rw [List.getElem?_take] at ht
      split at ht
      · rename_i hlt; exact h1 t x hlt ht
      · cases ht
  have a2 : (l.drop i).countP p = 0 := by
    rw [List.countP_eq_zero]
    intro x hx
    obtain ⟨t, ht⟩ := List.getElem?_of_mem hx
    rw [List.getElem?_drop] at ht
    simp [h2 (i + t) x (by omega) ht]
  omega
theorem nodes_lt {l : List Dev} (hs : l.Pairwise (·.node < ·.node)) {a b : Nat} {x y : Dev} (hab : a < b) (hx : l[a]? = some x) (hy : l[b]? = some y) : x.node < y.node := by
  obtain ⟨ha, rfl⟩ := List.getElem?_eq_some_iff.1 hx
  obtain ⟨hb, rfl⟩ := List.getElem?_eq_some_iff.1 hy
  exact List.pairwise_iff_getElem.1 hs a b ha hb hab
theorem wrap_in {a : Int} (h1 : -9223372036854775808 ≤ a) (h2 : a ≤ 9223372036854775807) : wrap64 a = a := by unfold wrap64; omega
theorem wrap_ne {a : Int} (h1 : 0 < a) (h2 : a < 18446744073709551616) : wrap64 a ≠ 0 := by unfold wrap64; omega
theorem at_plain {l : List Dev} (hs : l.Pairwise (·.node < ·.node)) (hn : ∀ d ∈ l, 1 ≤ d.node ∧ d.node ≤ 8) {node : Int} (h1 : -9223372036854775808 ≤ node) (h2 : node ≤ 9223372036854775807) {i : Nat} (hi : i ≤ l.length)
    (hp : Parts (fun d : Dev => wrap64 (d.node - node)) l i i) : foundAt (fun d : Dev => wrap64 (d.node - node)) l i = hasD l node ∧ (hasD l node = true ∨ 1 ≤ node → i = posD l node) := by
  by_cases hpos : 1 ≤ node
  · have hw : ∀ (t : Nat) (x : Dev), l[t]? = some x → wrap64 (x.node - node) = x.node - node := fun t x hx => by
      have := hn x (List.mem_of_getElem? hx)
      exact wrap_in (by omega) (by omega)
    obtain ⟨q1, q2⟩ := hp (fun a b x y hab hx hy hlt => by
      simp only [hw a x hx, hw b y hy] at hlt ⊢
      rcases Nat.lt_or_eq_of_le hab with h | h
      · have := nodes_lt hs h hx hy; omega
      · subst h; rw [hx] at hy; cases hy; exact hlt)
    have hpo : posD l node = i := countP_parts _ l i hi (fun t x ht hx => by
        have := q1 t x ht hx
        simp only [hw t x hx] at this
        exact decide_eq_true (by omega)) (fun t x ht hx => by
        have := q2 t x ht hx
        simp only [hw t x hx] at this
        exact decide_eq_false (by omega))
    refine ⟨?_, fun _ => hpo.symm⟩
    unfold foundAt
    cases hx : l[i]? with
    | none =>
      cases hh : hasD l node with
      | false => rfl
      | true =>
        obtain ⟨d, hd, he⟩ := List.any_eq_true.1 hh
        obtain ⟨t, ht⟩ := List.getElem?_of_mem hd
        have hlt : t < i := by have := (List.getElem?_eq_some_iff.1 ht).1; have := List.getElem?_eq_none_iff.1 hx; omega
        have := q1 t d hlt ht
        simp only [hw t d ht] at this
        have := of_decide_eq_true he
        omega
    | some x =>
      have h0 := q2 i x (Nat.le_refl _) hx
      simp only [hw i x hx] at h0 ⊢
      rw [Bool.eq_iff_iff, decide_eq_true_eq]
      constructor
      · intro h; exact List.any_eq_true.2 ⟨x, List.mem_of_getElem? hx, decide_eq_true (by omega)⟩
      · intro hh
        obtain ⟨d, hd, he⟩ := List.any_eq_true.1 hh
        have he := of_decide_eq_true he
        obtain ⟨t, ht⟩ := List.getElem?_of_mem hd
        rcases Nat.lt_trichotomy t i with h | h | h
        · have := q1 t d h ht
          simp only [hw t d ht] at this
          omega
        · subst h; rw [hx] at ht; cases ht; omega
        · have := nodes_lt hs h hx ht; omega
  · have hh : hasD l node = false := by
      cases hh : hasD l node with
      | false => rfl
      | true =>
        obtain ⟨d, hd, he⟩ := List.any_eq_true.1 hh
        have := hn d hd
        have := of_decide_eq_true he
        omega
    rw [hh]
    refine ⟨?_, fun h => h.elim (fun h => by cases h) (fun h => absurd h hpos)⟩
    unfold foundAt
    cases hx : l[i]? with
    | none => rfl
    | some x =>
      have := hn x (List.mem_of_getElem? hx)
      exact decide_eq_false (wrap_ne (by omega) (by omega))

/-- A book that an op works on: a variable in the block q, its lists from the block 'base' on. -/
structure NextIs (w : World) (base q : Nat) (B : Book) (A1 : Option Addr) (c1 : Nat) (A2 : Option Addr) (c2 : Nat) : Prop where
  box : w.heap[q]? = some (.cells (bookCells B A1 c1 A2 c2).toArray 43 (0, 0))
  lists : Lists w base B A1 c1 A2 c2
  low : base ≤ q
  ne1 : ∀ k, (Value.slice A1 B.devs.length c1).ownBlock = some k → k ≠ q
  ne2 : ∀ k, (Value.slice A2 B.spent.length c2).ownBlock = some k → k ≠ q
def NextAt (w : World) (base q : Nat) (B : Book) : Prop := ∃ A1 c1 A2 c2, NextIs w base q B A1 c1 A2 c2
section
variable {w w' : World} {base q : Nat} {B : Book} {A1 : Option Addr} {c1 : Nat} {A2 : Option Addr} {c2 : Nat}
theorem NextIs.lt (h : NextIs w base q B A1 c1 A2 c2) : q < w.heap.size := (Array.getElem?_eq_some_iff.1 h.box).1
theorem NextIs.below (h : NextIs w base q B A1 c1 A2 c2) (hb : Below w.heap.size w w') : NextIs w' base q B A1 c1 A2 c2 :=
  ⟨(hb.block _ h.lt).trans h.box, h.lists.below hb, h.low, h.ne1, h.ne2⟩
theorem NextIs.cells (h : NextIs w base q B A1 c1 A2 c2) : w.cell? ⟨q, 0, none⟩ = some (.int .i64 B.ver) ∧ w.cell? ⟨q, 1, none⟩ = some (.int .i64 B.clock) ∧ w.cell? ⟨q, 2, none⟩ = some (.slice A1 B.devs.length c1) ∧ w.cell? ⟨q, 3, none⟩ = some (.slice A2 B.spent.length c2) ∧ w.cell? ⟨q, 4, none⟩ = some (.string (str B.acl)) ∧ (∀ j, w.frozen? ⟨q, j, none⟩ = false) := by
  have hk := h.box
  simp [World.cell?, World.frozen?, hk, bookCells]
theorem NextAt.below (h : NextAt w base q B) (hb : Below w.heap.size w w') : NextAt w' base q B := by
  obtain ⟨A1, c1, A2, c2, h⟩ := h
  exact ⟨A1, c1, A2, c2, h.below hb⟩
end
theorem owned_at {w : World} {base : Nat} {e : TypeId} {size n c : Nat} {A : Option Addr} {xs : List Value} (h : w.ownsRow base e size (.slice A n c) n xs) (hn : n ≠ 0) : ∃ g, A = some ⟨g, 0, none⟩ := by
  rcases h.2 with ⟨e, e2⟩ | ⟨g, _, _, e, _⟩
  · omega
  · injection e with e; exact ⟨g, e⟩

set_option maxHeartbeats 1000000 in
set_option maxRecDepth 100000 in
theorem at_any (w : World) (base q : Nat) (B : Book) (A1 : Option Addr) (c1 : Nat) (A2 : Option Addr) (c2 : Nat) (node : Int) (h : NextIs w base q B A1 c1 A2 c2) (hw : WF B) (h1 : -9223372036854775808 ≤ node) (h2 : node ≤ 9223372036854775807) :
    Calls Tryz.prog 116 #[.pointer (some ⟨q, 0, none⟩), .int .i64 node] w fun e w' => (∃ i : Nat, e = .returned (.tuple #[.int .i64 i, .bool (hasD B.devs node)]) ∧ i ≤ B.devs.length ∧ (hasD B.devs node = true ∨ 1 ≤ node → i = posD B.devs node)) ∧ Below w.heap.size w w' := by
  obtain ⟨k0, k1, k2, k3, k4, kf⟩ := h.cells
  have hs := Aside0.mk (search_dev B.devs node A1 c1 base w h.lists.1 hw.few.1)
  have hp := Aside0.mk (fun (i : Nat) (hi : i ≤ B.devs.length) (hp : Parts (fun d : Dev => wrap64 (d.node - node)) B.devs i i) => at_plain hw.devs hw.nodes h1 h2 hi hp)
  clear h hw h1 h2
  go_enter Tryz.func116, Tryz.ntmps116
  go_wp2_with fail
  refine hs.out.mono ?_
  rintro e w' ⟨⟨i, hi, rfl, hpa⟩, hb⟩
  have HP := Aside0.mk (hp.out i hi hpa)
  have HI := Aside0.mk hi
  have HB := Aside0.mk hb
  clear hi hpa hb
  go_wp2_with fail
  go_ret2
  refine ⟨⟨i, ?_, HI.out, HP.out.2⟩, HB.out⟩
  rw [← HP.out.1]
  rfl

/-- Where a device of the book lies. -/
theorem dev_cell {w : World} {base q : Nat} {B : Book} {g c1 : Nat} {A2 : Option Addr} {c2 : Nat} (h : NextIs w base q B (some ⟨g, 0, none⟩) c1 A2 c2) {i : Nat} {d : Dev} (hd : B.devs[i]? = some d) {j : Nat} {v : Value} (hv : (encD d)[j]? = some v) : w.cell? ⟨g, i * 35 + j, none⟩ = some v :=
  row_cell h.lists.1 (Below.refl _ w) (flatMap_at encD 35 encD_len B.devs i d hd j v hv)
set_option maxHeartbeats 1000000 in
set_option maxRecDepth 100000 in
theorem live_any (w : World) (base q : Nat) (B : Book) (A1 : Option Addr) (c1 : Nat) (A2 : Option Addr) (c2 : Nat) (node : Int) (h : NextIs w base q B A1 c1 A2 c2) (hw : WF B) (h1 : -9223372036854775808 ≤ node) (h2 : node ≤ 9223372036854775807) :
    Calls Tryz.prog 120 #[.pointer (some ⟨q, 0, none⟩), .int .i64 node] w fun e w' => (if liveOf B node = 0 then ∃ g, A1 = some ⟨g, 0, none⟩ ∧ e = .returned (.tuple #[.pointer (some ⟨g, posD B.devs node * 35, none⟩), .int .i64 0]) else e = .returned (.tuple #[.pointer none, .int .i64 (liveOf B node)])) ∧ Below w.heap.size w w' := by
  have ha := at_any w base q B A1 c1 A2 c2 node h hw h1 h2
  have HN := Aside0.mk h
  have hlim := hw.few.1
  have HWD := Aside0.mk hw.devs
  clear h1 h2 hw
  cases hh : hasD B.devs node with
  | false =>
    have hl : liveOf B node = 220 := by unfold liveOf; rw [if_pos hh]
    rw [hl]
    simp only [hh] at ha
    replace ha := Aside0.mk ha
    clear h hh hl
    go_enter Tryz.func120, Tryz.ntmps120
    go_wp2_with fail
    refine ha.out.mono ?_
    rintro e w1 ⟨⟨i, rfl, hi, hpos⟩, hb⟩
    have HB := Aside0.mk hb
    have HN1 := Aside0.mk (HN.out.below hb)
    have HP := Aside0.mk hpos
    have HI := Aside0.mk hi
    obtain ⟨k0, k1, k2, k3, k4, kf⟩ := HN1.out.cells
    clear hb hpos hi ha k0 k1 k3 k4 kf
    go_wp2_with fail
    go_ret2
    exact ⟨rfl, HB.out⟩
  | true =>
    obtain ⟨g1, g2, g3, g4⟩ := has_at HWD.out hh
    obtain ⟨g, rfl⟩ := owned_at h.lists.1 (by omega)
    have hl : liveOf B node = if (devAt B node).rev = true then 222 else 0 := by unfold liveOf; rw [if_neg (by rw [hh]; simp)]
    rw [hl]
    have hc := dev_cell h g2 (revOfD _)
    have hlt := World.block_lt_of_cell? w _ hc
    simp only [hh] at ha
    replace ha := Aside0.mk ha
    have HC := Aside0.mk hc
    have HLT := Aside0.mk hlt
    have G1 := Aside0.mk g1
    clear h hh hl hc hlt g1 g2 g3 g4
    generalize (devAt B node).rev = rv at HC ⊢
    cases rv with
    | true =>
      simp only [if_true]
      go_enter Tryz.func120, Tryz.ntmps120
      go_wp2_with fail
      refine ha.out.mono ?_
      rintro e w1 ⟨⟨i, rfl, hi, hpos⟩, hb⟩
      have HB := Aside0.mk hb
      have HN1 := Aside0.mk (HN.out.below hb)
      have HP := Aside0.mk hpos
      have HI := Aside0.mk hi
      obtain ⟨k0, k1, k2, k3, k4, kf⟩ := HN1.out.cells
      clear hb hpos hi ha k0 k1 k3 k4 kf
      have hii : i = posD B.devs node := HP.out (.inl trivial)
      have hc := (HB.out.cell HLT.out).trans HC.out
      have g1 := G1.out
      rw [← hii] at hc g1
      have hin : (i : Int) < (B.devs.length : Int) := by omega
      clear hii g1
      go_wp2_with fail
      go_ret2
      exact ⟨rfl, HB.out⟩
    | false =>
      simp only [Bool.false_eq_true, if_false, if_true]
      go_enter Tryz.func120, Tryz.ntmps120
      go_wp2_with fail
      refine ha.out.mono ?_
      rintro e w1 ⟨⟨i, rfl, hi, hpos⟩, hb⟩
      have HB := Aside0.mk hb
      have HN1 := Aside0.mk (HN.out.below hb)
      have HP := Aside0.mk hpos
      have HI := Aside0.mk hi
      obtain ⟨k0, k1, k2, k3, k4, kf⟩ := HN1.out.cells
      clear hb hpos hi ha k0 k1 k3 k4 kf
      have hii : i = posD B.devs node := HP.out (.inl trivial)
      have hc := (HB.out.cell HLT.out).trans HC.out
      have g1 := G1.out
      rw [← hii] at hc g1
      have hin : (i : Int) < (B.devs.length : Int) := by omega
      have HI2 := Aside0.mk hii
      clear hii g1
      go_wp2_with fail
      go_ret2
      exact ⟨⟨g, rfl, by rw [← HI2.out]; rfl⟩, HB.out⟩
end Go.Proofs.YthnpiimiimiijaaGreatDoor.Dir
