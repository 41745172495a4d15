/- Books in memory: the clones of their lists, a book of the call's own, and where a directory's book lies. What an op does to a book keeps what holds of all books. Where a directory lies; New and Book. slices.BinarySearchFunc at devices and at keys; at. slices.Insert at devices and at keys, one value, the row of the call's own. Values that are built: a slice of one value of many cells, a device. tak -/
import Derived.Test.YtmgbaefgcdglpaaGreatDoorNb2
import Derived.Lib.SliceRun
import Derived.OwnWalk
import Derived.Laws.OwnMore
import Derived.WideLaws
import Derived.Deep.LoopGhost
import Derived.Deep.RegionLaw
import Derived.BigRegion
section
namespace Go.Proofs.YtmgbaefgcdglpaaGreatDoor.Dir
open Go Go.RowKit Go.Proofs Go.Proofs.YtmgbaefgcdglpaaGreatDoorW.PrintWords Go.Proofs.YtmgbaefgcdglpaaGreatDoorW.PrintLast Go.Proofs.YtmgbaefgcdglpaaGreatDoorW.PrintMore
set_option linter.unusedVariables false
set_option linter.unusedSimpArgs false
def SrcAt (w : World) (A : Option Addr) (n size : Nat) (xs : List Value) : Prop :=
 xs.length = n * size ∧ (A = none → n = 0) ∧ ∀ a, A = some a → ∀ j u, xs[j]? = some u → w.cell? (a.add j) = some u
theorem SrcAt.grown {w w' : World} {A : Option Addr} {n size : Nat} {xs : List Value} (h : SrcAt w A n size xs) (hg : Below w.heap.size w w') : SrcAt w' A n size xs :=
 ⟨h.1, h.2.1, fun a ha j u hj => by
 have hc := h.2.2 a ha j u hj
 rw [hg.cell (World.block_lt_of_cell? w _ hc)]; exact hc⟩
theorem src_owns {w : World} {base : Nat} {e : TypeId} {size n : Nat} {v : Value} {xs : List Value} (h : w.ownsRow base e size v n xs) : ∃ A c, v = .slice A n c ∧ SrcAt w A n size xs ∧ (A = none ↔ v = .slice none 0 0) := by
 rcases h.2 with ⟨rfl, rfl⟩ | ⟨g, cap, cur, rfl, _⟩
 ·exact ⟨none, 0, rfl, ⟨h.1, fun _ => rfl, fun a ha => (by cases ha)⟩, by simp⟩
 ·exact ⟨some ⟨g, 0, none⟩, cap, rfl, ⟨h.1, fun e => (by cases e), fun a ha j u hj => (by cases ha; exact h.cells (g := g) rfl j u hj)⟩, by simp⟩
theorem info34 : (Tryz.prog.info? 28).map (fun i => (i.size, i.bytes)) = some (32, 32) := by kernel_rfl
theorem zero34 : ∃ z, ((Tryz.prog.info? 28).bind (·.zero)) = some z ∧ z.cells.size = 32 := ⟨.agg #[.int .u8 0, .int .u8 0, .int .u8 0, .int .u8 0, .int .u8 0, .int .u8 0, .int .u8 0, .int .u8 0, .int .u8 0, .int .u8 0, .int .u8 0, .int .u8 0, .int .u8 0, .int .u8 0, .int .u8 0, .int .u8 0, .int .u8 0, .int .u8 0, .int .u8 0, .int .u8 0, .int .u8 0, .int .u8 0, .int .u8 0, .int .u8 0, .int .u8 0, .int .u8 0, .int .u8 0, .int .u8 0, .int .u8 0, .int .u8 0, .int .u8 0, .int .u8 0], by kernel_rfl, by kernel_rfl⟩
set_option maxRecDepth 100000 in
theorem clone54 (A : Option Addr) (n c : Nat) (xs : List Value) (w : World) (hs : SrcAt w A n 32 xs) (hb : n * 32 ≤ 140737488355328) (h1 : ∀ u ∈ xs, u.oneCell' = true) :
 Calls Tryz.prog 81 #[.slice A n c] w fun e w' => ∃ v', e = .returned v' ∧ w'.ownsRow w.heap.size 28 32 v' n xs ∧ (v' = .slice none 0 0 ↔ A = none) ∧ Below w.heap.size w w' := by
 have t22 := Tryz.underlying23
 have q22 : ∀ (w : World) (a : Option Addr) (n c n' c' : Nat), (binOp .eql 23 (.slice a n c) (.slice none n' c')).run Tryz.prog w = .ok (.bool a.isNone) w := fun w a n c n' c' => Lib.run_eql_slice_nil w _ _ a n c n' c' t22
 have hx : xs.length = n * 32 := hs.1
 cases A with
 | none =>
 obtain rfl := hs.2.1 rfl
 have : xs = [] := List.eq_nil_of_length_eq_zero (by simpa using hx)
 subst this
 clear hs hx
 go_enter Tryz.func81, Tryz.ntmps81
 go_wp2
 go_ret
 exact ⟨_, rfl, World.ownsRow_nil _ _ _ _, by simp, Below.refl _ _⟩
 | some a =>
 obtain ⟨z, hz, hzs⟩ := zero34
 have hi := info34
 obtain ⟨i0, hi0⟩ : ∃ i0, Tryz.prog.info? 28 = some i0 := by
  cases h : Tryz.prog.info? 28 with
  | some i => exact ⟨i, rfl⟩
  | none => rw [h] at hi; cases hi
 rw [hi0] at hi hz
 simp only [Option.map_some, Option.some.injEq, Prod.mk.injEq, Option.bind_some] at hi hz
 obtain ⟨hz1, hz2⟩ := hi
 obtain ⟨ab, ao, asp⟩ := a
 have S := Aside0.mk (hs.2.2 _ rfl)
 have H1 := Aside0.mk h1
 have HX := Aside0.mk hx
 have HI := Aside0.mk (show Tryz.prog.info? 28 = some i0 ∧ i0.zero = some z ∧ i0.size = 32 ∧ i0.bytes = 32 ∧ z.cells.size = 32 from ⟨hi0, hz, hz1, hz2, hzs⟩)
 clear hs h1 hx hi0 hz hz1 hz2 hzs
 go_enter Tryz.func81, Tryz.ntmps81
 go_wp2_with (at_builtin; refine wpList_append_own _ rfl _ _ 23 rfl w.heap.size 28 i0 z 32 32 t22 HI.out.1 HI.out.2.1 HI.out.2.2.1 HI.out.2.2.2.1 HI.out.2.2.2.2 (by decide) _ _ _ rfl (World.ownsRow_made w #[] 0 (Nat.le_refl _) (Nat.zero_le _) (by simp)) ⟨ab, ao, asp⟩ n c xs rfl ?qc1 ?qc2 ?qc3 ?qc4 ?qc5 ?qc6 ?_)
 case qc1 => exact HX.out
 case qc2 =>
  intro j u hj
  exact Lib.cell?_alloc_some _ (S.out j u hj)
 case qc3 => exact H1.out
 case qc4 => rw [Nat.zero_add]; unfold maxLen; omega
 case qc5 => rw [Nat.zero_add]; exact hb
 case qc6 => simp
 intro v' w1 hown hgrow hnil
 go_wp2
 go_ret
 refine ⟨v', rfl, by simpa using hown, by simpa using hnil, ?_⟩
 exact ((Below.refl _ w).alloc (Nat.le_refl _) _).grown hgrow (by simp) (by intro k hk; simp [Value.ownBlock] at hk; omega)
theorem cloned54 (A : Option Addr) (n c : Nat) (xs : List Value) (w : World) (hs : SrcAt w A n 32 xs) (hb : n * 32 ≤ 140737488355328) (h1 : ∀ u ∈ xs, u.oneCell' = true) :
 Calls Tryz.prog 81 #[.slice A n c] w fun e w' => ∃ A' c', e = .returned (.slice A' n c') ∧ w'.ownsRow w.heap.size 28 32 (.slice A' n c') n xs ∧ (A' = none ↔ A = none) ∧ Below w.heap.size w w' := by
 refine (clone54 A n c xs w hs hb h1).mono ?_
 rintro e w' ⟨v', rfl, ho, hn, hb⟩
 obtain ⟨A', c', rfl, -, h2⟩ := src_owns ho
 exact ⟨A', c', rfl, ho, h2.trans hn, hb⟩
def ListsAt (w : World) (base : Nat) (dv sv : Value) (n1 n2 : Nat) (ds ks : List Value) : Prop :=
 w.ownsRow base 85 35 dv n1 ds ∧ w.ownsRow base 28 32 sv n2 ks ∧ ∀ k, dv.ownBlock = some k → sv.ownBlock ≠ some k
theorem ListsAt.kept {w w' : World} {base n1 n2 : Nat} {dv sv : Value} {ds ks : List Value} {row : Option Nat} (h : ListsAt w base dv sv n1 n2 ds ks) (hg : w.grownBy w' row) (h1 : dv.ownBlock = none ∨ dv.ownBlock ≠ row) (h2 : sv.ownBlock = none ∨ sv.ownBlock ≠ row) : ListsAt w' base dv sv n1 n2 ds ks :=
 ⟨h.1.kept hg h1, h.2.1.kept hg h2, h.2.2⟩
theorem ListsAt.below {w w' : World} {base n1 n2 : Nat} {dv sv : Value} {ds ks : List Value} (h : ListsAt w base dv sv n1 n2 ds ks) (hg : Below w.heap.size w w') : ListsAt w' base dv sv n1 n2 ds ks :=
 h.kept (grownBy_below hg) (by cases dv.ownBlock <;> simp) (by cases sv.ownBlock <;> simp)
theorem ListsAt.lower {w : World} {base base' n1 n2 : Nat} {dv sv : Value} {ds ks : List Value} (h : ListsAt w base dv sv n1 n2 ds ks) (hb : base' ≤ base) : ListsAt w base' dv sv n1 n2 ds ks :=
 ⟨own_weaken h.1 hb, own_weaken h.2.1 hb, h.2.2⟩
theorem below_step {w w1 w2 : World} (h : Below w.heap.size w w1) (k : Below w1.heap.size w1 w2) : Below w.heap.size w w2 := h.trans (k.mono h.size)
structure OwnPl (q : Nat) (W : World) (ver clock : Int) (dv sv : Value) (acl : ByteArray) : Prop where
 box : W.heap[q]? = some (.cells #[.int .i64 ver, .int .i64 clock, dv, sv, .string acl] 25 (0, 0))
 room : ∃ z0 z1 z2 z3 z4, W.heap[q + 1]? = some (.cells #[z0, z1, z2, z3, z4] 25 (0, 0))
section
variable {q : Nat} {W W' : World} {ver clock : Int} {dv sv : Value} {acl : ByteArray}
theorem OwnPl.start (w : World) (ver clock : Int) (dv sv : Value) (acl : ByteArray) (z0 z1 z2 z3 z4 : Value) : OwnPl w.heap.size ((w.alloc (.cells #[.int .i64 ver, .int .i64 clock, dv, sv, .string acl] 25)).alloc (.cells #[z0, z1, z2, z3, z4] 25)) ver clock dv sv acl :=
 ⟨by rw [Below.heap_alloc _ _ _ (by simp)]; exact heap_alloc_new w _, z0, z1, z2, z3, z4, by have := heap_alloc_new (w.alloc (.cells #[.int .i64 ver, .int .i64 clock, dv, sv, .string acl] 25)) (.cells #[z0, z1, z2, z3, z4] 25); simpa using this⟩
theorem OwnPl.lt (h : OwnPl q W ver clock dv sv acl) : q + 1 < W.heap.size := by
 obtain ⟨_, _, _, _, _, h⟩ := h.room
 exact (Array.getElem?_eq_some_iff.1 h).1
theorem OwnPl.later (h : OwnPl q W ver clock dv sv acl) (hb : Below W.heap.size W W') : OwnPl q W' ver clock dv sv acl :=
 ⟨(hb.block _ (by have := h.lt; omega)).trans h.box, by obtain ⟨z0, z1, z2, z3, z4, hr⟩ := h.room; exact ⟨z0, z1, z2, z3, z4, (hb.block _ h.lt).trans hr⟩⟩
theorem OwnPl.cells (h : OwnPl q W ver clock dv sv acl) : W.cell? ⟨q, 0, none⟩ = some (.int .i64 ver) ∧ W.cell? ⟨q, 1, none⟩ = some (.int .i64 clock) ∧ W.cell? ⟨q, 2, none⟩ = some dv ∧ W.cell? ⟨q, 3, none⟩ = some sv ∧ W.cell? ⟨q, 4, none⟩ = some (.string acl) ∧ (∀ j, W.frozen? ⟨q, j, none⟩ = false) := by
 have hk := h.box
 simp [World.cell?, World.frozen?, hk]
theorem OwnPl.set2 (h : OwnPl q W ver clock dv sv acl) (v : Value) : OwnPl q (W.setCell ⟨q, 2, none⟩ v) ver clock v sv acl :=
 ⟨by rw [heap_setCell_same W q 2 _ _ v h.box]; rfl, by obtain ⟨z0, z1, z2, z3, z4, hr⟩ := h.room; exact ⟨z0, z1, z2, z3, z4, by rw [Below.heap_setCell _ _ _ _ (by simp)]; exact hr⟩⟩
theorem OwnPl.set3 (h : OwnPl q W ver clock dv sv acl) (v : Value) : OwnPl q (W.setCell ⟨q, 3, none⟩ v) ver clock dv v acl :=
 ⟨by rw [heap_setCell_same W q 3 _ _ v h.box]; rfl, by obtain ⟨z0, z1, z2, z3, z4, hr⟩ := h.room; exact ⟨z0, z1, z2, z3, z4, by rw [Below.heap_setCell _ _ _ _ (by simp)]; exact hr⟩⟩
theorem OwnPl.filled (h : OwnPl q W ver clock dv sv acl) (a b c d e : Value) : (((((W.setCell ⟨q + 1, 0, none⟩ a).setCell ⟨q + 1, 1, none⟩ b).setCell ⟨q + 1, 2, none⟩ c).setCell ⟨q + 1, 3, none⟩ d).setCell ⟨q + 1, 4, none⟩ e).heap[q + 1]? = some (.cells #[a, b, c, d, e] 25 (0, 0)) := by
 obtain ⟨z0, z1, z2, z3, z4, hr⟩ := h.room
 have h1 := heap_setCell_same W (q + 1) 0 _ _ a hr
 have h2 := heap_setCell_same _ (q + 1) 1 _ _ b h1
 have h3 := heap_setCell_same _ (q + 1) 2 _ _ c h2
 have h4 := heap_setCell_same _ (q + 1) 3 _ _ d h3
 exact heap_setCell_same _ (q + 1) 4 _ _ e h4
end
end Go.Proofs.YtmgbaefgcdglpaaGreatDoor.Dir
end
section
set_option linter.unusedVariables false
set_option linter.unusedSimpArgs false
namespace Go.Proofs.YtmgbaefgcdglpaaGreatDoor.Dir
theorem count_split {α : Type} (p : α → Bool) : ∀ (l : List α), l.Pairwise (fun a b => p b = true → p a = true) → l.take (l.countP p) = l.filter p ∧ l.drop (l.countP p) = l.filter (fun a => !p a)
 | [], _ => by simp
 | a :: l, h => by
 obtain ⟨h1, h2⟩ := List.pairwise_cons.1 h
 obtain ⟨i1, i2⟩ := count_split p l h2
 cases ha : p a
 ·have hl : ∀ x ∈ l, p x = false := fun x hx => by
  cases hp : p x
  ·rfl
  ·rw [h1 x hx hp] at ha; cases ha
  have h0 : l.countP p = 0 := List.countP_eq_zero.2 (fun x hx => by rw [hl x hx]; decide)
  have e1 : l.filter p = [] := List.filter_eq_nil_iff.2 (fun x hx => by rw [hl x hx]; decide)
  have e2 : l.filter (fun a => !p a) = l := List.filter_eq_self.2 (fun x hx => by rw [hl x hx]; rfl)
  simp [List.countP_cons, ha, h0, e1, e2]
 ·simp [List.countP_cons, ha, i1, i2]
theorem insertAt_perm {α : Type} (l : List α) (i : Nat) (x : α) : (insertAt l i x).Perm (x :: l) := by
 unfold insertAt
 refine List.perm_middle.trans ?_
 rw [List.take_append_drop]
theorem len_insertAt {α : Type} (l : List α) (i : Nat) (x : α) : (insertAt l i x).length = l.length + 1 := (insertAt_perm l i x).length_eq
theorem insertAt_sorted {α : Type} (R : α → α → Prop) (p : α → Bool) (l : List α) (x : α) (hR : l.Pairwise R) (hp : l.Pairwise (fun a b => p b = true → p a = true)) (h1 : ∀ a ∈ l, p a = true → R a x) (h2 : ∀ a ∈ l, p a = false → R x a) :
 (insertAt l (l.countP p) x).Pairwise R := by
 obtain ⟨e1, e2⟩ := count_split p l hp
 have hparts := hR
 rw [← List.take_append_drop (l.countP p) l] at hparts
 obtain ⟨q1, q2, q3⟩ := List.pairwise_append.1 hparts
 unfold insertAt
 refine List.pairwise_append.2 ⟨q1, List.pairwise_cons.2 ⟨fun a ha => ?_, q2⟩, fun a ha b hb => ?_⟩
 ·rw [e2] at ha
 obtain ⟨m, hm⟩ := List.mem_filter.1 ha
 exact h2 a m (by simpa using hm)
 ·rcases List.mem_cons.1 hb with rfl | hb
 ·rw [e1] at ha
  obtain ⟨m, hm⟩ := List.mem_filter.1 ha
  exact h1 a m hm
 ·exact q3 a ha b hb
theorem devs_down {l : List Dev} (h : l.Pairwise (·.node < ·.node)) (n : Int) : l.Pairwise (fun a b => decide (b.node < n) = true → decide (a.node < n) = true) :=
 h.imp (fun {a b} hab hb => decide_eq_true (by have := of_decide_eq_true hb; omega))
theorem keys_down {l : List Key} (h : l.Pairwise (fun a b => ltK a b = true)) (k : Key) : l.Pairwise (fun a b => ltK b k = true → ltK a k = true) :=
 h.imp (fun {a b} hab hb => ltK_trans hab hb)
theorem has_split {l : List Dev} (h : l.Pairwise (·.node < ·.node)) {n : Int} (hh : hasD l n = true) : ∃ d r, l.drop (posD l n) = d :: r ∧ d.node = n ∧ (∀ x ∈ r, n < x.node) ∧ (∀ x ∈ l.take (posD l n), x.node < n) := by
 obtain ⟨e1, e2⟩ := count_split _ l (devs_down h n)
 obtain ⟨d, hd, hn⟩ := List.any_eq_true.1 hh
 have hn := of_decide_eq_true hn
 have hm : d ∈ l.drop (posD l n) := by unfold posD; rw [e2]; exact List.mem_filter.2 ⟨hd, by simp; omega⟩
 have hp : (l.drop (posD l n)).Pairwise (·.node < ·.node) := h.sublist (List.drop_sublist _ _)
 have hlow : ∀ x ∈ l.drop (posD l n), n ≤ x.node := fun x hx => by
 unfold posD at hx
 rw [e2] at hx
 have := (List.mem_filter.1 hx).2
 simp at this; omega
 have htake : ∀ x ∈ l.take (posD l n), x.node < n := fun x hx => by
 unfold posD at hx
 rw [e1] at hx
 exact of_decide_eq_true (List.mem_filter.1 hx).2
 cases hc : l.drop (posD l n) with
 | nil => rw [hc] at hm; cases hm
 | cons a r =>
 rw [hc] at hm hp hlow
 obtain ⟨p1, p2⟩ := List.pairwise_cons.1 hp
 have ha := hlow a (List.mem_cons_self ..)
 have hdn : a.node = n := by
  rcases List.mem_cons.1 hm with rfl | hdr
  ·exact hn
  ·have := p1 d hdr; omega
 exact ⟨a, r, rfl, hdn, fun x hx => by have := p1 x hx; omega, htake⟩
theorem has_at {b : Book} (h : b.devs.Pairwise (·.node < ·.node)) {n : Int} (hh : hasD b.devs n = true) : posD b.devs n < b.devs.length ∧ b.devs[posD b.devs n]? = some (devAt b n) ∧ (devAt b n).node = n ∧ devAt b n ∈ b.devs := by
 obtain ⟨d, r, h1, h2, -, -⟩ := has_split h hh
 have hg : b.devs[posD b.devs n]? = some d := by
 have := congrArg (fun l => l[0]?) h1
 simpa using this
 obtain ⟨hlt, he⟩ := List.getElem?_eq_some_iff.1 hg
 have hdv : devAt b n = d := by unfold devAt; rw [List.getD_eq_getElem?_getD, hg]; rfl
 rw [hdv]
 exact ⟨hlt, hg, h2, he ▸ List.getElem_mem hlt⟩
theorem set_split {l : List Dev} (h : l.Pairwise (·.node < ·.node)) {n : Int} (hh : hasD l n = true) (x : Dev) : ∃ d r, l = l.take (posD l n) ++ d :: r ∧ l.set (posD l n) x = l.take (posD l n) ++ x :: r ∧ d.node = n ∧ (∀ y ∈ r, n < y.node) ∧ (∀ y ∈ l.take (posD l n), y.node < n) := by
 obtain ⟨d, r, h1, h2, h3, h4⟩ := has_split h hh
 have hl : l = l.take (posD l n) ++ d :: r := by rw [← h1, List.take_append_drop]
 have hlen : (l.take (posD l n)).length = posD l n := by
 rw [List.length_take]
 have : (l.drop (posD l n)).length ≠ 0 := by rw [h1]; simp
 rw [List.length_drop] at this
 omega
 refine ⟨d, r, hl, ?_, h2, h3, h4⟩
 generalize posD l n = i at *
 conv => lhs; rw [hl]
 rw [List.set_append_right _ _ (by omega), hlen, Nat.sub_self, List.set_cons_zero]
theorem taken_put {b : Book} {n : Int} (hw : WF b) (hh : hasD b.devs n = true) (x : Dev) : (takenB { spendOf b (devAt b n).key with devs := b.devs.set (posD b.devs n) x }).Perm (x.key :: takenB b) := by
 obtain ⟨d, r, h1, h2, h3, h4, h5⟩ := set_split hw.devs hh x
 obtain ⟨g1, g2, g3, g4⟩ := has_at hw.devs hh
 have hd : devAt b n = d := by
 have := g2
 generalize posD b.devs n = i at *
 rw [h1, List.getElem?_append_right (by rw [List.length_take]; omega), List.length_take, show i - min i b.devs.length = 0 by omega] at this
 simpa using this.symm
 unfold takenB
 simp only [spendOf]
 rw [h2, hd]
 have e1 : (b.devs.map (·.key)).Perm (d.key :: ((b.devs.take (posD b.devs n) ++ r).map (·.key))) := by
 conv => lhs; rw [h1]
 rw [List.map_append, List.map_cons, List.map_append]
 exact List.perm_middle
 have e2 : ((b.devs.take (posD b.devs n) ++ x :: r).map (·.key)).Perm (x.key :: ((b.devs.take (posD b.devs n) ++ r).map (·.key))) := by
 rw [List.map_append, List.map_cons, List.map_append]
 exact List.perm_middle
 refine ((insertAt_perm _ _ _).append e2).trans ?_
 refine List.perm_middle.trans (List.Perm.cons _ ?_)
 refine List.Perm.trans ?_ ((List.Perm.refl b.spent).append e1).symm
 exact List.perm_middle.symm
theorem WF.put {b : Book} (hw : WF b) {n : Int} (hh : hasD b.devs n = true) (x : Dev) (hn : x.node = n) (he : 1 ≤ x.exp ∧ x.exp ≤ maxN) : (b.devs.set (posD b.devs n) x).Pairwise (·.node < ·.node) ∧ (∀ d ∈ b.devs.set (posD b.devs n) x, 1 ≤ d.node ∧ d.node ≤ 8) ∧ (∀ d ∈ b.devs.set (posD b.devs n) x, 1 ≤ d.exp ∧ d.exp ≤ maxN) := by
 obtain ⟨d, r, h1, h2, h3, h4, h5⟩ := set_split hw.devs hh x
 have hp := hw.devs
 rw [h1] at hp
 obtain ⟨q1, q2, q3⟩ := List.pairwise_append.1 hp
 obtain ⟨q4, q5⟩ := List.pairwise_cons.1 q2
 obtain ⟨g1, g2, g3, g4⟩ := has_at hw.devs hh
 refine ⟨?_, fun y hy => ?_, fun y hy => ?_⟩
 ·rw [h2]
 refine List.pairwise_append.2 ⟨q1, List.pairwise_cons.2 ⟨fun y hy => by have := h4 y hy; omega, q5⟩, fun y hy z hz => ?_⟩
 rcases List.mem_cons.1 hz with rfl | hz
 ·have := h5 y hy; omega
 ·exact q3 y hy z (List.mem_cons_of_mem _ hz)
 ·rcases List.mem_or_eq_of_mem_set hy with hy | rfl
 ·exact hw.nodes y hy
 ·have := hw.nodes _ g4; omega
 ·rcases List.mem_or_eq_of_mem_set hy with hy | rfl
 ·exact hw.exps y hy
 ·exact he
theorem WF.spend {b : Book} (hw : WF b) {n : Int} (hh : hasD b.devs n = true) (hl : b.spent.length ≠ 64) (x : Dev) (hn : x.node = n) (he : 1 ≤ x.exp ∧ x.exp ≤ maxN) (hk : x.key ∉ takenB b) (h0 : x.key ≠ key0) :
 WF { spendOf b (devAt b n).key with devs := b.devs.set (posD b.devs n) x } := by
 obtain ⟨p1, p2, p3⟩ := hw.put hh x hn he
 obtain ⟨g1, g2, g3, g4⟩ := has_at hw.devs hh
 have ht := taken_put hw hh x
 have hks : (devAt b n).key ∉ b.spent := fun hm => by
 have := hw.keys
 unfold takenB at this
 exact (List.nodup_append.1 this).2.2 _ hm _ (List.mem_map.2 ⟨_, g4, rfl⟩) rfl
 refine ⟨hw.ver, hw.clock, p1, p2, p3, ?_, ?_, ?_, ?_⟩
 ·refine insertAt_sorted _ _ b.spent _ hw.spent (keys_down hw.spent _) (fun a ha h => h) (fun a ha h => ?_)
 rcases ltK_tri a (devAt b n).key with h' | rfl | h'
 ·rw [h] at h'; cases h'
 ·exact absurd ha hks
 ·exact h'
 ·have := hw.len
 show (insertAt _ _ _).length ≤ 64
 rw [len_insertAt]
 omega
 ·exact ht.nodup_iff.2 (List.nodup_cons.2 ⟨hk, hw.keys⟩)
 ·intro hm
 rcases List.mem_cons.1 (ht.mem_iff.1 hm) with e | e
 ·exact h0 e.symm
 ·exact hw.nonzero e
theorem devs_len {b : Book} (hw : WF b) : b.devs.length ≤ 8 := by
 have aux : ∀ (l : List Dev) (lo : Int), l.Pairwise (·.node < ·.node) → (∀ d ∈ l, lo ≤ d.node ∧ d.node ≤ 8) → lo ≤ 9 → (l.length : Int) ≤ 9 - lo := by
 intro l
 induction l with
 | nil => intro lo _ _ h; simp; omega
 | cons a l ih =>
  intro lo hp hr hlo
  obtain ⟨p1, p2⟩ := List.pairwise_cons.1 hp
  have ha := hr a (List.mem_cons_self ..)
  have := ih (a.node + 1) p2 (fun d hd => ⟨by have := p1 d hd; omega, (hr d (List.mem_cons_of_mem _ hd)).2⟩) (by omega)
  simp
  omega
 have := aux b.devs 1 hw.devs hw.nodes (by decide)
 omega
end Go.Proofs.YtmgbaefgcdglpaaGreatDoor.Dir
/- What an op does to a book, in the words that the statements ask for: which devices stay, which keys are spent. -/
namespace Go.Proofs.YtmgbaefgcdglpaaGreatDoor.Dir
structure Steps (b b' : Book) (err : Int) (ky : Key) : Prop where
 kept : ∀ d ∈ b.devs, (∃ d' ∈ b'.devs, d'.key = d.key ∧ d'.node = d.node ∧ (d.rev = true → d'.rev = true)) ∨ d.key ∈ b'.spent
 spent : ∀ k ∈ b.spent, k ∈ b'.spent
 came : ∀ d' ∈ b'.devs, (∃ d ∈ b.devs, d.key = d'.key ∧ d.node = d'.node) ∨ (d'.key ∉ takenB b ∧ d'.rev = false ∧ err = 0 ∧ d'.key = ky)
 out : ∀ k ∈ b'.spent, k ∈ takenB b
theorem Steps.same (b b' : Book) (err : Int) (ky : Key) (h1 : b'.devs = b.devs) (h2 : b'.spent = b.spent) : Steps b b' err ky where
 kept d hd := .inl ⟨d, by rw [h1]; exact hd, rfl, rfl, id⟩
 spent k hk := by rw [h2]; exact hk
 came d hd := .inl ⟨d, by rw [← h1]; exact hd, rfl, rfl⟩
 out k hk := List.mem_append_left _ (by rw [← h2]; exact hk)
end Go.Proofs.YtmgbaefgcdglpaaGreatDoor.Dir
end
section
namespace Go.Proofs.YtmgbaefgcdglpaaGreatDoor.Dir
open Go Go.RowKit Go.Proofs Go.Proofs.YtmgbaefgcdglpaaGreatDoorW.PrintWords Go.Proofs.YtmgbaefgcdglpaaGreatDoorW.PrintLast Go.Proofs.YtmgbaefgcdglpaaGreatDoorW.PrintMore
set_option linter.unusedVariables false
set_option linter.unusedSimpArgs false
def str (l : List UInt8) : ByteArray := ⟨l.toArray⟩
def bookCells (B : Book) (A1 : Option Addr) (c1 : Nat) (A2 : Option Addr) (c2 : Nat) : List Value :=
 [.int .i64 B.ver, .int .i64 B.clock, .slice A1 B.devs.length c1, .slice A2 B.spent.length c2, .string (str B.acl)]
def Lists (w : World) (base : Nat) (B : Book) (A1 : Option Addr) (c1 : Nat) (A2 : Option Addr) (c2 : Nat) : Prop :=
 ListsAt w base (.slice A1 B.devs.length c1) (.slice A2 B.spent.length c2) B.devs.length B.spent.length (flatD B.devs) (flatK B.spent)
def Few (B : Book) : Prop := B.devs.length ≤ 8 ∧ B.spent.length ≤ 64
theorem WF.few {B : Book} (h : WF B) : Few B := ⟨devs_len h, h.len⟩
theorem flatK_one (l : List Key) : ∀ u ∈ flatK l, u.oneCell' = true := by
 intro u hu
 obtain ⟨d, -, h⟩ := List.mem_flatMap.1 hu
 exact encK_one d u h
def DirAt (w : World) (p : Nat) (B : Book) : Prop :=
 ∃ A1 c1 A2 c2, w.heap[p]? = some (.cells (.bool true :: bookCells B A1 c1 A2 c2).toArray 83 (0, 0)) ∧ Lists w 0 B A1 c1 A2 c2 ∧ (∀ k, (Value.slice A1 B.devs.length c1).ownBlock = some k → k ≠ p) ∧ (∀ k, (Value.slice A2 B.spent.length c2).ownBlock = some k → k ≠ p)
theorem DirAt.lt {w : World} {p : Nat} {B : Book} (h : DirAt w p B) : p < w.heap.size := by
 obtain ⟨_, _, _, _, h, _⟩ := h
 exact (Array.getElem?_eq_some_iff.1 h).1
theorem DirAt.below {w w' : World} {p : Nat} {B : Book} (h : DirAt w p B) (hb : Below w.heap.size w w') : DirAt w' p B := by
 have hl := h.lt
 obtain ⟨A1, c1, A2, c2, h1, h2, h3, h4⟩ := h
 exact ⟨A1, c1, A2, c2, (hb.block _ hl).trans h1, h2.below hb, h3, h4⟩
theorem Lists.src {w : World} {base : Nat} {B : Book} {A1 A2 : Option Addr} {c1 c2 : Nat} (h : Lists w base B A1 c1 A2 c2) : SrcAt w A1 B.devs.length 35 (flatD B.devs) ∧ SrcAt w A2 B.spent.length 32 (flatK B.spent) := by
 obtain ⟨A, c, e, hs, -⟩ := src_owns h.1
 obtain ⟨A', c', e', hs', -⟩ := src_owns h.2.1
 cases e; cases e'
 exact ⟨hs, hs'⟩
theorem splice_all {α : Type} (cur cs : List α) (h : cur.length = cs.length) : splice cur 0 cs = cs := by
 unfold splice
 rw [List.take_zero, List.drop_eq_nil_of_le (by omega)]
 simp
end Go.Proofs.YtmgbaefgcdglpaaGreatDoor.Dir
/- The place of a device with a key; Valid. -/
namespace Go.Proofs.YtmgbaefgcdglpaaGreatDoor.Dir
open Go Go.RowKit Go.Proofs Go.Proofs.YtmgbaefgcdglpaaGreatDoorW.PrintWords Go.Proofs.YtmgbaefgcdglpaaGreatDoorW.PrintLast Go.Proofs.YtmgbaefgcdglpaaGreatDoorW.PrintMore
set_option linter.unusedVariables false
set_option linter.unusedSimpArgs false
theorem flatMap_at {α : Type} (f : α → List Value) (k : Nat) (hk : ∀ x, (f x).length = k) : ∀ (l : List α) (j : Nat) (x : α), l[j]? = some x → ∀ i v, (f x)[i]? = some v → (l.flatMap f)[j * k + i]? = some v
 | [], j, x, h, _, _, _ => by simp at h
 | a :: l, 0, x, h, i, v, hv => by
 simp at h
 subst h
 rw [List.flatMap_cons, Nat.zero_mul, Nat.zero_add, List.getElem?_append_left (List.getElem?_eq_some_iff.1 hv).1]
 exact hv
 | a :: l, j + 1, x, h, i, v, hv => by
 rw [List.flatMap_cons, List.getElem?_append_right (by rw [hk, Nat.add_mul]; omega), hk, show (j + 1) * k + i - k = j * k + i by rw [Nat.add_mul]; omega]
 exact flatMap_at f k hk l j x (by simpa using h) i v hv
theorem row_cell {w W : World} {base : Nat} {e : TypeId} {size g n c : Nat} {xs : List Value} (h : w.ownsRow base e size (.slice (some ⟨g, 0, none⟩) n c) n xs) (hb : Below w.heap.size w W) {j : Nat} {v : Value} (hj : xs[j]? = some v) : W.cell? ⟨g, j, none⟩ = some v := by
 have h' := h.cells (g := g) rfl j v hj
 rw [add_at, Nat.zero_add] at h'
 rw [hb.cell (World.block_lt_of_cell? w _ h')]
 exact h'
theorem load_key {w : World} {base g n c : Nat} {l : List Key} (h : w.ownsRow base 28 32 (.slice (some ⟨g, 0, none⟩) n c) n (flatK l)) {W : World} (hb : Below w.heap.size w W) {j : Nat} {d : Key} (hj : l[j]? = some d) :
 (Instr.loadAt 28 (.pointer (some ⟨g, j * 32, none⟩))).run Tryz.prog W = .ok (.agg (encK d).toArray) W :=
 run_loadAtK Tryz.prog W 28 32 Tryz.isAgg28 Tryz.sizeOf28 g (j * 32) (encK d) (encK_len _) (fun i v hv => row_cell h hb (flatMap_at encK 32 encK_len l j d hj i v hv))
theorem find_at {l : List Dev} {p : Dev → Bool} {i : Nat} {d : Dev} (hi : l[i]? = some d) (hd : p d = true) (h : ∀ j, j < i → ∀ d', l[j]? = some d' → p d' = false) : l.find? p = some d := by
 obtain ⟨hlt, e⟩ := List.getElem?_eq_some_iff.1 hi
 refine List.find?_eq_some_iff_getElem.2 ⟨hd, i, hlt, e, fun j hj => ?_⟩
 have := h j hj l[j] (List.getElem?_eq_getElem (by omega))
 simp [this]
def validRes (r : Option Int) : Value := match r with | none => .tuple #[.int .i64 0, .bool false] | some n => .tuple #[.int .i64 n, .bool true]
theorem sizeD : (Tryz.prog.info? 85).map (·.size) = some 35 := by kernel_rfl
end Go.Proofs.YtmgbaefgcdglpaaGreatDoor.Dir
end
section
namespace Go.Proofs.YtmgbaefgcdglpaaGreatDoor.Dir
open Go Go.RowKit Go.Proofs Go.Proofs.YtmgbaefgcdglpaaGreatDoorW.PrintWords Go.Proofs.YtmgbaefgcdglpaaGreatDoorW.PrintLast Go.Proofs.YtmgbaefgcdglpaaGreatDoorW.PrintMore
set_option linter.unusedVariables false
set_option linter.unusedSimpArgs false
def Parts {α : Type} (f : α → Int) (l : List α) (lo hi : Nat) : Prop :=
 (∀ (a b : Nat) x y, a ≤ b → l[a]? = some x → l[b]? = some y → f y < 0 → f x < 0) →
 (∀ t x, t < lo → l[t]? = some x → f x < 0) ∧ (∀ t x, hi ≤ t → l[t]? = some x → 0 ≤ f x)
theorem Parts.start {α : Type} (f : α → Int) (l : List α) : Parts f l 0 l.length := fun _ => ⟨fun t x h => absurd h (Nat.not_lt_zero _), fun t x h hx => absurd (List.getElem?_eq_some_iff.1 hx).1 (by omega)⟩
theorem Parts.up {α : Type} {f : α → Int} {l : List α} {lo hi m : Nat} {x : α} (h : Parts f l lo hi) (hm : l[m]? = some x) (hx : f x < 0) : Parts f l (m + 1) hi := fun M =>
 ⟨fun t y ht hy => M t m y x (by omega) hy hm hx, (h M).2⟩
end Go.Proofs.YtmgbaefgcdglpaaGreatDoor.Dir
/- at and live: where a node's device is. -/
namespace Go.Proofs.YtmgbaefgcdglpaaGreatDoor.Dir
open Go Go.RowKit Go.Proofs Go.Proofs.YtmgbaefgcdglpaaGreatDoorW.PrintWords Go.Proofs.YtmgbaefgcdglpaaGreatDoorW.PrintLast Go.Proofs.YtmgbaefgcdglpaaGreatDoorW.PrintMore
set_option linter.unusedVariables false
set_option linter.unusedSimpArgs false
structure NextIs (w : World) (base q : Nat) (B : Book) (A1 : Option Addr) (c1 : Nat) (A2 : Option Addr) (c2 : Nat) : Prop where
 box : w.heap[q]? = some (.cells (bookCells B A1 c1 A2 c2).toArray 25 (0, 0))
 lists : Lists w base B A1 c1 A2 c2
 low : base ≤ q
 ne1 : ∀ k, (Value.slice A1 B.devs.length c1).ownBlock = some k → k ≠ q
 ne2 : ∀ k, (Value.slice A2 B.spent.length c2).ownBlock = some k → k ≠ q
def NextAt (w : World) (base q : Nat) (B : Book) : Prop := ∃ A1 c1 A2 c2, NextIs w base q B A1 c1 A2 c2
section
variable {w w' : World} {base q : Nat} {B : Book} {A1 : Option Addr} {c1 : Nat} {A2 : Option Addr} {c2 : Nat}
theorem NextIs.lt (h : NextIs w base q B A1 c1 A2 c2) : q < w.heap.size := (Array.getElem?_eq_some_iff.1 h.box).1
theorem NextIs.below (h : NextIs w base q B A1 c1 A2 c2) (hb : Below w.heap.size w w') : NextIs w' base q B A1 c1 A2 c2 :=
 ⟨(hb.block _ h.lt).trans h.box, h.lists.below hb, h.low, h.ne1, h.ne2⟩
theorem NextIs.cells (h : NextIs w base q B A1 c1 A2 c2) : w.cell? ⟨q, 0, none⟩ = some (.int .i64 B.ver) ∧ w.cell? ⟨q, 1, none⟩ = some (.int .i64 B.clock) ∧ w.cell? ⟨q, 2, none⟩ = some (.slice A1 B.devs.length c1) ∧ w.cell? ⟨q, 3, none⟩ = some (.slice A2 B.spent.length c2) ∧ w.cell? ⟨q, 4, none⟩ = some (.string (str B.acl)) ∧ (∀ j, w.frozen? ⟨q, j, none⟩ = false) := by
 have hk := h.box
 simp [World.cell?, World.frozen?, hk, bookCells]
theorem NextAt.below (h : NextAt w base q B) (hb : Below w.heap.size w w') : NextAt w' base q B := by
 obtain ⟨A1, c1, A2, c2, h⟩ := h
 exact ⟨A1, c1, A2, c2, h.below hb⟩
end
theorem owned_at {w : World} {base : Nat} {e : TypeId} {size n c : Nat} {A : Option Addr} {xs : List Value} (h : w.ownsRow base e size (.slice A n c) n xs) (hn : n ≠ 0) : ∃ g, A = some ⟨g, 0, none⟩ := by
 rcases h.2 with ⟨e, e2⟩ | ⟨g, _, _, e, _⟩
 ·omega
 ·injection e with e; exact ⟨g, e⟩
end Go.Proofs.YtmgbaefgcdglpaaGreatDoor.Dir
end
section
namespace Go.Proofs.YtmgbaefgcdglpaaGreatDoor.Dir
open Go Go.RowKit Go.Proofs Go.Proofs.YtmgbaefgcdglpaaGreatDoorW.PrintWords Go.Proofs.YtmgbaefgcdglpaaGreatDoorW.PrintLast Go.Proofs.YtmgbaefgcdglpaaGreatDoorW.PrintMore
set_option linter.unusedVariables false
set_option linter.unusedSimpArgs false
end Go.Proofs.YtmgbaefgcdglpaaGreatDoor.Dir
end
section
namespace Go.Proofs.YtmgbaefgcdglpaaGreatDoor.Dir
open Go Go.RowKit Go.Proofs Go.Proofs.YtmgbaefgcdglpaaGreatDoorW.PrintWords Go.Proofs.YtmgbaefgcdglpaaGreatDoorW.PrintLast Go.Proofs.YtmgbaefgcdglpaaGreatDoorW.PrintMore
set_option linter.unusedVariables false
set_option linter.unusedSimpArgs false
section
variable {P : Program} {ops : Array Oper} {Q : Exit → Act → World → Prop} {rest : List Oper} {a : Act} {w : World} {dst : Option Tmp} {ty : TypeId} {pos : String} {after : Array Edge} {g : Option (Nat × Bool)}
theorem at_load (t : TypeId) (x : Operand) (h : wpList P ops Q (⟨dst, .load t x, ty, pos, after, g⟩ :: rest) a w) : wpList P ops Q (⟨dst, .load t x, ty, pos, after, g⟩ :: rest) a w := h
theorem at_store (t : TypeId) (x y : Operand) (h : wpList P ops Q (⟨dst, .store t x y, ty, pos, after, g⟩ :: rest) a w) : wpList P ops Q (⟨dst, .store t x y, ty, pos, after, g⟩ :: rest) a w := h
theorem at_bslice (t : TypeId) (x : Operand) (h : wpList P ops Q (⟨dst, .buildSlice t 1 #[(0, x)], ty, pos, after, g⟩ :: rest) a w) : wpList P ops Q (⟨dst, .buildSlice t 1 #[(0, x)], ty, pos, after, g⟩ :: rest) a w := h
end
theorem foldl_set (off : Nat) : ∀ (cs : List Value) (s : Nat) (cells : Array Value), off + s + cs.length ≤ cells.size →
 (cs.zipIdx s).foldl (fun (a : Array Value) (p : Value × Nat) => a.setIfInBounds (off + p.2) p.1) cells = (cells.toList.take (off + s) ++ cs ++ cells.toList.drop (off + s + cs.length)).toArray
 | [], s, cells, _ => by simp
 | c :: cs, s, cells, h => by
 have hl : off + s + (cs.length + 1) ≤ cells.toList.length := by simpa using h
 rw [List.zipIdx_cons, List.foldl_cons, foldl_set off cs (s + 1) _ (by simp at h ⊢; omega)]
 have e := list_seg_step cells.toList (off + s) c cs hl
 simp only [Array.toList_setIfInBounds]
 rw [show off + (s + 1) = off + s + 1 by omega, e]
 rfl
theorem fill_cons (place : Nat → Option (Nat × Nat)) (cells : Array Value) (i : Nat) (v : Value) (rest : List (Nat × Value)) (off size : Nat) (hp : place i = some (off, size)) (hv : v.cells.size = size) (hf : off + size ≤ cells.size) :
 Instr.fill place cells ((i, v) :: rest) = Instr.fill place (splice cells.toList off v.cells.toList).toArray rest := by
 have h0 : (v.cells.zipIdx.foldl (fun cs (x : Value × Nat) => cs.setIfInBounds (off + x.2) x.1) cells) = (splice cells.toList off v.cells.toList).toArray := by
 rw [← Array.foldl_toList, Array.toList_zipIdx]
 have := foldl_set off v.cells.toList 0 cells (by simp [hv]; omega)
 simp only [Nat.add_zero] at this
 rw [this]
 simp [splice]
 simp only [Instr.fill, hp]
 rw [if_neg (by simp [hv]; omega)]
 exact congrArg (fun a => Instr.fill place a rest) h0
theorem splice_whole (cur cs : List Value) (h : cur.length = cs.length) : splice cur 0 cs = cs := by
 unfold splice
 rw [List.take_zero, List.drop_eq_nil_of_le (by omega)]
 simp
theorem run_buildSlice1 (P : Program) (w : World) (t elem : TypeId) (k : Nat) (Z : Array Value) (ht : P.underlying t = some (.slice elem)) (hz : ∀ w, (Go.sizeOf elem).run P w = .ok k w) (hv : ∀ w, (zeroValue elem).run P w = .ok (.agg Z) w) (hk : 0 < k) (hk2 : k ≤ 1000) (cs : List Value) (hl : cs.length = k) :
 (Instr.buildSlice t 1 #[(0, .agg cs.toArray)]).run P w = .ok (.slice (some ⟨w.heap.size, 0, none⟩) 1 1) (w.alloc (.cells cs.toArray elem)) := by
 have hfill : Instr.fill (fun i => some (i * k, k)) ((Array.range (1 * k)).map (Z[· % Z.size]!)) [(0, .agg cs.toArray)] = some cs.toArray := by
 rw [fill_cons _ _ 0 _ _ (0 * k) k rfl (by simpa [Value.cells] using hl) (by simp)]
 simp only [Instr.fill, Nat.zero_mul]
 rw [splice_whole _ _ (by simp [Value.cells, hl])]
 simp [Value.cells]
 have h1 : ¬ (1 * k > 2 ^ 24) := by omega
 have h2 : ¬ (1 * k = 0) := by omega
 simp only [Instr.buildSlice, Sem.run_bind, run_underlying ht, Result.andThen_ok, hz, h1, h2, if_false, Sem.run_pure, hv, Value.cells]
 rw [hfill]
 simp [newRow, newObj]
 rfl
theorem execOp_buildSlice (P : Program) (w : World) (t : TypeId) (x : Operand) (o : Oper) (ho : o.op = .buildSlice t 1 #[(0, x)]) (a : Act) (v : Value) (hx : a.eval x = v) (r : Value) (w' : World) (hr : (Instr.buildSlice t 1 #[(0, v)]).run P w = .ok r w') : (execOp a.eval o).run P w = .ok (.value r) w' := by
 unfold execOp
 simp only [ho, Sem.run_bind]
 simp [hx, hr]
theorem wpList_buildSlice1 {P : Program} {w : World} {ops : Array Oper} {rest : List Oper} {o : Oper} {a : Act} {Q : Exit → Act → World → Prop} (hgd : o.guard = none) (t : TypeId) (x : Operand) (ho : o.op = .buildSlice t 1 #[(0, x)]) (v : Value) (hx : a.eval x = v) (r : Value) (w' : World)
 (hr : (Instr.buildSlice t 1 #[(0, v)]).run P w = .ok r w') (h : wpList P ops Q rest (a.put o.dst r) w') : wpList P ops Q (o :: rest) a w :=
 wpList_plain hgd fun K hK => by
 unfold Oper.wp
 rw [execOp_buildSlice P w t x o ho a v hx r w' hr]
 exact hK _ _ h
theorem buildK (w : World) (k : Key) : (Instr.buildSlice 23 1 #[(0, .agg (encK k).toArray)]).run Tryz.prog w = .ok (.slice (some ⟨w.heap.size, 0, none⟩) 1 1) (w.alloc (.cells (encK k).toArray 28)) :=
 run_buildSlice1 Tryz.prog w 23 28 32 _ Tryz.underlying23 Tryz.sizeOf28 Tryz.zeroValue28 (by decide) (by decide) _ (encK_len k)
end Go.Proofs.YtmgbaefgcdglpaaGreatDoor.Dir
/- spend: a key goes among those that are spent. -/
namespace Go.Proofs.YtmgbaefgcdglpaaGreatDoor.Dir
open Go Go.RowKit Go.Proofs Go.Proofs.YtmgbaefgcdglpaaGreatDoorW.PrintWords Go.Proofs.YtmgbaefgcdglpaaGreatDoorW.PrintLast Go.Proofs.YtmgbaefgcdglpaaGreatDoorW.PrintMore
set_option linter.unusedVariables false
set_option linter.unusedSimpArgs false
theorem run_storeAt1 (P : Program) (w : World) (t : TypeId) (hz : ∀ w, (Go.sizeOf t).run P w = .ok 1 w) (g o : Nat) (v : Value) (hv : v.cells = #[v]) (h1 : v.oneCell' = true) (old : Value) (hc : w.cell? ⟨g, o, none⟩ = some old) (hf : w.frozen? ⟨g, o, none⟩ = false) :
 (Instr.storeAt t (.pointer (some ⟨g, o, none⟩)) v).run P w = .ok () (w.setCell ⟨g, o, none⟩ v) := by
 simp only [Instr.storeAt, Instr.sureAddr, storeVar, Sem.run_bind, Sem.run_pure, Result.andThen_ok, hz, hv]
 have e : (⟨g, o, none⟩ : Addr).add 0 = ⟨g, o, none⟩ := by rw [add_at]; rfl
 simp [storeCells, run_store P w _ v _ h1, e, hc, hf]
structure OnBook (w W : World) (base q : Nat) (B : Book) (A1 : Option Addr) (c1 : Nat) (A2 : Option Addr) (c2 bx : Nat) (cs : List Value) (T : TypeId) : Prop where
 nx : NextIs W base q B A1 c1 A2 c2
 bx : W.heap[bx]? = some (.cells cs.toArray T (0, 0))
 all : Below w.heap.size w W
 le : base ≤ w.heap.size
section
variable {w W W' : World} {base q : Nat} {B : Book} {A1 : Option Addr} {c1 : Nat} {A2 : Option Addr} {c2 bx : Nat} {cs : List Value} {T : TypeId}
theorem OnBook.fr (h : OnBook w W base q B A1 c1 A2 c2 bx cs T) : Below base w W := h.all.mono h.le
theorem OnBook.later (h : OnBook w W base q B A1 c1 A2 c2 bx cs T) (hb : Below W.heap.size W W') : OnBook w W' base q B A1 c1 A2 c2 bx cs T :=
 ⟨h.nx.below hb, (hb.block _ (Array.getElem?_eq_some_iff.1 h.bx).1).trans h.bx, below_step h.all hb, h.le⟩
theorem OnBook.drew (h : OnBook w W base q B A1 c1 A2 c2 bx cs T) : OnBook w W.drew base q B A1 c1 A2 c2 bx cs T := h.later (Below.refl _ W).drew
theorem OnBook.keep (h : OnBook w W base q B A1 c1 A2 c2 bx cs T) (hg : W.grownBy W' (Value.slice A2 B.spent.length c2).ownBlock) :
 W'.heap[q]? = some (.cells (bookCells B A1 c1 A2 c2).toArray 25 (0, 0)) ∧ W'.cell? ⟨q, 3, none⟩ = some (.slice A2 B.spent.length c2) ∧ W'.frozen? ⟨q, 3, none⟩ = false := by
 have hq : W'.heap[q]? = some (.cells (bookCells B A1 c1 A2 c2).toArray 25 (0, 0)) := (hg.block q h.nx.lt (fun e => own_ne h.nx.lists.2.1 h.nx.box (by decide) e)).trans h.nx.box
 refine ⟨hq, ?_, ?_⟩
 ·rw [cell_of_heap hq]; rfl
 ·exact frozen_of_heap hq
end
theorem ownsRow_setCell_other {w : World} {base : Nat} {e : TypeId} {size n : Nat} {v : Value} {xs : List Value} (h : w.ownsRow base e size v n xs) {a : Addr} (ha : ∀ k, v.ownBlock = some k → k ≠ a.block) (u : Value) : (w.setCell a u).ownsRow base e size v n xs := by
 obtain ⟨h1, h2⟩ := h
 refine ⟨h1, ?_⟩
 rcases h2 with h2 | ⟨g, cap, cur, hv, hg, hh, r⟩
 ·exact Or.inl h2
 ·exact Or.inr ⟨g, cap, cur, hv, hg, by rw [Below.heap_setCell _ _ _ _ (ha g (by rw [hv]; rfl))]; exact hh, r⟩
end Go.Proofs.YtmgbaefgcdglpaaGreatDoor.Dir
end
section
namespace Go.Proofs.YtmgbaefgcdglpaaGreatDoor.Dir
open Go Go.RowKit Go.Proofs Go.Proofs.YtmgbaefgcdglpaaGreatDoorW.PrintWords Go.Proofs.YtmgbaefgcdglpaaGreatDoorW.PrintLast Go.Proofs.YtmgbaefgcdglpaaGreatDoorW.PrintMore
set_option linter.unusedVariables false
set_option linter.unusedSimpArgs false
theorem src_cell {w W : World} {g o n size : Nat} {xs : List Value} (h : SrcAt w (some ⟨g, o, none⟩) n size xs) (hb : Below w.heap.size w W) {j : Nat} {v : Value} (hj : xs[j]? = some v) : W.cell? ⟨g, o + j, none⟩ = some v := by
 have h' := h.2.2 _ rfl j v hj
 rw [add_at] at h'
 rw [hb.cell (World.block_lt_of_cell? w _ h')]
 exact h'
theorem load_devS {w W : World} {g o n : Nat} {l : List Dev} (h : SrcAt w (some ⟨g, o, none⟩) n 35 (flatD l)) (hb : Below w.heap.size w W) {j : Nat} {d : Dev} (hj : l[j]? = some d) :
 (Instr.loadAt 85 (.pointer (some ⟨g, o + j * 35, none⟩))).run Tryz.prog W = .ok (.agg (encD d).toArray) W :=
 run_loadAtK Tryz.prog W 85 35 Tryz.isAgg85 Tryz.sizeOf85 g (o + j * 35) (encD d) (encD_len _) (fun i v hv => by rw [Nat.add_assoc]; exact src_cell h hb (flatMap_at encD 35 encD_len l j d hj i v hv))
def Bare (A : Option Addr) : Prop := ∀ a, A = some a → ∃ g o, a = ⟨g, o, none⟩
theorem flatK_one_more (l : List Key) (k : Key) : flatK (l ++ [k]) = flatK l ++ encK k := by unfold flatK; rw [List.flatMap_append]; simp
theorem flatK_append (a b : List Key) : flatK (a ++ b) = flatK a ++ flatK b := List.flatMap_append
end Go.Proofs.YtmgbaefgcdglpaaGreatDoor.Dir
/- slices.Contains at keys. -/
namespace Go.Proofs.YtmgbaefgcdglpaaGreatDoor.Dir
open Go Go.RowKit Go.Proofs Go.Proofs.YtmgbaefgcdglpaaGreatDoorW.PrintWords Go.Proofs.YtmgbaefgcdglpaaGreatDoorW.PrintLast Go.Proofs.YtmgbaefgcdglpaaGreatDoorW.PrintMore
set_option linter.unusedVariables false
set_option linter.unusedSimpArgs false
end Go.Proofs.YtmgbaefgcdglpaaGreatDoor.Dir
/- fresh: what is wrong with an op's key and expiry. -/
namespace Go.Proofs.YtmgbaefgcdglpaaGreatDoor.Dir
open Go Go.RowKit Go.Proofs Go.Proofs.YtmgbaefgcdglpaaGreatDoorW.PrintWords Go.Proofs.YtmgbaefgcdglpaaGreatDoorW.PrintLast Go.Proofs.YtmgbaefgcdglpaaGreatDoorW.PrintMore
set_option linter.unusedVariables false
set_option linter.unusedSimpArgs false
theorem tailOfO (o : Op) (j : Nat) : (encO o)[34 + j]? = ([.int .i64 o.exp, .string ⟨o.text.toArray⟩, .int .i64 o.at_] : List Value)[j]? := by
 show (Value.int .i64 o.kind :: .int .i64 o.node :: (encK o.key ++ _))[34 + j]? = _
 rw [show 34 + j = (32 + j + 1) + 1 by omega, List.getElem?_cons_succ, List.getElem?_cons_succ, List.getElem?_append_right (by rw [encK_len]; omega), encK_len, show 32 + j - 32 = j by omega]
theorem OnBook.op {w W : World} {base q : Nat} {B : Book} {A1 : Option Addr} {c1 : Nat} {A2 : Option Addr} {c2 bx : Nat} {o : Op} (h : OnBook w W base q B A1 c1 A2 c2 bx (encO o) 36) :
 W.cell? ⟨bx, 0, none⟩ = some (.int .i64 o.kind) ∧ W.cell? ⟨bx, 1, none⟩ = some (.int .i64 o.node) ∧ W.cell? ⟨bx, 34, none⟩ = some (.int .i64 o.exp) ∧ W.cell? ⟨bx, 35, none⟩ = some (.string ⟨o.text.toArray⟩) ∧ W.cell? ⟨bx, 36, none⟩ = some (.int .i64 o.at_) := by
 refine ⟨?_, ?_, ?_, ?_, ?_⟩
 ·rw [cell_of_heap h.bx]; rfl
 ·rw [cell_of_heap h.bx]; rfl
 ·rw [cell_of_heap h.bx]; exact tailOfO o 0
 ·rw [cell_of_heap h.bx]; exact tailOfO o 1
 ·rw [cell_of_heap h.bx]; exact tailOfO o 2
theorem OnBook.start (w : World) {base q : Nat} {B : Book} {A1 : Option Addr} {c1 : Nat} {A2 : Option Addr} {c2 : Nat} (h : NextIs w base q B A1 c1 A2 c2) (hb : base ≤ w.heap.size) (cs : List Value) (T : TypeId) : OnBook w (w.alloc (.cells cs.toArray T)) base q B A1 c1 A2 c2 w.heap.size cs T :=
 ⟨h.below ((Below.refl _ w).alloc (Nat.le_refl _) _), heap_alloc_new w _, (Below.refl _ w).alloc (Nat.le_refl _) _, hb⟩
def zeroKey : Array Value := #[.int .u8 0, .int .u8 0, .int .u8 0, .int .u8 0, .int .u8 0, .int .u8 0, .int .u8 0, .int .u8 0, .int .u8 0, .int .u8 0, .int .u8 0, .int .u8 0, .int .u8 0, .int .u8 0, .int .u8 0, .int .u8 0, .int .u8 0, .int .u8 0, .int .u8 0, .int .u8 0, .int .u8 0, .int .u8 0, .int .u8 0, .int .u8 0, .int .u8 0, .int .u8 0, .int .u8 0, .int .u8 0, .int .u8 0, .int .u8 0, .int .u8 0, .int .u8 0]
theorem zeroKey_eq : (encK key0).toArray = zeroKey := rfl
theorem taken_len (B : Book) (h : Few B) : (takenB B).length ≤ 100 := by
 unfold takenB
 rw [List.length_append, List.length_map]
 have h1 := h.1; have h2 := h.2
 omega
end Go.Proofs.YtmgbaefgcdglpaaGreatDoor.Dir
end
section
namespace Go.Proofs.YtmgbaefgcdglpaaGreatDoor.Dir
open Go Go.RowKit Go.Proofs Go.Proofs.YtmgbaefgcdglpaaGreatDoorW.PrintWords Go.Proofs.YtmgbaefgcdglpaaGreatDoorW.PrintLast Go.Proofs.YtmgbaefgcdglpaaGreatDoorW.PrintMore
set_option linter.unusedVariables false
set_option linter.unusedSimpArgs false
theorem splice_mid {α : Type} (T M D cs : List α) (off : Nat) (h : off + cs.length ≤ M.length) : splice (T ++ (M ++ D)) (T.length + off) cs = T ++ (splice M off cs ++ D) := by
 unfold splice
 rw [List.take_append, List.take_of_length_le (by omega), show T.length + off - T.length = off by omega, List.take_append_of_le_length (by omega),
 List.drop_append, List.drop_eq_nil_of_le (by omega), List.nil_append, show T.length + off + cs.length - T.length = off + cs.length by omega, List.drop_append_of_le_length (by omega)]
 simp only [List.append_assoc]
theorem splice_front {α : Type} (M D cs : List α) (off : Nat) (h : off + cs.length ≤ M.length) : splice (M ++ D) off cs = splice M off cs ++ D := by
 have := splice_mid [] M D cs off h
 simpa using this
theorem flat_parts {α : Type} (f : α → List Value) (k : Nat) (hk : ∀ x, (f x).length = k) (l : List α) (i : Nat) (d : α) (hd : l[i]? = some d) : l.flatMap f = (l.take i).flatMap f ++ (f d ++ (l.drop (i + 1)).flatMap f) ∧ ((l.take i).flatMap f).length = i * k := by
 have hlen : ∀ l : List α, (l.flatMap f).length = l.length * k := fun l => by
 induction l with
 | nil => simp
 | cons a l ih => rw [List.flatMap_cons, List.length_append, hk, ih, List.length_cons, Nat.add_mul]; omega
 obtain ⟨hlt, rfl⟩ := List.getElem?_eq_some_iff.1 hd
 refine ⟨?_, by rw [hlen, List.length_take, Nat.min_eq_left (Nat.le_of_lt hlt)]⟩
 conv => lhs; rw [← List.take_append_drop i l, List.drop_eq_getElem_cons hlt]
 rw [List.flatMap_append, List.flatMap_cons]
theorem flat_set {α : Type} (f : α → List Value) (k : Nat) (hk : ∀ x, (f x).length = k) (l : List α) (i : Nat) (d d' : α) (hd : l[i]? = some d) (off : Nat) (cs : List Value) (ho : off + cs.length ≤ k) (he : f d' = splice (f d) off cs) :
 (l.set i d').flatMap f = splice (l.flatMap f) (i * k + off) cs := by
 obtain ⟨e1, e2⟩ := flat_parts f k hk l i d hd
 have hlt := (List.getElem?_eq_some_iff.1 hd).1
 obtain ⟨e3, e4⟩ := flat_parts f k hk (l.set i d') i d' (by rw [List.getElem?_set, if_pos rfl, if_pos hlt])
 rw [e1, ← e2, splice_mid _ _ _ _ _ (by rw [hk]; omega), ← he, e3]
 rw [List.take_set_of_le (Nat.le_refl i), List.drop_set_of_lt (Nat.lt_succ_self i)]
end Go.Proofs.YtmgbaefgcdglpaaGreatDoor.Dir
end
