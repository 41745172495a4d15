/- Books in memory: the clones of their lists, a book of the call's own, and where a directory's book lies. What an op does to a book keeps what holds of all books. Where a directory lies; New and Book. -/
import Derived.Test.YthnpiimiimiijaaGreatDoorKk2
import Derived.Lib.SliceRun
import Derived.OwnWalk
import Derived.Laws.OwnMore
import Derived.WideLaws
import Derived.Deep.LoopGhost
section
namespace Go.Proofs.YthnpiimiimiijaaGreatDoor.Dir
open Go Go.RowKit Go.Proofs Go.Proofs.YthnpiimiimiijaaGreatDoorW.PrintWords Go.Proofs.YthnpiimiimiijaaGreatDoorW.PrintLast Go.Proofs.YthnpiimiimiijaaGreatDoorW.PrintMore
set_option linter.unusedVariables false
set_option linter.unusedSimpArgs false
def SrcAt (w : World) (A : Option Addr) (n size : Nat) (xs : List Value) : Prop :=
 xs.length = n * size ∧ (A = none → n = 0) ∧ ∀ a, A = some a → ∀ j u, xs[j]? = some u → w.cell? (a.add j) = some u
theorem SrcAt.grown {w w' : World} {A : Option Addr} {n size : Nat} {xs : List Value} (h : SrcAt w A n size xs) (hg : Below w.heap.size w w') : SrcAt w' A n size xs :=
 ⟨h.1, h.2.1, fun a ha j u hj => by
  have hc := h.2.2 a ha j u hj
  rw [hg.cell (World.block_lt_of_cell? w _ hc)]; exact hc⟩
theorem src_owns {w : World} {base : Nat} {e : TypeId} {size n : Nat} {v : Value} {xs : List Value} (h : w.ownsRow base e size v n xs) : ∃ A c, v = .slice A n c ∧ SrcAt w A n size xs ∧ (A = none ↔ v = .slice none 0 0) := by
 rcases h.2 with ⟨rfl, rfl⟩ | ⟨g, cap, cur, rfl, _⟩
 ·exact ⟨none, 0, rfl, ⟨h.1, fun _ => rfl, fun a ha => (by cases ha)⟩, by simp⟩
 ·exact ⟨some ⟨g, 0, none⟩, cap, rfl, ⟨h.1, fun e => (by cases e), fun a ha j u hj => (by cases ha; exact h.cells (g := g) rfl j u hj)⟩, by simp⟩
theorem info46 : (Tryz.prog.info? 46).map (fun i => (i.size, i.bytes)) = some (35, 56) := by kernel_rfl
theorem zero46 : ∃ z, ((Tryz.prog.info? 46).bind (·.zero)) = some z ∧ z.cells.size = 35 := ⟨.agg #[.int .i64 0, .int .u8 0, .int .u8 0, .int .u8 0, .int .u8 0, .int .u8 0, .int .u8 0, .int .u8 0, .int .u8 0, .int .u8 0, .int .u8 0, .int .u8 0, .int .u8 0, .int .u8 0, .int .u8 0, .int .u8 0, .int .u8 0, .int .u8 0, .int .u8 0, .int .u8 0, .int .u8 0, .int .u8 0, .int .u8 0, .int .u8 0, .int .u8 0, .int .u8 0, .int .u8 0, .int .u8 0, .int .u8 0, .int .u8 0, .int .u8 0, .int .u8 0, .int .u8 0, .int .i64 0, .bool false], by kernel_rfl, by kernel_rfl⟩
set_option maxRecDepth 100000 in
theorem clone79 (A : Option Addr) (n c : Nat) (xs : List Value) (w : World) (hs : SrcAt w A n 35 xs) (hb : n * 56 ≤ 140737488355328) (h1 : ∀ u ∈ xs, u.oneCell' = true) :
  Calls Tryz.prog 79 #[.slice A n c] w fun e w' => ∃ v', e = .returned v' ∧ w'.ownsRow w.heap.size 46 35 v' n xs ∧ (v' = .slice none 0 0 ↔ A = none) ∧ Below w.heap.size w w' := by
 have t22 := Tryz.underlying40
 have q22 : ∀ (w : World) (a : Option Addr) (n c n' c' : Nat), (binOp .eql 40 (.slice a n c) (.slice none n' c')).run Tryz.prog w = .ok (.bool a.isNone) w := fun w a n c n' c' => Lib.run_eql_slice_nil w _ _ a n c n' c' t22
 have hx : xs.length = n * 35 := hs.1
 cases A with
 | none =>
  obtain rfl := hs.2.1 rfl
  have : xs = [] := List.eq_nil_of_length_eq_zero (by simpa using hx)
  subst this
  clear hs hx
  go_enter Tryz.func79, Tryz.ntmps79
  go_wp2
  go_ret
  exact ⟨_, rfl, World.ownsRow_nil _ _ _ _, by simp, Below.refl _ _⟩
 | some a =>
  obtain ⟨z, hz, hzs⟩ := zero46
  have hi := info46
  obtain ⟨i0, hi0⟩ : ∃ i0, Tryz.prog.info? 46 = some i0 := by
   cases h : Tryz.prog.info? 46 with
   | some i => exact ⟨i, rfl⟩
   | none => rw [h] at hi; cases hi
  rw [hi0] at hi hz
  simp only [Option.map_some, Option.some.injEq, Prod.mk.injEq, Option.bind_some] at hi hz
  obtain ⟨hz1, hz2⟩ := hi
  obtain ⟨ab, ao, asp⟩ := a
  have S := Aside0.mk (hs.2.2 _ rfl)
  have H1 := Aside0.mk h1
  have HX := Aside0.mk hx
  have HI := Aside0.mk (show Tryz.prog.info? 46 = some i0 ∧ i0.zero = some z ∧ i0.size = 35 ∧ i0.bytes = 56 ∧ z.cells.size = 35 from ⟨hi0, hz, hz1, hz2, hzs⟩)
  clear hs h1 hx hi0 hz hz1 hz2 hzs
  go_enter Tryz.func79, Tryz.ntmps79
  go_wp2_with (at_builtin; refine wpList_append_own _ rfl _ _ 40 rfl w.heap.size 46 i0 z 35 56 t22 HI.out.1 HI.out.2.1 HI.out.2.2.1 HI.out.2.2.2.1 HI.out.2.2.2.2 (by decide) _ _ _ rfl (World.ownsRow_made w #[] 0 (Nat.le_refl _) (Nat.zero_le _) (by simp)) ⟨ab, ao, asp⟩ n c xs rfl ?qc1 ?qc2 ?qc3 ?qc4 ?qc5 ?qc6 ?_)
  case qc1 => exact HX.out
  case qc2 =>
   intro j u hj
   exact Lib.cell?_alloc_some _ (S.out j u hj)
  case qc3 => exact H1.out
  case qc4 => rw [Nat.zero_add]; unfold maxLen; omega
  case qc5 => rw [Nat.zero_add]; exact hb
  case qc6 => simp
  intro v' w1 hown hgrow hnil
  go_wp2
  go_ret
  refine ⟨v', rfl, by simpa using hown, by simpa using hnil, ?_⟩
  exact ((Below.refl _ w).alloc (Nat.le_refl _) _).grown hgrow (by simp) (by intro k hk; simp [Value.ownBlock] at hk; omega)
theorem info34 : (Tryz.prog.info? 34).map (fun i => (i.size, i.bytes)) = some (32, 32) := by kernel_rfl
theorem zero34 : ∃ z, ((Tryz.prog.info? 34).bind (·.zero)) = some z ∧ z.cells.size = 32 := ⟨.agg #[.int .u8 0, .int .u8 0, .int .u8 0, .int .u8 0, .int .u8 0, .int .u8 0, .int .u8 0, .int .u8 0, .int .u8 0, .int .u8 0, .int .u8 0, .int .u8 0, .int .u8 0, .int .u8 0, .int .u8 0, .int .u8 0, .int .u8 0, .int .u8 0, .int .u8 0, .int .u8 0, .int .u8 0, .int .u8 0, .int .u8 0, .int .u8 0, .int .u8 0, .int .u8 0, .int .u8 0, .int .u8 0, .int .u8 0, .int .u8 0, .int .u8 0, .int .u8 0], by kernel_rfl, by kernel_rfl⟩
set_option maxRecDepth 100000 in
theorem clone54 (A : Option Addr) (n c : Nat) (xs : List Value) (w : World) (hs : SrcAt w A n 32 xs) (hb : n * 32 ≤ 140737488355328) (h1 : ∀ u ∈ xs, u.oneCell' = true) :
  Calls Tryz.prog 54 #[.slice A n c] w fun e w' => ∃ v', e = .returned v' ∧ w'.ownsRow w.heap.size 34 32 v' n xs ∧ (v' = .slice none 0 0 ↔ A = none) ∧ Below w.heap.size w w' := by
 have t22 := Tryz.underlying41
 have q22 : ∀ (w : World) (a : Option Addr) (n c n' c' : Nat), (binOp .eql 41 (.slice a n c) (.slice none n' c')).run Tryz.prog w = .ok (.bool a.isNone) w := fun w a n c n' c' => Lib.run_eql_slice_nil w _ _ a n c n' c' t22
 have hx : xs.length = n * 32 := hs.1
 cases A with
 | none =>
  obtain rfl := hs.2.1 rfl
  have : xs = [] := List.eq_nil_of_length_eq_zero (by simpa using hx)
  subst this
  clear hs hx
  go_enter Tryz.func54, Tryz.ntmps54
  go_wp2
  go_ret
  exact ⟨_, rfl, World.ownsRow_nil _ _ _ _, by simp, Below.refl _ _⟩
 | some a =>
  obtain ⟨z, hz, hzs⟩ := zero34
  have hi := info34
  obtain ⟨i0, hi0⟩ : ∃ i0, Tryz.prog.info? 34 = some i0 := by
   cases h : Tryz.prog.info? 34 with
   | some i => exact ⟨i, rfl⟩
   | none => rw [h] at hi; cases hi
  rw [hi0] at hi hz
  simp only [Option.map_some, Option.some.injEq, Prod.mk.injEq, Option.bind_some] at hi hz
  obtain ⟨hz1, hz2⟩ := hi
  obtain ⟨ab, ao, asp⟩ := a
  have S := Aside0.mk (hs.2.2 _ rfl)
  have H1 := Aside0.mk h1
  have HX := Aside0.mk hx
  have HI := Aside0.mk (show Tryz.prog.info? 34 = some i0 ∧ i0.zero = some z ∧ i0.size = 32 ∧ i0.bytes = 32 ∧ z.cells.size = 32 from ⟨hi0, hz, hz1, hz2, hzs⟩)
  clear hs h1 hx hi0 hz hz1 hz2 hzs
  go_enter Tryz.func54, Tryz.ntmps54
  go_wp2_with (at_builtin; refine wpList_append_own _ rfl _ _ 41 rfl w.heap.size 34 i0 z 32 32 t22 HI.out.1 HI.out.2.1 HI.out.2.2.1 HI.out.2.2.2.1 HI.out.2.2.2.2 (by decide) _ _ _ rfl (World.ownsRow_made w #[] 0 (Nat.le_refl _) (Nat.zero_le _) (by simp)) ⟨ab, ao, asp⟩ n c xs rfl ?qc1 ?qc2 ?qc3 ?qc4 ?qc5 ?qc6 ?_)
  case qc1 => exact HX.out
  case qc2 =>
   intro j u hj
   exact Lib.cell?_alloc_some _ (S.out j u hj)
  case qc3 => exact H1.out
  case qc4 => rw [Nat.zero_add]; unfold maxLen; omega
  case qc5 => rw [Nat.zero_add]; exact hb
  case qc6 => simp
  intro v' w1 hown hgrow hnil
  go_wp2
  go_ret
  refine ⟨v', rfl, by simpa using hown, by simpa using hnil, ?_⟩
  exact ((Below.refl _ w).alloc (Nat.le_refl _) _).grown hgrow (by simp) (by intro k hk; simp [Value.ownBlock] at hk; omega)
theorem info5 : (Tryz.prog.info? 5).map (fun i => (i.size, i.bytes)) = some (1, 1) := by kernel_rfl
theorem zero5 : ∃ z, ((Tryz.prog.info? 5).bind (·.zero)) = some z ∧ z.cells.size = 1 := ⟨.int .u8 0, by kernel_rfl, by kernel_rfl⟩
set_option maxRecDepth 100000 in
theorem clone100 (A : Option Addr) (n c : Nat) (xs : List Value) (w : World) (hs : SrcAt w A n 1 xs) (hb : n * 1 ≤ 140737488355328) (h1 : ∀ u ∈ xs, u.oneCell' = true) :
  Calls Tryz.prog 100 #[.slice A n c] w fun e w' => ∃ v', e = .returned v' ∧ w'.ownsRow w.heap.size 5 1 v' n xs ∧ (v' = .slice none 0 0 ↔ A = none) ∧ Below w.heap.size w w' := by
 have t22 := Tryz.underlying67
 have q22 : ∀ (w : World) (a : Option Addr) (n c n' c' : Nat), (binOp .eql 67 (.slice a n c) (.slice none n' c')).run Tryz.prog w = .ok (.bool a.isNone) w := fun w a n c n' c' => Lib.run_eql_slice_nil w _ _ a n c n' c' t22
 have hx : xs.length = n * 1 := hs.1
 cases A with
 | none =>
  obtain rfl := hs.2.1 rfl
  have : xs = [] := List.eq_nil_of_length_eq_zero (by simpa using hx)
  subst this
  clear hs hx
  go_enter Tryz.func100, Tryz.ntmps100
  go_wp2
  go_ret
  exact ⟨_, rfl, World.ownsRow_nil _ _ _ _, by simp, Below.refl _ _⟩
 | some a =>
  obtain ⟨z, hz, hzs⟩ := zero5
  have hi := info5
  obtain ⟨i0, hi0⟩ : ∃ i0, Tryz.prog.info? 5 = some i0 := by
   cases h : Tryz.prog.info? 5 with
   | some i => exact ⟨i, rfl⟩
   | none => rw [h] at hi; cases hi
  rw [hi0] at hi hz
  simp only [Option.map_some, Option.some.injEq, Prod.mk.injEq, Option.bind_some] at hi hz
  obtain ⟨hz1, hz2⟩ := hi
  obtain ⟨ab, ao, asp⟩ := a
  have S := Aside0.mk (hs.2.2 _ rfl)
  have H1 := Aside0.mk h1
  have HX := Aside0.mk hx
  have HI := Aside0.mk (show Tryz.prog.info? 5 = some i0 ∧ i0.zero = some z ∧ i0.size = 1 ∧ i0.bytes = 1 ∧ z.cells.size = 1 from ⟨hi0, hz, hz1, hz2, hzs⟩)
  clear hs h1 hx hi0 hz hz1 hz2 hzs
  go_enter Tryz.func100, Tryz.ntmps100
  go_wp2_with (at_builtin; refine wpList_append_own _ rfl _ _ 67 rfl w.heap.size 5 i0 z 1 1 t22 HI.out.1 HI.out.2.1 HI.out.2.2.1 HI.out.2.2.2.1 HI.out.2.2.2.2 (by decide) _ _ _ rfl (World.ownsRow_made w #[] 0 (Nat.le_refl _) (Nat.zero_le _) (by simp)) ⟨ab, ao, asp⟩ n c xs rfl ?qc1 ?qc2 ?qc3 ?qc4 ?qc5 ?qc6 ?_)
  case qc1 => exact HX.out
  case qc2 =>
   intro j u hj
   exact Lib.cell?_alloc_some _ (S.out j u hj)
  case qc3 => exact H1.out
  case qc4 => rw [Nat.zero_add]; unfold maxLen; omega
  case qc5 => rw [Nat.zero_add]; exact hb
  case qc6 => simp
  intro v' w1 hown hgrow hnil
  go_wp2
  go_ret
  refine ⟨v', rfl, by simpa using hown, by simpa using hnil, ?_⟩
  exact ((Below.refl _ w).alloc (Nat.le_refl _) _).grown hgrow (by simp) (by intro k hk; simp [Value.ownBlock] at hk; omega)
theorem cloned79 (A : Option Addr) (n c : Nat) (xs : List Value) (w : World) (hs : SrcAt w A n 35 xs) (hb : n * 56 ≤ 140737488355328) (h1 : ∀ u ∈ xs, u.oneCell' = true) :
  Calls Tryz.prog 79 #[.slice A n c] w fun e w' => ∃ A' c', e = .returned (.slice A' n c') ∧ w'.ownsRow w.heap.size 46 35 (.slice A' n c') n xs ∧ (A' = none ↔ A = none) ∧ Below w.heap.size w w' := by
 refine (clone79 A n c xs w hs hb h1).mono ?_
 rintro e w' ⟨v', rfl, ho, hn, hb⟩
 obtain ⟨A', c', rfl, -, h2⟩ := src_owns ho
 exact ⟨A', c', rfl, ho, h2.trans hn, hb⟩
theorem cloned54 (A : Option Addr) (n c : Nat) (xs : List Value) (w : World) (hs : SrcAt w A n 32 xs) (hb : n * 32 ≤ 140737488355328) (h1 : ∀ u ∈ xs, u.oneCell' = true) :
  Calls Tryz.prog 54 #[.slice A n c] w fun e w' => ∃ A' c', e = .returned (.slice A' n c') ∧ w'.ownsRow w.heap.size 34 32 (.slice A' n c') n xs ∧ (A' = none ↔ A = none) ∧ Below w.heap.size w w' := by
 refine (clone54 A n c xs w hs hb h1).mono ?_
 rintro e w' ⟨v', rfl, ho, hn, hb⟩
 obtain ⟨A', c', rfl, -, h2⟩ := src_owns ho
 exact ⟨A', c', rfl, ho, h2.trans hn, hb⟩
theorem cloned100 (A : Option Addr) (n c : Nat) (xs : List Value) (w : World) (hs : SrcAt w A n 1 xs) (hb : n * 1 ≤ 140737488355328) (h1 : ∀ u ∈ xs, u.oneCell' = true) :
  Calls Tryz.prog 100 #[.slice A n c] w fun e w' => ∃ A' c', e = .returned (.slice A' n c') ∧ w'.ownsRow w.heap.size 5 1 (.slice A' n c') n xs ∧ (A' = none ↔ A = none) ∧ Below w.heap.size w w' := by
 refine (clone100 A n c xs w hs hb h1).mono ?_
 rintro e w' ⟨v', rfl, ho, hn, hb⟩
 obtain ⟨A', c', rfl, -, h2⟩ := src_owns ho
 exact ⟨A', c', rfl, ho, h2.trans hn, hb⟩
def ListsAt (w : World) (base : Nat) (dv sv : Value) (n1 n2 : Nat) (ds ks : List Value) : Prop :=
 w.ownsRow base 46 35 dv n1 ds ∧ w.ownsRow base 34 32 sv n2 ks ∧ ∀ k, dv.ownBlock = some k → sv.ownBlock ≠ some k
theorem ListsAt.kept {w w' : World} {base n1 n2 : Nat} {dv sv : Value} {ds ks : List Value} {row : Option Nat} (h : ListsAt w base dv sv n1 n2 ds ks) (hg : w.grownBy w' row) (h1 : dv.ownBlock = none ∨ dv.ownBlock ≠ row) (h2 : sv.ownBlock = none ∨ sv.ownBlock ≠ row) : ListsAt w' base dv sv n1 n2 ds ks :=
 ⟨h.1.kept hg h1, h.2.1.kept hg h2, h.2.2⟩
theorem ListsAt.below {w w' : World} {base n1 n2 : Nat} {dv sv : Value} {ds ks : List Value} (h : ListsAt w base dv sv n1 n2 ds ks) (hg : Below w.heap.size w w') : ListsAt w' base dv sv n1 n2 ds ks :=
 h.kept (grownBy_below hg) (by cases dv.ownBlock <;> simp) (by cases sv.ownBlock <;> simp)
theorem ListsAt.lower {w : World} {base base' n1 n2 : Nat} {dv sv : Value} {ds ks : List Value} (h : ListsAt w base dv sv n1 n2 ds ks) (hb : base' ≤ base) : ListsAt w base' dv sv n1 n2 ds ks :=
 ⟨own_weaken h.1 hb, own_weaken h.2.1 hb, h.2.2⟩
theorem below_step {w w1 w2 : World} (h : Below w.heap.size w w1) (k : Below w1.heap.size w1 w2) : Below w.heap.size w w2 := h.trans (k.mono h.size)
structure OwnPl (q : Nat) (W : World) (ver clock : Int) (dv sv : Value) (acl : ByteArray) : Prop where
 box : W.heap[q]? = some (.cells #[.int .i64 ver, .int .i64 clock, dv, sv, .string acl] 43 (0, 0))
 room : ∃ z0 z1 z2 z3 z4, W.heap[q + 1]? = some (.cells #[z0, z1, z2, z3, z4] 43 (0, 0))
section
variable {q : Nat} {W W' : World} {ver clock : Int} {dv sv : Value} {acl : ByteArray}
theorem OwnPl.start (w : World) (ver clock : Int) (dv sv : Value) (acl : ByteArray) (z0 z1 z2 z3 z4 : Value) : OwnPl w.heap.size ((w.alloc (.cells #[.int .i64 ver, .int .i64 clock, dv, sv, .string acl] 43)).alloc (.cells #[z0, z1, z2, z3, z4] 43)) ver clock dv sv acl :=
 ⟨by rw [Below.heap_alloc _ _ _ (by simp)]; exact heap_alloc_new w _, z0, z1, z2, z3, z4, by have := heap_alloc_new (w.alloc (.cells #[.int .i64 ver, .int .i64 clock, dv, sv, .string acl] 43)) (.cells #[z0, z1, z2, z3, z4] 43); simpa using this⟩
theorem OwnPl.lt (h : OwnPl q W ver clock dv sv acl) : q + 1 < W.heap.size := by
 obtain ⟨_, _, _, _, _, h⟩ := h.room
 exact (Array.getElem?_eq_some_iff.1 h).1
theorem OwnPl.later (h : OwnPl q W ver clock dv sv acl) (hb : Below W.heap.size W W') : OwnPl q W' ver clock dv sv acl :=
 ⟨(hb.block _ (by have := h.lt; omega)).trans h.box, by obtain ⟨z0, z1, z2, z3, z4, hr⟩ := h.room; exact ⟨z0, z1, z2, z3, z4, (hb.block _ h.lt).trans hr⟩⟩
theorem OwnPl.cells (h : OwnPl q W ver clock dv sv acl) : W.cell? ⟨q, 0, none⟩ = some (.int .i64 ver) ∧ W.cell? ⟨q, 1, none⟩ = some (.int .i64 clock) ∧ W.cell? ⟨q, 2, none⟩ = some dv ∧ W.cell? ⟨q, 3, none⟩ = some sv ∧ W.cell? ⟨q, 4, none⟩ = some (.string acl) ∧ (∀ j, W.frozen? ⟨q, j, none⟩ = false) := by
 have hk := h.box
 simp [World.cell?, World.frozen?, hk]
theorem OwnPl.rooms (h : OwnPl q W ver clock dv sv acl) : (∃ z, W.cell? ⟨q + 1, 0, none⟩ = some z) ∧ (∃ z, W.cell? ⟨q + 1, 1, none⟩ = some z) ∧ (∃ z, W.cell? ⟨q + 1, 2, none⟩ = some z) ∧ (∃ z, W.cell? ⟨q + 1, 3, none⟩ = some z) ∧ (∃ z, W.cell? ⟨q + 1, 4, none⟩ = some z) ∧ (∀ j, W.frozen? ⟨q + 1, j, none⟩ = false) := by
 obtain ⟨z0, z1, z2, z3, z4, hk⟩ := h.room
 simp [World.cell?, World.frozen?, hk]
theorem OwnPl.set2 (h : OwnPl q W ver clock dv sv acl) (v : Value) : OwnPl q (W.setCell ⟨q, 2, none⟩ v) ver clock v sv acl :=
 ⟨by rw [heap_setCell_same W q 2 _ _ v h.box]; rfl, by obtain ⟨z0, z1, z2, z3, z4, hr⟩ := h.room; exact ⟨z0, z1, z2, z3, z4, by rw [Below.heap_setCell _ _ _ _ (by simp)]; exact hr⟩⟩
theorem OwnPl.set3 (h : OwnPl q W ver clock dv sv acl) (v : Value) : OwnPl q (W.setCell ⟨q, 3, none⟩ v) ver clock dv v acl :=
 ⟨by rw [heap_setCell_same W q 3 _ _ v h.box]; rfl, by obtain ⟨z0, z1, z2, z3, z4, hr⟩ := h.room; exact ⟨z0, z1, z2, z3, z4, by rw [Below.heap_setCell _ _ _ _ (by simp)]; exact hr⟩⟩
theorem OwnPl.filled (h : OwnPl q W ver clock dv sv acl) (a b c d e : Value) : (((((W.setCell ⟨q + 1, 0, none⟩ a).setCell ⟨q + 1, 1, none⟩ b).setCell ⟨q + 1, 2, none⟩ c).setCell ⟨q + 1, 3, none⟩ d).setCell ⟨q + 1, 4, none⟩ e).heap[q + 1]? = some (.cells #[a, b, c, d, e] 43 (0, 0)) := by
 obtain ⟨z0, z1, z2, z3, z4, hr⟩ := h.room
 have h1 := heap_setCell_same W (q + 1) 0 _ _ a hr
 have h2 := heap_setCell_same _ (q + 1) 1 _ _ b h1
 have h3 := heap_setCell_same _ (q + 1) 2 _ _ c h2
 have h4 := heap_setCell_same _ (q + 1) 3 _ _ d h3
 exact heap_setCell_same _ (q + 1) 4 _ _ e h4
end
set_option maxHeartbeats 1000000 in
set_option maxRecDepth 100000 in
theorem own_any (ver clock : Int) (A1 A2 : Option Addr) (n1 c1 n2 c2 : Nat) (ds ks : List Value) (acl : ByteArray) (w : World) (h1 : SrcAt w A1 n1 35 ds) (h2 : SrcAt w A2 n2 32 ks)
  (hb1 : n1 * 56 ≤ 140737488355328) (hb2 : n2 * 32 ≤ 140737488355328) (o1 : ∀ u ∈ ds, u.oneCell' = true) (o2 : ∀ u ∈ ks, u.oneCell' = true) :
  Calls Tryz.prog 43 #[.agg #[.int .i64 ver, .int .i64 clock, .slice A1 n1 c1, .slice A2 n2 c2, .string acl]] w fun e w' => ∃ A1' c1' A2' c2', e = .returned (.agg #[.int .i64 ver, .int .i64 clock, .slice A1' n1 c1', .slice A2' n2 c2', .string acl]) ∧
   ListsAt w' w.heap.size (.slice A1' n1 c1') (.slice A2' n2 c2') n1 n2 ds ks ∧ (A1' = none ↔ A1 = none) ∧ (A2' = none ↔ A2 = none) ∧ Below w.heap.size w w' := by
 have B1 := Aside0.mk hb1; have B2 := Aside0.mk hb2; have O1 := Aside0.mk o1; have O2 := Aside0.mk o2; have S1 := Aside0.mk h1; have S2 := Aside0.mk h2
 clear hb1 hb2 o1 o2 h1 h2
 go_enter Tryz.func43, Tryz.ntmps43
 go_wp2_with fail
 obtain ⟨W0, hW0⟩ : ∃ W0, W0 = (w.alloc (.cells #[.int .i64 ver, .int .i64 clock, .slice A1 n1 c1, .slice A2 n2 c2, .string acl] 43)).alloc (.cells #[.int .i64 0, .int .i64 0, .slice none 0 0, .slice none 0 0, .string ⟨#[]⟩] 43) := ⟨_, rfl⟩
 rw [← hW0]
 have P0 : OwnPl w.heap.size W0 ver clock (.slice A1 n1 c1) (.slice A2 n2 c2) acl := by rw [hW0]; exact OwnPl.start ..
 have B0 : Below w.heap.size w W0 := by rw [hW0]; exact ((Below.refl _ w).alloc (Nat.le_refl _) _).alloc (by simp) _
 clear hW0
 have hB0 := Aside0.mk B0
 have hP0 := Aside0.mk P0
 clear B0 P0
 refine (cloned79 A1 n1 c1 ds W0 (S1.out.grown hB0.out) B1.out O1.out).mono ?_
 rintro e w1 ⟨A1', c1', rfl, ho1, hn1, hb1⟩
 have P1 := hP0.out.later hb1
 have K1 := Aside0.mk (And.intro ho1 (And.intro hn1 (below_step hB0.out hb1)))
 have L0 := Aside0.mk hP0.out.lt
 have Z1 := Aside0.mk hb1
 clear ho1 hn1 hb1 hP0 hB0
 obtain ⟨k0, k1, k2, k3, k4, f0⟩ := P1.cells
 have hP1 := Aside0.mk P1
 clear P1
 go_wp2_with fail
 have P2 := hP1.out.set2 (.slice A1' n1 c1')
 clear k0 k1 k2 k3 k4 f0
 have hb2 : Below w.heap.size w (w1.setCell ⟨w.heap.size, 2, none⟩ (.slice A1' n1 c1')) := K1.out.2.2.setCell (Nat.le_refl _) _
 refine (cloned54 A2 n2 c2 ks _ (S2.out.grown hb2) B2.out O2.out).mono ?_
 rintro e w2 ⟨A2', c2', rfl, ho2, hn2, hb3⟩
 have P3 := P2.later hb3
 have K2 := Aside0.mk (And.intro ho2 (And.intro hn2 hb3))
 have K3 := Aside0.mk (below_step hb2 hb3)
 clear ho2 hn2 hb3 hb2 P2 hP1
 obtain ⟨k0, k1, k2, k3, k4, f0⟩ := P3.cells
 obtain ⟨⟨z0, r0⟩, ⟨z1, r1⟩, ⟨z2, r2⟩, ⟨z3, r3⟩, ⟨z4, r4⟩, fr⟩ := P3.rooms
 have hP3 := Aside0.mk P3
 clear P3
 go_wp2_with fail
 try simp only [Exit.inBlock, Exit.then]
 have hF := (hP3.out.set3 (.slice A2' n2 c2')).filled (.int .i64 ver) (.int .i64 clock) (.slice A1' n1 c1') (.slice A2' n2 c2') (.string acl)
 refine bodyPost_ret (results_cell_row rfl _ _ (w.heap.size + 1) 43 _ (0, 0) _ rfl hF Tryz.underlying43 rfl (by kernel_rfl)) rfl ?_
 have hl : w1.ownsRow (w.heap.size + 2) 46 35 (.slice A1' n1 c1') n1 ds := own_weaken K1.out.1 L0.out
 have hw2 : w2.ownsRow (w.heap.size + 2) 46 35 (.slice A1' n1 c1') n1 ds := pw_own_below (ownsRow_setCell_below hl (by simp) _) K2.out.2.2
 have hl2 : w.heap.size + 2 ≤ (w1.setCell ⟨w.heap.size, 2, none⟩ (.slice A1' n1 c1')).heap.size := by have h1 := L0.out; have h2 := Z1.out.size; simp; omega
 have hs2 : w2.ownsRow (w.heap.size + 2) 34 32 (.slice A2' n2 c2') n2 ks := own_weaken K2.out.1 hl2
 refine ⟨A1', c1', A2', c2', rfl, ⟨?_, ?_, fun k hk hk2 => ?_⟩, K1.out.2.1, K2.out.2.1, ?_⟩
 ·exact own_weaken (base := w.heap.size + 2) (by repeat (first | (with_reducible exact hw2) | refine ownsRow_setCell_below ?_ (by simp) _)) (by omega)
 ·exact own_weaken (base := w.heap.size + 2) (by repeat (first | (with_reducible exact hs2) | refine ownsRow_setCell_below ?_ (by simp) _)) (by omega)
 ·have h1 := (K1.out.1.lt k hk).2
  have h2 := (K2.out.1.lt k hk2).1
  simp at h2
  omega
 ·repeat (first | (with_reducible exact K3.out) | refine Below.setCell ?_ (by simp) _)
end Go.Proofs.YthnpiimiimiijaaGreatDoor.Dir
end
section
set_option linter.unusedVariables false
set_option linter.unusedSimpArgs false
namespace Go.Proofs.YthnpiimiimiijaaGreatDoor.Dir
theorem count_split {α : Type} (p : α → Bool) : ∀ (l : List α), l.Pairwise (fun a b => p b = true → p a = true) → l.take (l.countP p) = l.filter p ∧ l.drop (l.countP p) = l.filter (fun a => !p a)
 | [], _ => by simp
 | a :: l, h => by
  obtain ⟨h1, h2⟩ := List.pairwise_cons.1 h
  obtain ⟨i1, i2⟩ := count_split p l h2
  cases ha : p a
  ·have hl : ∀ x ∈ l, p x = false := fun x hx => by
    cases hp : p x
    ·rfl
    ·rw [h1 x hx hp] at ha; cases ha
   have h0 : l.countP p = 0 := List.countP_eq_zero.2 (fun x hx => by rw [hl x hx]; decide)
   have e1 : l.filter p = [] := List.filter_eq_nil_iff.2 (fun x hx => by rw [hl x hx]; decide)
   have e2 : l.filter (fun a => !p a) = l := List.filter_eq_self.2 (fun x hx => by rw [hl x hx]; rfl)
   simp [List.countP_cons, ha, h0, e1, e2]
  ·simp [List.countP_cons, ha, i1, i2]
theorem insertAt_perm {α : Type} (l : List α) (i : Nat) (x : α) : (insertAt l i x).Perm (x :: l) := by
 unfold insertAt
 refine List.perm_middle.trans ?_
 rw [List.take_append_drop]
theorem mem_insertAt {α : Type} {l : List α} {i : Nat} {x y : α} : y ∈ insertAt l i x ↔ y = x ∨ y ∈ l := by
 rw [(insertAt_perm l i x).mem_iff]; simp
theorem len_insertAt {α : Type} (l : List α) (i : Nat) (x : α) : (insertAt l i x).length = l.length + 1 := (insertAt_perm l i x).length_eq
theorem insertAt_sorted {α : Type} (R : α → α → Prop) (p : α → Bool) (l : List α) (x : α) (hR : l.Pairwise R) (hp : l.Pairwise (fun a b => p b = true → p a = true)) (h1 : ∀ a ∈ l, p a = true → R a x) (h2 : ∀ a ∈ l, p a = false → R x a) :
  (insertAt l (l.countP p) x).Pairwise R := by
 obtain ⟨e1, e2⟩ := count_split p l hp
 have hparts := hR
 rw [← List.take_append_drop (l.countP p) l] at hparts
 obtain ⟨q1, q2, q3⟩ := List.pairwise_append.1 hparts
 unfold insertAt
 refine List.pairwise_append.2 ⟨q1, List.pairwise_cons.2 ⟨fun a ha => ?_, q2⟩, fun a ha b hb => ?_⟩
 ·rw [e2] at ha
  obtain ⟨m, hm⟩ := List.mem_filter.1 ha
  exact h2 a m (by simpa using hm)
 ·rcases List.mem_cons.1 hb with rfl | hb
  ·rw [e1] at ha
   obtain ⟨m, hm⟩ := List.mem_filter.1 ha
   exact h1 a m hm
  ·exact q3 a ha b hb
theorem devs_down {l : List Dev} (h : l.Pairwise (·.node < ·.node)) (n : Int) : l.Pairwise (fun a b => decide (b.node < n) = true → decide (a.node < n) = true) :=
 h.imp (fun {a b} hab hb => decide_eq_true (by have := of_decide_eq_true hb; omega))
theorem keys_down {l : List Key} (h : l.Pairwise (fun a b => ltK a b = true)) (k : Key) : l.Pairwise (fun a b => ltK b k = true → ltK a k = true) :=
 h.imp (fun {a b} hab hb => ltK_trans hab hb)
theorem has_split {l : List Dev} (h : l.Pairwise (·.node < ·.node)) {n : Int} (hh : hasD l n = true) : ∃ d r, l.drop (posD l n) = d :: r ∧ d.node = n ∧ (∀ x ∈ r, n < x.node) ∧ (∀ x ∈ l.take (posD l n), x.node < n) := by
 obtain ⟨e1, e2⟩ := count_split _ l (devs_down h n)
 obtain ⟨d, hd, hn⟩ := List.any_eq_true.1 hh
 have hn := of_decide_eq_true hn
 have hm : d ∈ l.drop (posD l n) := by unfold posD; rw [e2]; exact List.mem_filter.2 ⟨hd, by simp; omega⟩
 have hp : (l.drop (posD l n)).Pairwise (·.node < ·.node) := h.sublist (List.drop_sublist _ _)
 have hlow : ∀ x ∈ l.drop (posD l n), n ≤ x.node := fun x hx => by
  unfold posD at hx
  rw [e2] at hx
  have := (List.mem_filter.1 hx).2
  simp at this; omega
 have htake : ∀ x ∈ l.take (posD l n), x.node < n := fun x hx => by
  unfold posD at hx
  rw [e1] at hx
  exact of_decide_eq_true (List.mem_filter.1 hx).2
 cases hc : l.drop (posD l n) with
 | nil => rw [hc] at hm; cases hm
 | cons a r =>
  rw [hc] at hm hp hlow
  obtain ⟨p1, p2⟩ := List.pairwise_cons.1 hp
  have ha := hlow a (List.mem_cons_self ..)
  have hdn : a.node = n := by
   rcases List.mem_cons.1 hm with rfl | hdr
   ·exact hn
   ·have := p1 d hdr; omega
  exact ⟨a, r, rfl, hdn, fun x hx => by have := p1 x hx; omega, htake⟩
theorem has_at {b : Book} (h : b.devs.Pairwise (·.node < ·.node)) {n : Int} (hh : hasD b.devs n = true) : posD b.devs n < b.devs.length ∧ b.devs[posD b.devs n]? = some (devAt b n) ∧ (devAt b n).node = n ∧ devAt b n ∈ b.devs := by
 obtain ⟨d, r, h1, h2, -, -⟩ := has_split h hh
 have hg : b.devs[posD b.devs n]? = some d := by
  have := congrArg (fun l => l[0]?) h1
  simpa using this
 obtain ⟨hlt, he⟩ := List.getElem?_eq_some_iff.1 hg
 have hdv : devAt b n = d := by unfold devAt; rw [List.getD_eq_getElem?_getD, hg]; rfl
 rw [hdv]
 exact ⟨hlt, hg, h2, he ▸ List.getElem_mem hlt⟩
theorem not_has {l : List Dev} {n : Int} (h : hasD l n = false) : ∀ d ∈ l, d.node ≠ n := fun d hd e => by
 have : hasD l n = true := List.any_eq_true.2 ⟨d, hd, decide_eq_true e⟩
 rw [h] at this; cases this
theorem set_split {l : List Dev} (h : l.Pairwise (·.node < ·.node)) {n : Int} (hh : hasD l n = true) (x : Dev) : ∃ d r, l = l.take (posD l n) ++ d :: r ∧ l.set (posD l n) x = l.take (posD l n) ++ x :: r ∧ d.node = n ∧ (∀ y ∈ r, n < y.node) ∧ (∀ y ∈ l.take (posD l n), y.node < n) := by
 obtain ⟨d, r, h1, h2, h3, h4⟩ := has_split h hh
 have hl : l = l.take (posD l n) ++ d :: r := by rw [← h1, List.take_append_drop]
 have hlen : (l.take (posD l n)).length = posD l n := by
  rw [List.length_take]
  have : (l.drop (posD l n)).length ≠ 0 := by rw [h1]; simp
  rw [List.length_drop] at this
  omega
 refine ⟨d, r, hl, ?_, h2, h3, h4⟩
 generalize posD l n = i at *
 conv => lhs; rw [hl]
 rw [List.set_append_right _ _ (by omega), hlen, Nat.sub_self, List.set_cons_zero]
theorem fresh_ok {b : Book} {o : Op} {m : Bool} (h : freshOf b o m = 0) : o.key ≠ key0 ∧ o.key ∉ takenB b ∧ 1 ≤ o.exp ∧ o.exp ≤ maxN ∧ b.clock < o.exp ∧ (m = true → b.spent.length ≠ 64) := by
 unfold freshOf at h
 by_cases h1 : o.key = key0 ∨ o.key ∈ takenB b
 ·rw [if_pos h1] at h; exact absurd h (by simp)
 ·rw [if_neg h1] at h
  by_cases h2 : o.exp < 1 ∨ number o.exp = false ∨ o.exp ≤ b.clock
  ·rw [if_pos h2] at h; exact absurd h (by simp)
  ·rw [if_neg h2] at h
   by_cases h3 : m = true ∧ b.spent.length = 64
   ·rw [if_pos h3] at h; exact absurd h (by simp)
   ·have h4 : number o.exp = true := by
     cases hq : number o.exp
     ·exact absurd (.inr (.inl hq)) h2
     ·rfl
    have h5 := of_decide_eq_true h4
    exact ⟨fun e => h1 (.inl e), fun e => h1 (.inr e), by omega, h5.2, by omega, fun hm e => h3 ⟨hm, e⟩⟩
theorem taken_put {b : Book} {n : Int} (hw : WF b) (hh : hasD b.devs n = true) (x : Dev) : (takenB { spendOf b (devAt b n).key with devs := b.devs.set (posD b.devs n) x }).Perm (x.key :: takenB b) := by
 obtain ⟨d, r, h1, h2, h3, h4, h5⟩ := set_split hw.devs hh x
 obtain ⟨g1, g2, g3, g4⟩ := has_at hw.devs hh
 have hd : devAt b n = d := by
  have := g2
  generalize posD b.devs n = i at *
  rw [h1, List.getElem?_append_right (by rw [List.length_take]; omega), List.length_take, show i - min i b.devs.length = 0 by omega] at this
  simpa using this.symm
 unfold takenB
 simp only [spendOf]
 rw [h2, hd]
 have e1 : (b.devs.map (·.key)).Perm (d.key :: ((b.devs.take (posD b.devs n) ++ r).map (·.key))) := by
  conv => lhs; rw [h1]
  rw [List.map_append, List.map_cons, List.map_append]
  exact List.perm_middle
 have e2 : ((b.devs.take (posD b.devs n) ++ x :: r).map (·.key)).Perm (x.key :: ((b.devs.take (posD b.devs n) ++ r).map (·.key))) := by
  rw [List.map_append, List.map_cons, List.map_append]
  exact List.perm_middle
 refine ((insertAt_perm _ _ _).append e2).trans ?_
 refine List.perm_middle.trans (List.Perm.cons _ ?_)
 refine List.Perm.trans ?_ ((List.Perm.refl b.spent).append e1).symm
 exact List.perm_middle.symm
theorem taken_rev {b : Book} {n : Int} (hw : WF b) (hh : hasD b.devs n = true) (x : Dev) (hx : x.key = (devAt b n).key) : takenB { b with devs := b.devs.set (posD b.devs n) x } = takenB b := by
 obtain ⟨g1, g2, g3, g4⟩ := has_at hw.devs hh
 unfold takenB
 simp only
 rw [List.map_set, hx]
 congr 1
 refine List.ext_getElem? fun j => ?_
 rw [List.getElem?_set]
 by_cases e : posD b.devs n = j
 ·subst e
  rw [if_pos rfl, List.getElem?_map, g2, if_pos (by simpa using g1)]
  rfl
 ·simp [e]
theorem WF.put {b : Book} (hw : WF b) {n : Int} (hh : hasD b.devs n = true) (x : Dev) (hn : x.node = n) (he : 1 ≤ x.exp ∧ x.exp ≤ maxN) : (b.devs.set (posD b.devs n) x).Pairwise (·.node < ·.node) ∧ (∀ d ∈ b.devs.set (posD b.devs n) x, 1 ≤ d.node ∧ d.node ≤ 8) ∧ (∀ d ∈ b.devs.set (posD b.devs n) x, 1 ≤ d.exp ∧ d.exp ≤ maxN) := by
 obtain ⟨d, r, h1, h2, h3, h4, h5⟩ := set_split hw.devs hh x
 have hp := hw.devs
 rw [h1] at hp
 obtain ⟨q1, q2, q3⟩ := List.pairwise_append.1 hp
 obtain ⟨q4, q5⟩ := List.pairwise_cons.1 q2
 obtain ⟨g1, g2, g3, g4⟩ := has_at hw.devs hh
 refine ⟨?_, fun y hy => ?_, fun y hy => ?_⟩
 ·rw [h2]
  refine List.pairwise_append.2 ⟨q1, List.pairwise_cons.2 ⟨fun y hy => by have := h4 y hy; omega, q5⟩, fun y hy z hz => ?_⟩
  rcases List.mem_cons.1 hz with rfl | hz
  ·have := h5 y hy; omega
  ·exact q3 y hy z (List.mem_cons_of_mem _ hz)
 ·rcases List.mem_or_eq_of_mem_set hy with hy | rfl
  ·exact hw.nodes y hy
  ·have := hw.nodes _ g4; omega
 ·rcases List.mem_or_eq_of_mem_set hy with hy | rfl
  ·exact hw.exps y hy
  ·exact he
theorem WF.spend {b : Book} (hw : WF b) {n : Int} (hh : hasD b.devs n = true) (hl : b.spent.length ≠ 64) (x : Dev) (hn : x.node = n) (he : 1 ≤ x.exp ∧ x.exp ≤ maxN) (hk : x.key ∉ takenB b) (h0 : x.key ≠ key0) :
  WF { spendOf b (devAt b n).key with devs := b.devs.set (posD b.devs n) x } := by
 obtain ⟨p1, p2, p3⟩ := hw.put hh x hn he
 obtain ⟨g1, g2, g3, g4⟩ := has_at hw.devs hh
 have ht := taken_put hw hh x
 have hks : (devAt b n).key ∉ b.spent := fun hm => by
  have := hw.keys
  unfold takenB at this
  exact (List.nodup_append.1 this).2.2 _ hm _ (List.mem_map.2 ⟨_, g4, rfl⟩) rfl
 refine ⟨hw.ver, hw.clock, p1, p2, p3, ?_, ?_, ?_, ?_⟩
 ·refine insertAt_sorted _ _ b.spent _ hw.spent (keys_down hw.spent _) (fun a ha h => h) (fun a ha h => ?_)
  rcases ltK_tri a (devAt b n).key with h' | rfl | h'
  ·rw [h] at h'; cases h'
  ·exact absurd ha hks
  ·exact h'
 ·have := hw.len
  show (insertAt _ _ _).length ≤ 64
  rw [len_insertAt]
  omega
 ·exact ht.nodup_iff.2 (List.nodup_cons.2 ⟨hk, hw.keys⟩)
 ·intro hm
  rcases List.mem_cons.1 (ht.mem_iff.1 hm) with e | e
  ·exact h0 e.symm
  ·exact hw.nonzero e
theorem register_wf {b : Book} (hw : WF b) (o : Op) (h : (registerOf b o).2 = 0) : WF (registerOf b o).1 := by
 unfold registerOf at h ⊢
 by_cases h1 : o.node < 1 ∨ 8 < o.node ∨ hasD b.devs o.node = true ∧ (devAt b o.node).rev = false
 ·rw [if_pos h1] at h; exact absurd h (by simp)
 ·rw [if_neg h1] at h ⊢
  by_cases hf : freshOf b o (hasD b.devs o.node) = 0
  ·rw [if_pos hf] at h ⊢
   obtain ⟨f1, f2, f3, f4, f5, f6⟩ := fresh_ok hf
   by_cases hh : hasD b.devs o.node = true
   ·rw [if_pos hh]
    exact hw.spend hh (f6 hh) (devOf o) rfl ⟨f3, f4⟩ f2 f1
   ·rw [if_neg hh]
    have hnh : hasD b.devs o.node = false := by simpa using hh
    have hne := not_has hnh
    have ht : (takenB { b with devs := insertAt b.devs (posD b.devs o.node) (devOf o) }).Perm (o.key :: takenB b) := by
     unfold takenB
     simp only
     refine ((List.Perm.refl b.spent).append ((insertAt_perm _ _ _).map _)).trans ?_
     rw [List.map_cons]
     exact List.perm_middle
    refine ⟨hw.ver, hw.clock, ?_, fun d hd => ?_, fun d hd => ?_, hw.spent, hw.len, ht.nodup_iff.2 (List.nodup_cons.2 ⟨f2, hw.keys⟩), fun hm => ?_⟩
    ·refine insertAt_sorted _ _ b.devs _ hw.devs (devs_down hw.devs _) (fun a ha h => of_decide_eq_true h) (fun a ha h => ?_)
     have := of_decide_eq_false h
     have := hne a ha
     show o.node < a.node
     omega
    ·rcases mem_insertAt.1 hd with rfl | hd
     ·show 1 ≤ o.node ∧ o.node ≤ 8
      omega
     ·exact hw.nodes d hd
    ·rcases mem_insertAt.1 hd with rfl | hd
     ·exact ⟨f3, f4⟩
     ·exact hw.exps d hd
    ·rcases List.mem_cons.1 (ht.mem_iff.1 hm) with e | e
     ·exact f1 e.symm
     ·exact hw.nonzero e
  ·rw [if_neg hf] at h; exact absurd h hf
theorem live_ok {b : Book} {n : Int} (h : liveOf b n = 0) : hasD b.devs n = true ∧ (devAt b n).rev = false := by
 unfold liveOf at h
 cases h1 : hasD b.devs n
 ·rw [h1] at h; exact absurd h (by simp)
 ·rw [h1] at h
  cases h2 : (devAt b n).rev
  ·exact ⟨rfl, rfl⟩
  ·rw [h2] at h; exact absurd h (by simp)
theorem rotate_wf {b : Book} (hw : WF b) (o : Op) (h : (rotateOf b o).2 = 0) : WF (rotateOf b o).1 := by
 unfold rotateOf at h ⊢
 by_cases h1 : liveOf b o.node = 0
 ·rw [if_pos h1] at h ⊢
  by_cases hf : freshOf b o true = 0
  ·rw [if_pos hf]
   obtain ⟨f1, f2, f3, f4, f5, f6⟩ := fresh_ok hf
   exact hw.spend (live_ok h1).1 (f6 rfl) (devOf o) rfl ⟨f3, f4⟩ f2 f1
  ·rw [if_neg hf] at h; exact absurd h hf
 ·rw [if_neg h1] at h; exact absurd h h1
theorem revoke_wf {b : Book} (hw : WF b) (o : Op) (h : (revokeOf b o).2 = 0) : WF (revokeOf b o).1 := by
 unfold revokeOf at h ⊢
 by_cases h1 : liveOf b o.node = 0
 ·rw [if_pos h1]
  obtain ⟨hh, -⟩ := live_ok h1
  obtain ⟨g1, g2, g3, g4⟩ := has_at hw.devs hh
  have ht := taken_rev hw hh { devAt b o.node with rev := true } rfl
  obtain ⟨p1, p2, p3⟩ := hw.put hh { devAt b o.node with rev := true } g3 (hw.exps (devAt b o.node) g4)
  exact ⟨hw.ver, hw.clock, p1, p2, p3, hw.spent, hw.len, by rw [ht]; exact hw.keys, by rw [ht]; exact hw.nonzero⟩
 ·rw [if_neg h1] at h; exact absurd h h1
theorem next_wf (rules : List UInt8 → Int) {b : Book} (hw : WF b) (o : Op) (h : (nextOf rules b o).2 = 0) : WF (nextOf rules b o).1 := by
 unfold nextOf at h ⊢
 by_cases k1 : o.kind = 1
 ·rw [if_pos k1] at h ⊢; exact register_wf hw o h
 rw [if_neg k1] at h ⊢
 by_cases k2 : o.kind = 2
 ·rw [if_pos k2] at h ⊢; exact rotate_wf hw o h
 rw [if_neg k2] at h ⊢
 by_cases k3 : o.kind = 3
 ·rw [if_pos k3] at h ⊢; exact revoke_wf hw o h
 rw [if_neg k3] at h ⊢
 by_cases k4 : o.kind = 4
 ·rw [if_pos k4] at h ⊢; exact ⟨hw.ver, hw.clock, hw.devs, hw.nodes, hw.exps, hw.spent, hw.len, hw.keys, hw.nonzero⟩
 rw [if_neg k4] at h ⊢
 by_cases k5 : o.kind = 5
 ·rw [if_pos k5] at h ⊢
  unfold advanceOf at h ⊢
  by_cases h1 : o.at_ ≤ b.clock ∨ number o.at_ = false
  ·rw [if_pos h1] at h; exact absurd h (by simp)
  ·rw [if_neg h1]
   have h4 : number o.at_ = true := by
    cases hq : number o.at_
    ·exact absurd (.inr hq) h1
    ·rfl
   have h5 := of_decide_eq_true h4
   exact ⟨hw.ver, h5, hw.devs, hw.nodes, hw.exps, hw.spent, hw.len, hw.keys, hw.nonzero⟩
 ·rw [if_neg k5] at h; exact absurd h (by simp)
theorem apply_wf (rules : List UInt8 → Int) {b : Book} (hw : WF b) (o : Op) : WF (applyOf rules b o) := by
 unfold applyOf
 by_cases h : errOf rules b o = 0
 ·rw [if_pos h]
  unfold errOf at h
  by_cases h1 : (nextOf rules b o).2 = 0 ∧ (nextOf rules b o).1.ver = maxN
  ·rw [if_pos h1] at h; exact absurd h (by simp)
  ·rw [if_neg h1] at h
   have hn := next_wf rules hw o h
   have hv := hn.ver
   have hne : (nextOf rules b o).1.ver ≠ maxN := fun e => h1 ⟨h, e⟩
   exact ⟨⟨by show 0 ≤ _ + 1; omega, by show _ + 1 ≤ maxN; omega⟩, hn.clock, hn.devs, hn.nodes, hn.exps, hn.spent, hn.len, hn.keys, hn.nonzero⟩
 ·rw [if_neg h]; exact hw
theorem book0_wf : WF book0 := ⟨by decide, by decide, .nil, (by intro d hd; cases hd), (by intro d hd; cases hd), .nil, by decide, .nil, by simp [takenB, book0]⟩
theorem devs_len {b : Book} (hw : WF b) : b.devs.length ≤ 8 := by
 have aux : ∀ (l : List Dev) (lo : Int), l.Pairwise (·.node < ·.node) → (∀ d ∈ l, lo ≤ d.node ∧ d.node ≤ 8) → lo ≤ 9 → (l.length : Int) ≤ 9 - lo := by
  intro l
  induction l with
  | nil => intro lo _ _ h; simp; omega
  | cons a l ih =>
   intro lo hp hr hlo
   obtain ⟨p1, p2⟩ := List.pairwise_cons.1 hp
   have ha := hr a (List.mem_cons_self ..)
   have := ih (a.node + 1) p2 (fun d hd => ⟨by have := p1 d hd; omega, (hr d (List.mem_cons_of_mem _ hd)).2⟩) (by omega)
   simp
   omega
 have := aux b.devs 1 hw.devs hw.nodes (by decide)
 omega
end Go.Proofs.YthnpiimiimiijaaGreatDoor.Dir
/- What an op does to a book, in the words that the statements ask for: which devices stay, which keys are spent. -/
namespace Go.Proofs.YthnpiimiimiijaaGreatDoor.Dir
structure Steps (b b' : Book) (err : Int) (ky : Key) : Prop where
 kept : ∀ d ∈ b.devs, (∃ d' ∈ b'.devs, d'.key = d.key ∧ d'.node = d.node ∧ (d.rev = true → d'.rev = true)) ∨ d.key ∈ b'.spent
 spent : ∀ k ∈ b.spent, k ∈ b'.spent
 came : ∀ d' ∈ b'.devs, (∃ d ∈ b.devs, d.key = d'.key ∧ d.node = d'.node) ∨ (d'.key ∉ takenB b ∧ d'.rev = false ∧ err = 0 ∧ d'.key = ky)
 out : ∀ k ∈ b'.spent, k ∈ takenB b
theorem Steps.same (b b' : Book) (err : Int) (ky : Key) (h1 : b'.devs = b.devs) (h2 : b'.spent = b.spent) : Steps b b' err ky where
 kept d hd := .inl ⟨d, by rw [h1]; exact hd, rfl, rfl, id⟩
 spent k hk := by rw [h2]; exact hk
 came d hd := .inl ⟨d, by rw [← h1]; exact hd, rfl, rfl⟩
 out k hk := List.mem_append_left _ (by rw [← h2]; exact hk)
end Go.Proofs.YthnpiimiimiijaaGreatDoor.Dir
end
section
namespace Go.Proofs.YthnpiimiimiijaaGreatDoor.Dir
open Go Go.RowKit Go.Proofs Go.Proofs.YthnpiimiimiijaaGreatDoorW.PrintWords Go.Proofs.YthnpiimiimiijaaGreatDoorW.PrintLast Go.Proofs.YthnpiimiimiijaaGreatDoorW.PrintMore
set_option linter.unusedVariables false
set_option linter.unusedSimpArgs false
def str (l : List UInt8) : ByteArray := ⟨l.toArray⟩
def bookCells (B : Book) (A1 : Option Addr) (c1 : Nat) (A2 : Option Addr) (c2 : Nat) : List Value :=
 [.int .i64 B.ver, .int .i64 B.clock, .slice A1 B.devs.length c1, .slice A2 B.spent.length c2, .string (str B.acl)]
def Lists (w : World) (base : Nat) (B : Book) (A1 : Option Addr) (c1 : Nat) (A2 : Option Addr) (c2 : Nat) : Prop :=
 ListsAt w base (.slice A1 B.devs.length c1) (.slice A2 B.spent.length c2) B.devs.length B.spent.length (flatD B.devs) (flatK B.spent)
def Few (B : Book) : Prop := B.devs.length ≤ 8 ∧ B.spent.length ≤ 64
theorem WF.few {B : Book} (h : WF B) : Few B := ⟨devs_len h, h.len⟩
theorem flatD_one (l : List Dev) : ∀ u ∈ flatD l, u.oneCell' = true := by
 intro u hu
 obtain ⟨d, -, h⟩ := List.mem_flatMap.1 hu
 exact encD_one d u h
theorem flatK_one (l : List Key) : ∀ u ∈ flatK l, u.oneCell' = true := by
 intro u hu
 obtain ⟨d, -, h⟩ := List.mem_flatMap.1 hu
 exact encK_one d u h
def BookIs (w : World) (base : Nat) (B : Book) (v : Value) : Prop := ∃ A1 c1 A2 c2, v = .agg (bookCells B A1 c1 A2 c2).toArray ∧ Lists w base B A1 c1 A2 c2
def DirAt (w : World) (p : Nat) (B : Book) : Prop :=
 ∃ A1 c1 A2 c2, w.heap[p]? = some (.cells (.bool true :: bookCells B A1 c1 A2 c2).toArray 83 (0, 0)) ∧ Lists w 0 B A1 c1 A2 c2 ∧ (∀ k, (Value.slice A1 B.devs.length c1).ownBlock = some k → k ≠ p) ∧ (∀ k, (Value.slice A2 B.spent.length c2).ownBlock = some k → k ≠ p)
theorem DirAt.lt {w : World} {p : Nat} {B : Book} (h : DirAt w p B) : p < w.heap.size := by
 obtain ⟨_, _, _, _, h, _⟩ := h
 exact (Array.getElem?_eq_some_iff.1 h).1
theorem DirAt.below {w w' : World} {p : Nat} {B : Book} (h : DirAt w p B) (hb : Below w.heap.size w w') : DirAt w' p B := by
 have hl := h.lt
 obtain ⟨A1, c1, A2, c2, h1, h2, h3, h4⟩ := h
 exact ⟨A1, c1, A2, c2, (hb.block _ hl).trans h1, h2.below hb, h3, h4⟩
theorem Lists.src {w : World} {base : Nat} {B : Book} {A1 A2 : Option Addr} {c1 c2 : Nat} (h : Lists w base B A1 c1 A2 c2) : SrcAt w A1 B.devs.length 35 (flatD B.devs) ∧ SrcAt w A2 B.spent.length 32 (flatK B.spent) := by
 obtain ⟨A, c, e, hs, -⟩ := src_owns h.1
 obtain ⟨A', c', e', hs', -⟩ := src_owns h.2.1
 cases e; cases e'
 exact ⟨hs, hs'⟩
theorem own_book (B : Book) (A1 A2 : Option Addr) (c1 c2 : Nat) (w : World) (h1 : SrcAt w A1 B.devs.length 35 (flatD B.devs)) (h2 : SrcAt w A2 B.spent.length 32 (flatK B.spent)) (hf : Few B) :
  Calls Tryz.prog 43 #[.agg (bookCells B A1 c1 A2 c2).toArray] w fun e w' => ∃ A1' c1' A2' c2', e = .returned (.agg (bookCells B A1' c1' A2' c2').toArray) ∧ Lists w' w.heap.size B A1' c1' A2' c2' ∧ (A1' = none ↔ A1 = none) ∧ (A2' = none ↔ A2 = none) ∧ Below w.heap.size w w' := by
 obtain ⟨f1, f2⟩ := hf
 exact own_any B.ver B.clock A1 A2 _ c1 _ c2 (flatD B.devs) (flatK B.spent) (str B.acl) w h1 h2 (by omega) (by omega) (flatD_one _) (flatK_one _)
theorem book_one (B : Book) (A1 A2 : Option Addr) (c1 c2 : Nat) : ∀ v ∈ bookCells B A1 c1 A2 c2, v.oneCell' = true := by
 intro v hv
 simp only [bookCells, List.mem_cons, List.not_mem_nil, or_false] at hv
 rcases hv with rfl | rfl | rfl | rfl | rfl <;> rfl
theorem splice_all {α : Type} (cur cs : List α) (h : cur.length = cs.length) : splice cur 0 cs = cs := by
 unfold splice
 rw [List.take_zero, List.drop_eq_nil_of_le (by omega)]
 simp
theorem run_storeFull (P : Program) (w : World) (t : TypeId) (k : Nat) (hz : ∀ w, (Go.sizeOf t).run P w = .ok k w) (g : Nat) (cs : List Value) (hk : cs.length = k) (h1 : ∀ v ∈ cs, v.oneCell' = true)
  (cur : Array Value) (T : TypeId) (hg : w.heap[g]? = some (.cells cur T (0, 0))) (hc : cur.size = k) :
  (Instr.storeAt t (.pointer (some ⟨g, 0, none⟩)) (.agg cs.toArray)).run P w = .ok () (w.setRow g cs.toArray) := by
 have := run_storeAtK P w t k hz g 0 cs hk h1 cur.toList T (by simpa using hg) (by simp; omega)
 rw [splice_all _ _ (by simp; omega)] at this
 exact this
set_option maxRecDepth 100000 in
theorem new_any (w : World) : Calls Tryz.prog 14 #[] w fun e w' => e = .returned (.pointer (some ⟨w.heap.size, 0, none⟩)) ∧ w' = w.alloc (.cells #[.bool true, .int .i64 0, .int .i64 0, .slice none 0 0, .slice none 0 0, .string ⟨#[]⟩] 83) := by
 go_enter Tryz.func14, Tryz.ntmps14
 go_wp2
 go_ret
 exact ⟨rfl, rfl⟩
theorem new_dir (w : World) : Calls Tryz.prog 14 #[] w fun e w' => e = .returned (.pointer (some ⟨w.heap.size, 0, none⟩)) ∧ DirAt w' w.heap.size book0 ∧ Below w.heap.size w w' := by
 refine (new_any w).mono ?_
 rintro e w' ⟨rfl, rfl⟩
 refine ⟨rfl, ⟨none, 0, none, 0, heap_alloc_new w _, ⟨World.ownsRow_nil _ _ _ _, World.ownsRow_nil _ _ _ _, fun k hk => by cases hk⟩, fun k hk => (by cases hk), fun k hk => (by cases hk)⟩, (Below.refl _ w).alloc (Nat.le_refl _) _⟩
set_option maxHeartbeats 1000000 in
set_option maxRecDepth 100000 in
theorem book_any (p : Nat) (B : Book) (w : World) (h : DirAt w p B) (hf : Few B) :
  Calls Tryz.prog 17 #[.pointer (some ⟨p, 0, none⟩)] w fun e w' => (∃ v, e = .returned v ∧ BookIs w' w.heap.size B v) ∧ Below w.heap.size w w' := by
 have hlt := h.lt
 obtain ⟨A1, c1, A2, c2, hh, hL, -, -⟩ := h
 obtain ⟨s1, s2⟩ := hL.src
 obtain ⟨W0, hW0⟩ : ∃ W0, W0 = w.alloc (.cells #[.int .i64 0, .int .i64 0, .slice none 0 0, .slice none 0 0, .string ⟨#[]⟩] 43) := ⟨_, rfl⟩
 have hb0 : Below w.heap.size w W0 := by rw [hW0]; exact (Below.refl _ w).alloc (Nat.le_refl _) _
 have hq : W0.heap[w.heap.size]? = some (.cells #[.int .i64 0, .int .i64 0, .slice none 0 0, .slice none 0 0, .string ⟨#[]⟩] 43 (0, 0)) := by rw [hW0]; exact heap_alloc_new w _
 have hown := Aside0.mk (own_book B A1 A2 c1 c2 W0 (s1.grown hb0) (s2.grown hb0) hf)
 have hh0 : W0.heap[p]? = some (.cells (.bool true :: bookCells B A1 c1 A2 c2).toArray 83 (0, 0)) := (hb0.block _ hlt).trans hh
 have l1 := Aside0.mk (run_loadAtK Tryz.prog W0 43 5 Tryz.isAgg43 Tryz.sizeOf43 p 1 (bookCells B A1 c1 A2 c2) rfl (fun j v hj => by rw [cell_of_heap hh0, Nat.add_comm]; exact hj))
 have hB0 := Aside0.mk hb0
 have hQ := Aside0.mk hq
 have hQlt : w.heap.size < W0.heap.size := (Array.getElem?_eq_some_iff.1 hq).1
 clear hh hh0 hL s1 s2 hb0 hq hf
 go_enter Tryz.func17, Tryz.ntmps17
 go_wp2_with (first | fail | (rw [← hW0]; refine wpList_loadK rfl 43 _ rfl _ rfl _ l1.out ?_))
 rw [← hW0]
 clear hW0
 refine hown.out.mono ?_
 rintro e w1 ⟨A1', c1', A2', c2', rfl, hL, -, -, hb⟩
 have hq1 := (hb.block _ (Array.getElem?_eq_some_iff.1 hQ.out).1).trans hQ.out
 have st := Aside0.mk (run_storeFull Tryz.prog w1 43 5 Tryz.sizeOf43 w.heap.size (bookCells B A1' c1' A2' c2') rfl (book_one _ _ _ _ _) _ 43 hq1 rfl)
 have hq2 := Aside0.mk (setRow_heap w1 w.heap.size _ (bookCells B A1' c1' A2' c2').toArray 43 (0, 0) hq1)
 have HL := Aside0.mk hL
 have HB := Aside0.mk hb
 clear hL hb hq1 hown hQ l1
 go_wp2_with (first | (refine wpList_storeK rfl 43 _ _ rfl rfl _ _ rfl rfl _ st.out ?_))
 try simp only [Exit.inBlock, Exit.then]
 refine bodyPost_ret (results_cell_row rfl _ _ w.heap.size 43 _ (0, 0) _ rfl hq2.out Tryz.underlying43 rfl (by kernel_rfl)) rfl ?_
 have hg := grownBy_setRow w1 w.heap.size (bookCells B A1' c1' A2' c2').toArray
 have hs0 := hB0.out.size
 have hlt0 := (Array.getElem?_eq_some_iff.1 hq2.out).1
 have hsz : w.heap.size < W0.heap.size := hQlt
 refine ⟨⟨_, rfl, A1', c1', A2', c2', rfl, (HL.out.lower hB0.out.size).kept hg ?_ ?_⟩, below_setRow (below_step hB0.out HB.out) (Nat.le_refl _) _⟩
 ·cases hk : (Value.slice A1' B.devs.length c1').ownBlock with
  | none => exact .inl rfl
  | some k => exact .inr (by have := (HL.out.1.lt k hk).1; simp; omega)
 ·cases hk : (Value.slice A2' B.spent.length c2').ownBlock with
  | none => exact .inl rfl
  | some k => exact .inr (by have := (HL.out.2.1.lt k hk).1; simp; omega)
end Go.Proofs.YthnpiimiimiijaaGreatDoor.Dir
/- The place of a device with a key; Valid. -/
namespace Go.Proofs.YthnpiimiimiijaaGreatDoor.Dir
open Go Go.RowKit Go.Proofs Go.Proofs.YthnpiimiimiijaaGreatDoorW.PrintWords Go.Proofs.YthnpiimiimiijaaGreatDoorW.PrintLast Go.Proofs.YthnpiimiimiijaaGreatDoorW.PrintMore
set_option linter.unusedVariables false
set_option linter.unusedSimpArgs false
theorem flatMap_at {α : Type} (f : α → List Value) (k : Nat) (hk : ∀ x, (f x).length = k) : ∀ (l : List α) (j : Nat) (x : α), l[j]? = some x → ∀ i v, (f x)[i]? = some v → (l.flatMap f)[j * k + i]? = some v
 | [], j, x, h, _, _, _ => by simp at h
 | a :: l, 0, x, h, i, v, hv => by
  simp at h
  subst h
  rw [List.flatMap_cons, Nat.zero_mul, Nat.zero_add, List.getElem?_append_left (List.getElem?_eq_some_iff.1 hv).1]
  exact hv
 | a :: l, j + 1, x, h, i, v, hv => by
  rw [List.flatMap_cons, List.getElem?_append_right (by rw [hk, Nat.add_mul]; omega), hk, show (j + 1) * k + i - k = j * k + i by rw [Nat.add_mul]; omega]
  exact flatMap_at f k hk l j x (by simpa using h) i v hv
theorem row_cell {w W : World} {base : Nat} {e : TypeId} {size g n c : Nat} {xs : List Value} (h : w.ownsRow base e size (.slice (some ⟨g, 0, none⟩) n c) n xs) (hb : Below w.heap.size w W) {j : Nat} {v : Value} (hj : xs[j]? = some v) : W.cell? ⟨g, j, none⟩ = some v := by
 have h' := h.cells (g := g) rfl j v hj
 rw [add_at, Nat.zero_add] at h'
 rw [hb.cell (World.block_lt_of_cell? w _ h')]
 exact h'
theorem load_dev {w : World} {base g n c : Nat} {l : List Dev} (h : w.ownsRow base 46 35 (.slice (some ⟨g, 0, none⟩) n c) n (flatD l)) {W : World} (hb : Below w.heap.size w W) {j : Nat} {d : Dev} (hj : l[j]? = some d) :
  (Instr.loadAt 46 (.pointer (some ⟨g, j * 35, none⟩))).run Tryz.prog W = .ok (.agg (encD d).toArray) W :=
 run_loadAtK Tryz.prog W 46 35 Tryz.isAgg46 Tryz.sizeOf46 g (j * 35) (encD d) (encD_len _) (fun i v hv => row_cell h hb (flatMap_at encD 35 encD_len l j d hj i v hv))
theorem load_key {w : World} {base g n c : Nat} {l : List Key} (h : w.ownsRow base 34 32 (.slice (some ⟨g, 0, none⟩) n c) n (flatK l)) {W : World} (hb : Below w.heap.size w W) {j : Nat} {d : Key} (hj : l[j]? = some d) :
  (Instr.loadAt 34 (.pointer (some ⟨g, j * 32, none⟩))).run Tryz.prog W = .ok (.agg (encK d).toArray) W :=
 run_loadAtK Tryz.prog W 34 32 Tryz.isAgg34 Tryz.sizeOf34 g (j * 32) (encK d) (encK_len _) (fun i v hv => row_cell h hb (flatMap_at encK 32 encK_len l j d hj i v hv))
set_option maxHeartbeats 2000000 in
set_option maxRecDepth 100000 in
theorem index_dev (l : List Dev) (k : Key) (A : Option Addr) (c cb base : Nat) (w : World) (h : w.ownsRow base 46 35 (.slice A l.length c) l.length (flatD l)) (hl : l.length ≤ 8) (hc : w.heap[cb]? = some (.cells (encK k).toArray 34 (0, 0))) :
  Calls Tryz.prog 45 #[.slice A l.length c, .func (.func 46) #[] #[.pointer (some ⟨cb, 0, none⟩)]] w fun e w' => ((e = .returned (.int .i64 (-1)) ∧ ∀ d ∈ l, d.key ≠ k) ∨ ∃ (i : Nat) (d : Dev), e = .returned (.int .i64 i) ∧ l[i]? = some d ∧ d.key = k ∧ ∀ j, j < i → ∀ d', l[j]? = some d' → d'.key ≠ k) ∧ Below w.heap.size w w' := by
 have HW := Aside0.mk h
 have HC := Aside0.mk hc
 have HL := Aside0.mk hl
 have hcl : cb < w.heap.size := (Array.getElem?_eq_some_iff.1 hc).1
 have HCL := Aside0.mk hcl
 clear h hc hl hcl
 go_enter Tryz.func45, Tryz.ntmps45
 go_wp2
 go_loopg [5, 8] l.length (fun gg _ s8 wr => ∃ kk : Nat, kk ≤ l.length ∧ l.length - kk ≤ gg ∧ s8 = .int .i64 kk ∧ Aside0 (Below w.heap.size w wr) ∧ Aside0 (∀ j, j < kk → ∀ d', l[j]? = some d' → d'.key ≠ k))
 case atStart => exact ⟨0, Nat.zero_le _, by omega, rfl, ⟨Below.refl _ w⟩, ⟨fun j hj => absurd hj (Nat.not_lt_zero _)⟩⟩
 case round =>
  obtain ⟨kk, hkk, hg, rfl, BW, AL⟩ := hrel
  by_cases hlt : kk < l.length
  ·have hltz : (kk : Int) < (l.length : Int) := by omega
   obtain ⟨g, rfl⟩ : ∃ g, A = some ⟨g, 0, none⟩ := by
    rcases HW.out.2 with ⟨e, e2⟩ | ⟨g, _, _, e, _⟩
    ·omega
    ·injection e with e; exact ⟨g, e⟩
   obtain ⟨d, hd⟩ : ∃ d, l[kk]? = some d := ⟨_, List.getElem?_eq_getElem hlt⟩
   have l1 := Aside0.mk (load_dev HW.out BW.out hd)
   have hcall := Aside0.mk (same_any d k cb wr ((BW.out.block _ HCL.out).trans HC.out))
   have HD := Aside0.mk hd
   clear hd
   have LL := HL.out
   by_cases hq : d.key = k
   ·rw [show decide (d.key = k) = true from decide_eq_true hq] at hcall
    go_wp2_with (first | (refine wpList_loadK rfl 46 _ rfl _ rfl _ l1.out ?_) | (go_at_call 46; refine hcall.out.mono ?_; rintro e w' ⟨rfl, rfl⟩))
    go_ret
    exact ⟨.inr ⟨kk, d, rfl, HD.out, hq, AL.out⟩, BW.out.alloc BW.out.size _⟩
   ·rw [show decide (d.key = k) = false from decide_eq_false hq] at hcall
    have HQ := Aside0.mk hq
    clear hq
    go_wp2_with (first | (refine wpList_loadK rfl 46 _ rfl _ rfl _ l1.out ?_) | (go_at_call 46; refine hcall.out.mono ?_; rintro e w' ⟨rfl, rfl⟩))
    go_roundg (l.length - (kk + 1))
    case measure => omega
    case rel =>
     refine ⟨kk + 1, by omega, by omega, by go_num, ⟨BW.out.alloc BW.out.size _⟩, ⟨fun j hj d' hd' => ?_⟩⟩
     by_cases e : j = kk
     ·subst e
      rw [HD.out] at hd'
      cases hd'
      exact HQ.out
     ·exact AL.out j (by omega) d' hd'
  ·have hltz : ¬ (kk : Int) < (l.length : Int) := by omega
   have : kk = l.length := by omega
   subst this
   go_wp2
   go_ret
   refine ⟨.inl ⟨rfl, fun d hd => ?_⟩, BW.out⟩
   obtain ⟨j, hj⟩ := List.getElem?_of_mem hd
   exact AL.out j (List.getElem?_eq_some_iff.1 hj).1 d hj
theorem find_at {l : List Dev} {p : Dev → Bool} {i : Nat} {d : Dev} (hi : l[i]? = some d) (hd : p d = true) (h : ∀ j, j < i → ∀ d', l[j]? = some d' → p d' = false) : l.find? p = some d := by
 obtain ⟨hlt, e⟩ := List.getElem?_eq_some_iff.1 hi
 refine List.find?_eq_some_iff_getElem.2 ⟨hd, i, hlt, e, fun j hj => ?_⟩
 have := h j hj l[j] (List.getElem?_eq_getElem (by omega))
 simp [this]
def validRes (r : Option Int) : Value := match r with | none => .tuple #[.int .i64 0, .bool false] | some n => .tuple #[.int .i64 n, .bool true]
theorem sizeD : (Tryz.prog.info? 46).map (·.size) = some 35 := by kernel_rfl
set_option maxHeartbeats 2000000 in
set_option maxRecDepth 100000 in
theorem valid_any (B : Book) (k : Key) (now : Int) (v : Value) (base : Nat) (w : World) (h : BookIs w base B v) (hf : Few B) :
  Calls Tryz.prog 19 #[v, .agg (encK k).toArray, .int .i64 now] w fun e w' => e = .returned (validRes (validOf B k now)) ∧ Below w.heap.size w w' := by
 obtain ⟨A1, c1, A2, c2, rfl, hL⟩ := h
 obtain ⟨W0, hW0⟩ : ∃ W0, W0 = (w.alloc (.cells (bookCells B A1 c1 A2 c2).toArray 43)).alloc (.cells (encK k).toArray 34) := ⟨_, rfl⟩
 have hb0 : Below w.heap.size w W0 := by rw [hW0]; exact ((Below.refl _ w).alloc (Nat.le_refl _) _).alloc (by simp) _
 have q1 : W0.heap[w.heap.size]? = some (.cells (bookCells B A1 c1 A2 c2).toArray 43 (0, 0)) := by rw [hW0, Below.heap_alloc _ _ _ (by simp)]; exact heap_alloc_new w _
 have q2 : W0.heap[w.heap.size + 1]? = some (.cells (encK k).toArray 34 (0, 0)) := by rw [hW0]; have := heap_alloc_new (w.alloc (.cells (bookCells B A1 c1 A2 c2).toArray 43)) (.cells (encK k).toArray 34); simpa using this
 have hr := pw_own_below hL.1 hb0
 have HI := Aside0.mk (index_dev B.devs k A1 c1 (w.heap.size + 1) base W0 hr hf.1 q2)
 have HR := Aside0.mk hr
 have hc1 := cell_of_heap (j := 1) q1
 have hc2 := cell_of_heap (j := 2) q1
 have HB := Aside0.mk hb0
 have Q1 := Aside0.mk q1
 obtain ⟨R, hR⟩ : ∃ R, R = validRes (validOf B k now) := ⟨_, rfl⟩
 rw [← hR]
 have HRR := Aside0.mk hR
 have hF := hf.1
 obtain ⟨cl, hcl⟩ : ∃ cl, cl = B.clock := ⟨_, rfl⟩
 obtain ⟨n1, hn1⟩ : ∃ n1, n1 = B.devs.length := ⟨_, rfl⟩
 have c1' : W0.cell? ⟨w.heap.size, 1, none⟩ = some (.int .i64 cl) := by rw [hc1, hcl]; rfl
 have c2' : W0.cell? ⟨w.heap.size, 2, none⟩ = some (.slice A1 n1 c1) := by rw [hc2, hn1]; rfl
 have HCL := Aside0.mk hcl
 have HN := Aside0.mk hn1
 rw [← hn1] at hF
 clear hc1 hc2 hR hL hb0 q1 q2 hr hf hcl hn1
 go_enter Tryz.func19, Tryz.ntmps19
 go_upto_region 1 with fail
 rw [← hW0]
 clear hW0
 go_wp2_with fail
 rw [HN.out]
 refine HI.out.mono ?_
 rintro e w1 ⟨hres, hb1⟩
 have d1 := (hb1.cell (p := ⟨w.heap.size, 1, none⟩) (World.block_lt_of_cell? W0 _ c1')).trans c1'
 have d2 := (hb1.cell (p := ⟨w.heap.size, 2, none⟩) (World.block_lt_of_cell? W0 _ c2')).trans c2'
 have HB1 := Aside0.mk hb1
 clear hb1 c1' c2'
 rcases hres with ⟨rfl, hno⟩ | ⟨i, d, rfl, hi, hk, hfst⟩
 ·have HNO := Aside0.mk hno
  clear hno
  go_wp2_with fail
  go_ret2
  refine ⟨?_, below_step HB.out HB1.out⟩
  rw [HRR.out]
  have : B.devs.find? (fun d => decide (d.key = k)) = none := List.find?_eq_none.2 fun d hd => by simpa using HNO.out d hd
  unfold validOf
  rw [this]
  rfl
 ·have hfind : B.devs.find? (fun d => decide (d.key = k)) = some d := find_at hi (decide_eq_true hk) (fun j hj d' hd' => decide_eq_false (hfst j hj d' hd'))
  have hlt := (List.getElem?_eq_some_iff.1 hi).1
  have hin : (i : Int) < (n1 : Int) := by rw [HN.out]; omega
  obtain ⟨g, rfl⟩ : ∃ g, A1 = some ⟨g, 0, none⟩ := by
   rcases HR.out.2 with ⟨e, e2⟩ | ⟨g, _, _, e, _⟩
   ·omega
   ·injection e with e; exact ⟨g, e⟩
  have l1 := Aside0.mk (load_dev HR.out HB1.out hi)
  have st := Aside0.mk (fun (c : Array Value) (hc : c.size = 35) => run_storeNew Tryz.prog w1 46 35 sizeD c (encD d).toArray hc (by simpa using encD_len d) (by simpa using encD_one d))
  have a0 : (encD d).toArray[0]? = some (.int .i64 d.node) := rfl
  have a33 : (encD d).toArray[33]? = some (.int .i64 d.exp) := by simpa using expOfD d
  have a34 : (encD d).toArray[34]? = some (.bool d.rev) := by simpa using revOfD d
  have hval : validRes (validOf B k now) = if d.rev = true ∨ d.exp ≤ now ∨ d.exp ≤ cl then .tuple #[.int .i64 0, .bool false] else .tuple #[.int .i64 d.node, .bool true] := by
   unfold validOf
   rw [hfind, HCL.out]
   show validRes (if _ then _ else _) = _
   split <;> rfl
  have HV := Aside0.mk (HRR.out.trans hval)
  clear hval
  generalize (encD d).toArray = A at l1 st a0 a33 a34
  generalize d.rev = rv at a34 HV
  generalize d.exp = ex at a33 HV
  generalize d.node = nd at a0 HV
  clear hi hk hfst hfind hlt
  have d1' : ∀ o, (w1.alloc o).cell? ⟨w.heap.size, 1, none⟩ = some (.int .i64 cl) := fun o => Lib.cell?_alloc_some o d1
  go_wp2_with (first | (refine wpList_loadK rfl 46 _ rfl _ rfl _ l1.out ?_) | (refine wpList_storeK rfl 46 _ _ rfl rfl _ _ rfl rfl _ (st.out _ rfl) ?_))
  all_goals
   go_ret2
   refine ⟨?_, (below_step HB.out HB1.out).alloc (below_step HB.out HB1.out).size _⟩
   rw [HV.out]
  all_goals first
   | (rw [if_pos (by first | (left; assumption) | (right; assumption) | (right; left; assumption) | (right; omega))]; rfl)
   | (rw [if_neg (by rintro (h | h | h) <;> first | contradiction | omega)]; rfl)
end Go.Proofs.YthnpiimiimiijaaGreatDoor.Dir
end
