/- Books in memory: the clones of their lists, a book of the call's own, and where a directory's book lies. -/
import Derived.Test.YthnpiimiimiijaaGreatDoorDirOps
import Derived.Lib.SliceRun
import Derived.OwnWalk
import Derived.Laws.OwnMore
import Derived.WideLaws
namespace Go.Proofs.YthnpiimiimiijaaGreatDoor.Dir
open Go Go.RowKit Go.Proofs Go.Proofs.YthnpiimiimiijaaGreatDoorW.PrintWords Go.Proofs.YthnpiimiimiijaaGreatDoorW.PrintLast Go.Proofs.YthnpiimiimiijaaGreatDoorW.PrintMore
set_option linter.unusedVariables false
set_option linter.unusedSimpArgs false
/-- The cells of a slice that is read. -/
def SrcAt (w : World) (A : Option Addr) (n size : Nat) (xs : List Value) : Prop :=
 xs.length = n * size ∧ (A = none → n = 0) ∧ ∀ a, A = some a → ∀ j u, xs[j]? = some u → w.cell? (a.add j) = some u
theorem SrcAt.grown {w w' : World} {A : Option Addr} {n size : Nat} {xs : List Value} (h : SrcAt w A n size xs) (hg : Below w.heap.size w w') : SrcAt w' A n size xs :=
 ⟨h.1, h.2.1, fun a ha j u hj => by
  have hc := h.2.2 a ha j u hj
  rw [hg.cell (World.block_lt_of_cell? w _ hc)]; exact hc⟩
theorem src_owns {w : World} {base : Nat} {e : TypeId} {size n : Nat} {v : Value} {xs : List Value} (h : w.ownsRow base e size v n xs) : ∃ A c, v = .slice A n c ∧ SrcAt w A n size xs ∧ (A = none ↔ v = .slice none 0 0) := by
 rcases h.2 with ⟨rfl, rfl⟩ | ⟨g, cap, cur, rfl, _⟩
 ·exact ⟨none, 0, rfl, ⟨h.1, fun _ => rfl, fun a ha => (by cases ha)⟩, by simp⟩
 ·exact ⟨some ⟨g, 0, none⟩, cap, rfl, ⟨h.1, fun e => (by cases e), fun a ha j u hj => (by cases ha; exact h.cells (g := g) rfl j u hj)⟩, by simp⟩
theorem info46 : (Tryz.prog.info? 46).map (fun i => (i.size, i.bytes)) = some (35, 56) := by kernel_rfl
theorem zero46 : ∃ z, ((Tryz.prog.info? 46).bind (·.zero)) = some z ∧ z.cells.size = 35 := ⟨.agg #[.int .i64 0, .int .u8 0, .int .u8 0, .int .u8 0, .int .u8 0, .int .u8 0, .int .u8 0, .int .u8 0, .int .u8 0, .int .u8 0, .int .u8 0, .int .u8 0, .int .u8 0, .int .u8 0, .int .u8 0, .int .u8 0, .int .u8 0, .int .u8 0, .int .u8 0, .int .u8 0, .int .u8 0, .int .u8 0, .int .u8 0, .int .u8 0, .int .u8 0, .int .u8 0, .int .u8 0, .int .u8 0, .int .u8 0, .int .u8 0, .int .u8 0, .int .u8 0, .int .u8 0, .int .i64 0, .bool false], by kernel_rfl, by kernel_rfl⟩
set_option maxRecDepth 100000 in
/-- slices.Clone (number 79). -/
theorem clone79 (A : Option Addr) (n c : Nat) (xs : List Value) (w : World) (hs : SrcAt w A n 35 xs) (hb : n * 56 ≤ 140737488355328) (h1 : ∀ u ∈ xs, u.oneCell' = true) :
  Calls Tryz.prog 79 #[.slice A n c] w fun e w' => ∃ v', e = .returned v' ∧ w'.ownsRow w.heap.size 46 35 v' n xs ∧ (v' = .slice none 0 0 ↔ A = none) ∧ Below w.heap.size w w' := by
 have t22 := Tryz.underlying40
 have q22 : ∀ (w : World) (a : Option Addr) (n c n' c' : Nat), (binOp .eql 40 (.slice a n c) (.slice none n' c')).run Tryz.prog w = .ok (.bool a.isNone) w := fun w a n c n' c' => Lib.run_eql_slice_nil w _ _ a n c n' c' t22
 have hx : xs.length = n * 35 := hs.1
 cases A with
 | none =>
  obtain rfl := hs.2.1 rfl
  have : xs = [] := List.eq_nil_of_length_eq_zero (by simpa using hx)
  subst this
  clear hs hx
  go_enter Tryz.func79, Tryz.ntmps79
  go_wp2
  go_ret
  exact ⟨_, rfl, World.ownsRow_nil _ _ _ _, by simp, Below.refl _ _⟩
 | some a =>
  obtain ⟨z, hz, hzs⟩ := zero46
  have hi := info46
  obtain ⟨i0, hi0⟩ : ∃ i0, Tryz.prog.info? 46 = some i0 := by
   cases h : Tryz.prog.info? 46 with
   | some i => exact ⟨i, rfl⟩
   | none => rw [h] at hi; cases hi
  rw [hi0] at hi hz
  simp only [Option.map_some, Option.some.injEq, Prod.mk.injEq, Option.bind_some] at hi hz
  obtain ⟨hz1, hz2⟩ := hi
  obtain ⟨ab, ao, asp⟩ := a
  have S := Aside0.mk (hs.2.2 _ rfl)
  have H1 := Aside0.mk h1
  have HX := Aside0.mk hx
  have HI := Aside0.mk (show Tryz.prog.info? 46 = some i0 ∧ i0.zero = some z ∧ i0.size = 35 ∧ i0.bytes = 56 ∧ z.cells.size = 35 from ⟨hi0, hz, hz1, hz2, hzs⟩)
  clear hs h1 hx hi0 hz hz1 hz2 hzs
  go_enter Tryz.func79, Tryz.ntmps79
  go_wp2_with (at_builtin; refine wpList_append_own _ rfl _ _ 40 rfl w.heap.size 46 i0 z 35 56 t22 HI.out.1 HI.out.2.1 HI.out.2.2.1 HI.out.2.2.2.1 HI.out.2.2.2.2 (by decide) _ _ _ rfl (World.ownsRow_made w #[] 0 (Nat.le_refl _) (Nat.zero_le _) (by simp)) ⟨ab, ao, asp⟩ n c xs rfl ?qc1 ?qc2 ?qc3 ?qc4 ?qc5 ?qc6 ?_)
  case qc1 => exact HX.out
  case qc2 =>
   intro j u hj
   exact Lib.cell?_alloc_some _ (S.out j u hj)
  case qc3 => exact H1.out
  case qc4 => rw [Nat.zero_add]; unfold maxLen; omega
  case qc5 => rw [Nat.zero_add]; exact hb
  case qc6 => simp
  intro v' w1 hown hgrow hnil
  go_wp2
  go_ret
  refine ⟨v', rfl, by simpa using hown, by simpa using hnil, ?_⟩
  exact ((Below.refl _ w).alloc (Nat.le_refl _) _).grown hgrow (by simp) (by intro k hk; simp [Value.ownBlock] at hk; omega)
theorem info34 : (Tryz.prog.info? 34).map (fun i => (i.size, i.bytes)) = some (32, 32) := by kernel_rfl
theorem zero34 : ∃ z, ((Tryz.prog.info? 34).bind (·.zero)) = some z ∧ z.cells.size = 32 := ⟨.agg #[.int .u8 0, .int .u8 0, .int .u8 0, .int .u8 0, .int .u8 0, .int .u8 0, .int .u8 0, .int .u8 0, .int .u8 0, .int .u8 0, .int .u8 0, .int .u8 0, .int .u8 0, .int .u8 0, .int .u8 0, .int .u8 0, .int .u8 0, .int .u8 0, .int .u8 0, .int .u8 0, .int .u8 0, .int .u8 0, .int .u8 0, .int .u8 0, .int .u8 0, .int .u8 0, .int .u8 0, .int .u8 0, .int .u8 0, .int .u8 0, .int .u8 0, .int .u8 0], by kernel_rfl, by kernel_rfl⟩
set_option maxRecDepth 100000 in
/-- slices.Clone (number 54). -/
theorem clone54 (A : Option Addr) (n c : Nat) (xs : List Value) (w : World) (hs : SrcAt w A n 32 xs) (hb : n * 32 ≤ 140737488355328) (h1 : ∀ u ∈ xs, u.oneCell' = true) :
  Calls Tryz.prog 54 #[.slice A n c] w fun e w' => ∃ v', e = .returned v' ∧ w'.ownsRow w.heap.size 34 32 v' n xs ∧ (v' = .slice none 0 0 ↔ A = none) ∧ Below w.heap.size w w' := by
 have t22 := Tryz.underlying41
 have q22 : ∀ (w : World) (a : Option Addr) (n c n' c' : Nat), (binOp .eql 41 (.slice a n c) (.slice none n' c')).run Tryz.prog w = .ok (.bool a.isNone) w := fun w a n c n' c' => Lib.run_eql_slice_nil w _ _ a n c n' c' t22
 have hx : xs.length = n * 32 := hs.1
 cases A with
 | none =>
  obtain rfl := hs.2.1 rfl
  have : xs = [] := List.eq_nil_of_length_eq_zero (by simpa using hx)
  subst this
  clear hs hx
  go_enter Tryz.func54, Tryz.ntmps54
  go_wp2
  go_ret
  exact ⟨_, rfl, World.ownsRow_nil _ _ _ _, by simp, Below.refl _ _⟩
 | some a =>
  obtain ⟨z, hz, hzs⟩ := zero34
  have hi := info34
  obtain ⟨i0, hi0⟩ : ∃ i0, Tryz.prog.info? 34 = some i0 := by
   cases h : Tryz.prog.info? 34 with
   | some i => exact ⟨i, rfl⟩
   | none => rw [h] at hi; cases hi
  rw [hi0] at hi hz
  simp only [Option.map_some, Option.some.injEq, Prod.mk.injEq, Option.bind_some] at hi hz
  obtain ⟨hz1, hz2⟩ := hi
  obtain ⟨ab, ao, asp⟩ := a
  have S := Aside0.mk (hs.2.2 _ rfl)
  have H1 := Aside0.mk h1
  have HX := Aside0.mk hx
  have HI := Aside0.mk (show Tryz.prog.info? 34 = some i0 ∧ i0.zero = some z ∧ i0.size = 32 ∧ i0.bytes = 32 ∧ z.cells.size = 32 from ⟨hi0, hz, hz1, hz2, hzs⟩)
  clear hs h1 hx hi0 hz hz1 hz2 hzs
  go_enter Tryz.func54, Tryz.ntmps54
  go_wp2_with (at_builtin; refine wpList_append_own _ rfl _ _ 41 rfl w.heap.size 34 i0 z 32 32 t22 HI.out.1 HI.out.2.1 HI.out.2.2.1 HI.out.2.2.2.1 HI.out.2.2.2.2 (by decide) _ _ _ rfl (World.ownsRow_made w #[] 0 (Nat.le_refl _) (Nat.zero_le _) (by simp)) ⟨ab, ao, asp⟩ n c xs rfl ?qc1 ?qc2 ?qc3 ?qc4 ?qc5 ?qc6 ?_)
  case qc1 => exact HX.out
  case qc2 =>
   intro j u hj
   exact Lib.cell?_alloc_some _ (S.out j u hj)
  case qc3 => exact H1.out
  case qc4 => rw [Nat.zero_add]; unfold maxLen; omega
  case qc5 => rw [Nat.zero_add]; exact hb
  case qc6 => simp
  intro v' w1 hown hgrow hnil
  go_wp2
  go_ret
  refine ⟨v', rfl, by simpa using hown, by simpa using hnil, ?_⟩
  exact ((Below.refl _ w).alloc (Nat.le_refl _) _).grown hgrow (by simp) (by intro k hk; simp [Value.ownBlock] at hk; omega)
theorem cloned79 (A : Option Addr) (n c : Nat) (xs : List Value) (w : World) (hs : SrcAt w A n 35 xs) (hb : n * 56 ≤ 140737488355328) (h1 : ∀ u ∈ xs, u.oneCell' = true) :
  Calls Tryz.prog 79 #[.slice A n c] w fun e w' => ∃ A' c', e = .returned (.slice A' n c') ∧ w'.ownsRow w.heap.size 46 35 (.slice A' n c') n xs ∧ (A' = none ↔ A = none) ∧ Below w.heap.size w w' := by
 refine (clone79 A n c xs w hs hb h1).mono ?_
 rintro e w' ⟨v', rfl, ho, hn, hb⟩
 obtain ⟨A', c', rfl, -, h2⟩ := src_owns ho
 exact ⟨A', c', rfl, ho, h2.trans hn, hb⟩
theorem cloned54 (A : Option Addr) (n c : Nat) (xs : List Value) (w : World) (hs : SrcAt w A n 32 xs) (hb : n * 32 ≤ 140737488355328) (h1 : ∀ u ∈ xs, u.oneCell' = true) :
  Calls Tryz.prog 54 #[.slice A n c] w fun e w' => ∃ A' c', e = .returned (.slice A' n c') ∧ w'.ownsRow w.heap.size 34 32 (.slice A' n c') n xs ∧ (A' = none ↔ A = none) ∧ Below w.heap.size w w' := by
 refine (clone54 A n c xs w hs hb h1).mono ?_
 rintro e w' ⟨v', rfl, ho, hn, hb⟩
 obtain ⟨A', c', rfl, -, h2⟩ := src_owns ho
 exact ⟨A', c', rfl, ho, h2.trans hn, hb⟩
/-- Two lists of the call's own, in blocks of their own. -/
def ListsAt (w : World) (base : Nat) (dv sv : Value) (n1 n2 : Nat) (ds ks : List Value) : Prop :=
 w.ownsRow base 46 35 dv n1 ds ∧ w.ownsRow base 34 32 sv n2 ks ∧ ∀ k, dv.ownBlock = some k → sv.ownBlock ≠ some k
theorem ListsAt.kept {w w' : World} {base n1 n2 : Nat} {dv sv : Value} {ds ks : List Value} {row : Option Nat} (h : ListsAt w base dv sv n1 n2 ds ks) (hg : w.grownBy w' row) (h1 : dv.ownBlock = none ∨ dv.ownBlock ≠ row) (h2 : sv.ownBlock = none ∨ sv.ownBlock ≠ row) : ListsAt w' base dv sv n1 n2 ds ks :=
 ⟨h.1.kept hg h1, h.2.1.kept hg h2, h.2.2⟩
theorem ListsAt.below {w w' : World} {base n1 n2 : Nat} {dv sv : Value} {ds ks : List Value} (h : ListsAt w base dv sv n1 n2 ds ks) (hg : Below w.heap.size w w') : ListsAt w' base dv sv n1 n2 ds ks :=
 h.kept (grownBy_below hg) (by cases dv.ownBlock <;> simp) (by cases sv.ownBlock <;> simp)
theorem ListsAt.lower {w : World} {base base' n1 n2 : Nat} {dv sv : Value} {ds ks : List Value} (h : ListsAt w base dv sv n1 n2 ds ks) (hb : base' ≤ base) : ListsAt w base' dv sv n1 n2 ds ks :=
 ⟨own_weaken h.1 hb, own_weaken h.2.1 hb, h.2.2⟩
theorem below_step {w w1 w2 : World} (h : Below w.heap.size w w1) (k : Below w1.heap.size w1 w2) : Below w.heap.size w w2 := h.trans (k.mono h.size)
/-- A book in the block q, and a book's room in the next one. -/
structure OwnPl (q : Nat) (W : World) (ver clock : Int) (dv sv : Value) (acl : ByteArray) : Prop where
 box : W.heap[q]? = some (.cells #[.int .i64 ver, .int .i64 clock, dv, sv, .string acl] 43 (0, 0))
 room : ∃ z0 z1 z2 z3 z4, W.heap[q + 1]? = some (.cells #[z0, z1, z2, z3, z4] 43 (0, 0))
section
variable {q : Nat} {W W' : World} {ver clock : Int} {dv sv : Value} {acl : ByteArray}
theorem OwnPl.start (w : World) (ver clock : Int) (dv sv : Value) (acl : ByteArray) (z0 z1 z2 z3 z4 : Value) : OwnPl w.heap.size ((w.alloc (.cells #[.int .i64 ver, .int .i64 clock, dv, sv, .string acl] 43)).alloc (.cells #[z0, z1, z2, z3, z4] 43)) ver clock dv sv acl :=
 ⟨by rw [Below.heap_alloc _ _ _ (by simp)]; exact heap_alloc_new w _, z0, z1, z2, z3, z4, by have := heap_alloc_new (w.alloc (.cells #[.int .i64 ver, .int .i64 clock, dv, sv, .string acl] 43)) (.cells #[z0, z1, z2, z3, z4] 43); simpa using this⟩
theorem OwnPl.lt (h : OwnPl q W ver clock dv sv acl) : q + 1 < W.heap.size := by
 obtain ⟨_, _, _, _, _, h⟩ := h.room
 exact (Array.getElem?_eq_some_iff.1 h).1
theorem OwnPl.later (h : OwnPl q W ver clock dv sv acl) (hb : Below W.heap.size W W') : OwnPl q W' ver clock dv sv acl :=
 ⟨(hb.block _ (by have := h.lt; omega)).trans h.box, by obtain ⟨z0, z1, z2, z3, z4, hr⟩ := h.room; exact ⟨z0, z1, z2, z3, z4, (hb.block _ h.lt).trans hr⟩⟩
theorem OwnPl.cells (h : OwnPl q W ver clock dv sv acl) : W.cell? ⟨q, 0, none⟩ = some (.int .i64 ver) ∧ W.cell? ⟨q, 1, none⟩ = some (.int .i64 clock) ∧ W.cell? ⟨q, 2, none⟩ = some dv ∧ W.cell? ⟨q, 3, none⟩ = some sv ∧ W.cell? ⟨q, 4, none⟩ = some (.string acl) ∧ (∀ j, W.frozen? ⟨q, j, none⟩ = false) := by
 have hk := h.box
 simp [World.cell?, World.frozen?, hk]
theorem OwnPl.rooms (h : OwnPl q W ver clock dv sv acl) : (∃ z, W.cell? ⟨q + 1, 0, none⟩ = some z) ∧ (∃ z, W.cell? ⟨q + 1, 1, none⟩ = some z) ∧ (∃ z, W.cell? ⟨q + 1, 2, none⟩ = some z) ∧ (∃ z, W.cell? ⟨q + 1, 3, none⟩ = some z) ∧ (∃ z, W.cell? ⟨q + 1, 4, none⟩ = some z) ∧ (∀ j, W.frozen? ⟨q + 1, j, none⟩ = false) := by
 obtain ⟨z0, z1, z2, z3, z4, hk⟩ := h.room
 simp [World.cell?, World.frozen?, hk]
theorem OwnPl.set2 (h : OwnPl q W ver clock dv sv acl) (v : Value) : OwnPl q (W.setCell ⟨q, 2, none⟩ v) ver clock v sv acl :=
 ⟨by rw [heap_setCell_same W q 2 _ _ v h.box]; rfl, by obtain ⟨z0, z1, z2, z3, z4, hr⟩ := h.room; exact ⟨z0, z1, z2, z3, z4, by rw [Below.heap_setCell _ _ _ _ (by simp)]; exact hr⟩⟩
theorem OwnPl.set3 (h : OwnPl q W ver clock dv sv acl) (v : Value) : OwnPl q (W.setCell ⟨q, 3, none⟩ v) ver clock dv v acl :=
 ⟨by rw [heap_setCell_same W q 3 _ _ v h.box]; rfl, by obtain ⟨z0, z1, z2, z3, z4, hr⟩ := h.room; exact ⟨z0, z1, z2, z3, z4, by rw [Below.heap_setCell _ _ _ _ (by simp)]; exact hr⟩⟩
theorem OwnPl.filled (h : OwnPl q W ver clock dv sv acl) (a b c d e : Value) : (((((W.setCell ⟨q + 1, 0, none⟩ a).setCell ⟨q + 1, 1, none⟩ b).setCell ⟨q + 1, 2, none⟩ c).setCell ⟨q + 1, 3, none⟩ d).setCell ⟨q + 1, 4, none⟩ e).heap[q + 1]? = some (.cells #[a, b, c, d, e] 43 (0, 0)) := by
 obtain ⟨z0, z1, z2, z3, z4, hr⟩ := h.room
 have h1 := heap_setCell_same W (q + 1) 0 _ _ a hr
 have h2 := heap_setCell_same _ (q + 1) 1 _ _ b h1
 have h3 := heap_setCell_same _ (q + 1) 2 _ _ c h2
 have h4 := heap_setCell_same _ (q + 1) 3 _ _ d h3
 exact heap_setCell_same _ (q + 1) 4 _ _ e h4
end
set_option maxHeartbeats 1000000 in
set_option maxRecDepth 100000 in
theorem own_any (ver clock : Int) (A1 A2 : Option Addr) (n1 c1 n2 c2 : Nat) (ds ks : List Value) (acl : ByteArray) (w : World) (h1 : SrcAt w A1 n1 35 ds) (h2 : SrcAt w A2 n2 32 ks)
  (hb1 : n1 * 56 ≤ 140737488355328) (hb2 : n2 * 32 ≤ 140737488355328) (o1 : ∀ u ∈ ds, u.oneCell' = true) (o2 : ∀ u ∈ ks, u.oneCell' = true) :
  Calls Tryz.prog 43 #[.agg #[.int .i64 ver, .int .i64 clock, .slice A1 n1 c1, .slice A2 n2 c2, .string acl]] w fun e w' => ∃ A1' c1' A2' c2', e = .returned (.agg #[.int .i64 ver, .int .i64 clock, .slice A1' n1 c1', .slice A2' n2 c2', .string acl]) ∧
   ListsAt w' w.heap.size (.slice A1' n1 c1') (.slice A2' n2 c2') n1 n2 ds ks ∧ (A1' = none ↔ A1 = none) ∧ (A2' = none ↔ A2 = none) ∧ Below w.heap.size w w' := by
 have B1 := Aside0.mk hb1; have B2 := Aside0.mk hb2; have O1 := Aside0.mk o1; have O2 := Aside0.mk o2; have S1 := Aside0.mk h1; have S2 := Aside0.mk h2
 clear hb1 hb2 o1 o2 h1 h2
 go_enter Tryz.func43, Tryz.ntmps43
 go_wp2_with fail
 obtain ⟨W0, hW0⟩ : ∃ W0, W0 = (w.alloc (.cells #[.int .i64 ver, .int .i64 clock, .slice A1 n1 c1, .slice A2 n2 c2, .string acl] 43)).alloc (.cells #[.int .i64 0, .int .i64 0, .slice none 0 0, .slice none 0 0, .string ⟨#[]⟩] 43) := ⟨_, rfl⟩
 rw [← hW0]
 have P0 : OwnPl w.heap.size W0 ver clock (.slice A1 n1 c1) (.slice A2 n2 c2) acl := by rw [hW0]; exact OwnPl.start ..
 have B0 : Below w.heap.size w W0 := by rw [hW0]; exact ((Below.refl _ w).alloc (Nat.le_refl _) _).alloc (by simp) _
 clear hW0
 have hB0 := Aside0.mk B0
 have hP0 := Aside0.mk P0
 clear B0 P0
 refine (cloned79 A1 n1 c1 ds W0 (S1.out.grown hB0.out) B1.out O1.out).mono ?_
 rintro e w1 ⟨A1', c1', rfl, ho1, hn1, hb1⟩
 have P1 := hP0.out.later hb1
 have K1 := Aside0.mk (And.intro ho1 (And.intro hn1 (below_step hB0.out hb1)))
 have L0 := Aside0.mk hP0.out.lt
 have Z1 := Aside0.mk hb1
 clear ho1 hn1 hb1 hP0 hB0
 obtain ⟨k0, k1, k2, k3, k4, f0⟩ := P1.cells
 have hP1 := Aside0.mk P1
 clear P1
 go_wp2_with fail
 have P2 := hP1.out.set2 (.slice A1' n1 c1')
 clear k0 k1 k2 k3 k4 f0
 have hb2 : Below w.heap.size w (w1.setCell ⟨w.heap.size, 2, none⟩ (.slice A1' n1 c1')) := K1.out.2.2.setCell (Nat.le_refl _) _
 refine (cloned54 A2 n2 c2 ks _ (S2.out.grown hb2) B2.out O2.out).mono ?_
 rintro e w2 ⟨A2', c2', rfl, ho2, hn2, hb3⟩
 have P3 := P2.later hb3
 have K2 := Aside0.mk (And.intro ho2 (And.intro hn2 hb3))
 have K3 := Aside0.mk (below_step hb2 hb3)
 clear ho2 hn2 hb3 hb2 P2 hP1
 obtain ⟨k0, k1, k2, k3, k4, f0⟩ := P3.cells
 obtain ⟨⟨z0, r0⟩, ⟨z1, r1⟩, ⟨z2, r2⟩, ⟨z3, r3⟩, ⟨z4, r4⟩, fr⟩ := P3.rooms
 have hP3 := Aside0.mk P3
 clear P3
 go_wp2_with fail
 try simp only [Exit.inBlock, Exit.then]
 have hF := (hP3.out.set3 (.slice A2' n2 c2')).filled (.int .i64 ver) (.int .i64 clock) (.slice A1' n1 c1') (.slice A2' n2 c2') (.string acl)
 refine bodyPost_ret (results_cell_row rfl _ _ (w.heap.size + 1) 43 _ (0, 0) _ rfl hF Tryz.underlying43 rfl (by kernel_rfl)) rfl ?_
 have hl : w1.ownsRow (w.heap.size + 2) 46 35 (.slice A1' n1 c1') n1 ds := own_weaken K1.out.1 L0.out
 have hw2 : w2.ownsRow (w.heap.size + 2) 46 35 (.slice A1' n1 c1') n1 ds := pw_own_below (ownsRow_setCell_below hl (by simp) _) K2.out.2.2
 have hl2 : w.heap.size + 2 ≤ (w1.setCell ⟨w.heap.size, 2, none⟩ (.slice A1' n1 c1')).heap.size := by have h1 := L0.out; have h2 := Z1.out.size; simp; omega
 have hs2 : w2.ownsRow (w.heap.size + 2) 34 32 (.slice A2' n2 c2') n2 ks := own_weaken K2.out.1 hl2
 refine ⟨A1', c1', A2', c2', rfl, ⟨?_, ?_, fun k hk hk2 => ?_⟩, K1.out.2.1, K2.out.2.1, ?_⟩
 ·exact own_weaken (base := w.heap.size + 2) (by repeat (first | (with_reducible exact hw2) | refine ownsRow_setCell_below ?_ (by simp) _)) (by omega)
 ·exact own_weaken (base := w.heap.size + 2) (by repeat (first | (with_reducible exact hs2) | refine ownsRow_setCell_below ?_ (by simp) _)) (by omega)
 ·have h1 := (K1.out.1.lt k hk).2
  have h2 := (K2.out.1.lt k hk2).1
  simp at h2
  omega
 ·repeat (first | (with_reducible exact K3.out) | refine Below.setCell ?_ (by simp) _)
end Go.Proofs.YthnpiimiimiijaaGreatDoor.Dir
