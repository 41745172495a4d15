/- Where a directory lies; New and Book. -/
import Derived.Test.YthnpiimiimiijaaGreatDoorDirOwn
import Derived.Test.YthnpiimiimiijaaGreatDoorDirStep
namespace Go.Proofs.YthnpiimiimiijaaGreatDoor.Dir
open Go Go.RowKit Go.Proofs Go.Proofs.YthnpiimiimiijaaGreatDoorW.PrintWords Go.Proofs.YthnpiimiimiijaaGreatDoorW.PrintLast Go.Proofs.YthnpiimiimiijaaGreatDoorW.PrintMore
set_option linter.unusedVariables false
set_option linter.unusedSimpArgs false

def str (l : List UInt8) : ByteArray := ⟨l.toArray⟩
/-- The cells of a book, its lists lying there. -/
def bookCells (B : Book) (A1 : Option Addr) (c1 : Nat) (A2 : Option Addr) (c2 : Nat) : List Value :=
  [.int .i64 B.ver, .int .i64 B.clock, .slice A1 B.devs.length c1, .slice A2 B.spent.length c2, .string (str B.acl)]
def Lists (w : World) (base : Nat) (B : Book) (A1 : Option Addr) (c1 : Nat) (A2 : Option Addr) (c2 : Nat) : Prop :=
  ListsAt w base (.slice A1 B.devs.length c1) (.slice A2 B.spent.length c2) B.devs.length B.spent.length (flatD B.devs) (flatK B.spent)
def Few (B : Book) : Prop := B.devs.length ≤ 8 ∧ B.spent.length ≤ 64
theorem WF.few {B : Book} (h : WF B) : Few B := ⟨devs_len h, h.len⟩
theorem flatD_one (l : List Dev) : ∀ u ∈ flatD l, u.oneCell' = true := by
  intro u hu
  obtain ⟨d, -, h⟩ := List.mem_flatMap.1 hu
  exact encD_one d u h
theorem flatK_one (l : List Key) : ∀ u ∈ flatK l, u.oneCell' = true := by
  intro u hu
  obtain ⟨d, -, h⟩ := List.mem_flatMap.1 hu
  exact encK_one d u h
/-- A book as a value, in memory of its own from a block on. -/
def BookIs (w : World) (base : Nat) (B : Book) (v : Value) : Prop := ∃ A1 c1 A2 c2, v = .agg (bookCells B A1 c1 A2 c2).toArray ∧ Lists w base B A1 c1 A2 c2
/-- A directory in the block p. -/
def DirAt (w : World) (p : Nat) (B : Book) : Prop :=
  ∃ A1 c1 A2 c2, w.heap[p]? = some (.cells (.bool true :: bookCells B A1 c1 A2 c2).toArray 83 (0, 0)) ∧ Lists w 0 B A1 c1 A2 c2 ∧ (∀ k, (Value.slice A1 B.devs.length c1).ownBlock = some k → k ≠ p) ∧ (∀ k, (Value.slice A2 B.spent.length c2).ownBlock = some k → k ≠ p)
theorem DirAt.lt {w : World} {p : Nat} {B : Book} (h : DirAt w p B) : p < w.heap.size := by
  obtain ⟨_, _, _, _, h, _⟩ := h
  exact (Array.getElem?_eq_some_iff.1 h).1
theorem DirAt.below {w w' : World} {p : Nat} {B : Book} (h : DirAt w p B) (hb : Below w.heap.size w w') : DirAt w' p B := by
  have hl := h.lt
  obtain ⟨A1, c1, A2, c2, h1, h2, h3, h4⟩ := h
  exact ⟨A1, c1, A2, c2, (hb.block _ hl).trans h1, h2.below hb, h3, h4⟩
theorem Lists.src {w : World} {base : Nat} {B : Book} {A1 A2 : Option Addr} {c1 c2 : Nat} (h : Lists w base B A1 c1 A2 c2) : SrcAt w A1 B.devs.length 35 (flatD B.devs) ∧ SrcAt w A2 B.spent.length 32 (flatK B.spent) := by
  obtain ⟨A, c, e, hs, -⟩ := src_owns h.1
  obtain ⟨A', c', e', hs', -⟩ := src_owns h.2.1
  cases e; cases e'
  exact ⟨hs, hs'⟩
theorem own_book (B : Book) (A1 A2 : Option Addr) (c1 c2 : Nat) (w : World) (h1 : SrcAt w A1 B.devs.length 35 (flatD B.devs)) (h2 : SrcAt w A2 B.spent.length 32 (flatK B.spent)) (hf : Few B) :
    Calls Tryz.prog 43 #[.agg (bookCells B A1 c1 A2 c2).toArray] w fun e w' => ∃ A1' c1' A2' c2', e = .returned (.agg (bookCells B A1' c1' A2' c2').toArray) ∧ Lists w' w.heap.size B A1' c1' A2' c2' ∧ (A1' = none ↔ A1 = none) ∧ (A2' = none ↔ A2 = none) ∧ Below w.heap.size w w' := by
  obtain ⟨f1, f2⟩ := hf
  exact own_any B.ver B.clock A1 A2 _ c1 _ c2 (flatD B.devs) (flatK B.spent) (str B.acl) w h1 h2 (by omega) (by omega) (flatD_one _) (flatK_one _)

theorem book_one (B : Book) (A1 A2 : Option Addr) (c1 c2 : Nat) : ∀ v ∈ bookCells B A1 c1 A2 c2, v.oneCell' = true := by
  intro v hv
  simp only [bookCells, List.mem_cons, List.not_mem_nil, or_false] at hv
  rcases hv with rfl | rfl | rfl | rfl | rfl <;> rfl
theorem splice_all {α : Type} (cur cs : List α) (h : cur.length = cs.length) : splice cur 0 cs = cs := by
  unfold splice
  rw [List.take_zero, List.drop_eq_nil_of_le (by omega)]
  simp
/-- A whole variable is stored. -/
theorem run_storeFull (P : Program) (w : World) (t : TypeId) (k : Nat) (hz : ∀ w, (Go.sizeOf t).run P w = .ok k w) (g : Nat) (cs : List Value) (hk : cs.length = k) (h1 : ∀ v ∈ cs, v.oneCell' = true)
    (cur : Array Value) (T : TypeId) (hg : w.heap[g]? = some (.cells cur T (0, 0))) (hc : cur.size = k) :
    (Instr.storeAt t (.pointer (some ⟨g, 0, none⟩)) (.agg cs.toArray)).run P w = .ok () (w.setRow g cs.toArray) := by
  have := run_storeAtK P w t k hz g 0 cs hk h1 cur.toList T (by simpa using hg) (by simp; omega)
  rw [splice_all _ _ (by simp; omega)] at this
  exact this
set_option maxRecDepth 100000 in
theorem new_any (w : World) : Calls Tryz.prog 14 #[] w fun e w' => e = .returned (.pointer (some ⟨w.heap.size, 0, none⟩)) ∧ w' = w.alloc (.cells #[.bool true, .int .i64 0, .int .i64 0, .slice none 0 0, .slice none 0 0, .string ⟨#[]⟩] 83) := by
  go_enter Tryz.func14, Tryz.ntmps14
  go_wp2
  go_ret
  exact ⟨rfl, rfl⟩
theorem new_dir (w : World) : Calls Tryz.prog 14 #[] w fun e w' => e = .returned (.pointer (some ⟨w.heap.size, 0, none⟩)) ∧ DirAt w' w.heap.size book0 ∧ Below w.heap.size w w' := by
  refine (new_any w).mono ?_
  rintro e w' ⟨rfl, rfl⟩
  refine ⟨rfl, ⟨none, 0, none, 0, heap_alloc_new w _, ⟨World.ownsRow_nil _ _ _ _, World.ownsRow_nil _ _ _ _, fun k hk => by cases hk⟩, fun k hk => (by cases hk), fun k hk => (by cases hk)⟩, (Below.refl _ w).alloc (Nat.le_refl _) _⟩

set_option maxHeartbeats 1000000 in
set_option maxRecDepth 100000 in
/-- Book, of a directory. -/
theorem book_any (p : Nat) (B : Book) (w : World) (h : DirAt w p B) (hf : Few B) :
    Calls Tryz.prog 17 #[.pointer (some ⟨p, 0, none⟩)] w fun e w' => (∃ v, e = .returned v ∧ BookIs w' w.heap.size B v) ∧ Below w.heap.size w w' := by
  have hlt := h.lt
  obtain ⟨A1, c1, A2, c2, hh, hL, -, -⟩ := h
  obtain ⟨s1, s2⟩ := hL.src
  obtain ⟨W0, hW0⟩ : ∃ W0, W0 = w.alloc (.cells #[.int .i64 0, .int .i64 0, .slice none 0 0, .slice none 0 0, .string ⟨#[]⟩] 43) := ⟨_, rfl⟩
  have hb0 : Below w.heap.size w W0 := by rw [hW0]; exact (Below.refl _ w).alloc (Nat.le_refl _) _
  have hq : W0.heap[w.heap.size]? = some (.cells #[.int .i64 0, .int .i64 0, .slice none 0 0, .slice none 0 0, .string ⟨#[]⟩] 43 (0, 0)) := by rw [hW0]; exact heap_alloc_new w _
  have hown := Aside0.mk (own_book B A1 A2 c1 c2 W0 (s1.grown hb0) (s2.grown hb0) hf)
  have hh0 : W0.heap[p]? = some (.cells (.bool true :: bookCells B A1 c1 A2 c2).toArray 83 (0, 0)) := (hb0.block _ hlt).trans hh
  have l1 := Aside0.mk (run_loadAtK Tryz.prog W0 43 5 Tryz.isAgg43 Tryz.sizeOf43 p 1 (bookCells B A1 c1 A2 c2) rfl (fun j v hj => by rw [cell_of_heap hh0, Nat.add_comm]; exact hj))
  have hB0 := Aside0.mk hb0
  have hQ := Aside0.mk hq
  have hQlt : w.heap.size < W0.heap.size := (Array.getElem?_eq_some_iff.1 hq).1
  clear hh hh0 hL s1 s2 hb0 hq hf
  go_enter Tryz.func17, Tryz.ntmps17
  go_wp2_with (first | fail | (rw [← hW0]; refine wpList_loadK rfl 43 _ rfl _ rfl _ l1.out ?_))
  rw [← hW0]
  clear hW0
  refine hown.out.mono ?_
  rintro e w1 ⟨A1', c1', A2', c2', rfl, hL, -, -, hb⟩
  have hq1 := (hb.block _ (Array.getElem?_eq_some_iff.1 hQ.out).1).trans hQ.out
  have st := Aside0.mk (run_storeFull Tryz.prog w1 43 5 Tryz.sizeOf43 w.heap.size (bookCells B A1' c1' A2' c2') rfl (book_one _ _ _ _ _) _ 43 hq1 rfl)
  have hq2 := Aside0.mk (setRow_heap w1 w.heap.size _ (bookCells B A1' c1' A2' c2').toArray 43 (0, 0) hq1)
  have HL := Aside0.mk hL
  have HB := Aside0.mk hb
  clear hL hb hq1 hown hQ l1
  go_wp2_with (first | (refine wpList_storeK rfl 43 _ _ rfl rfl _ _ rfl rfl _ st.out ?_))
  try simp only [Exit.inBlock, Exit.then]
  refine bodyPost_ret (results_cell_row rfl _ _ w.heap.size 43 _ (0, 0) _ rfl hq2.out Tryz.underlying43 rfl (by kernel_rfl)) rfl ?_
  have hg := grownBy_setRow w1 w.heap.size (bookCells B A1' c1' A2' c2').toArray
  have hs0 := hB0.out.size
  have hlt0 := (Array.getElem?_eq_some_iff.1 hq2.out).1
  have hsz : w.heap.size < W0.heap.size := hQlt
  refine ⟨⟨_, rfl, A1', c1', A2', c2', rfl, (HL.out.lower hB0.out.size).kept hg ?_ ?_⟩, below_setRow (below_step hB0.out HB.out) (Nat.le_refl _) _⟩
  · cases hk : (Value.slice A1' B.devs.length c1').ownBlock with
    | none => exact .inl rfl
    | some k => exact .inr (by have := (HL.out.1.lt k hk).1; simp; omega)
  · cases hk : (Value.slice A2' B.spent.length c2').ownBlock with
    | none => exact .inl rfl
    | some k => exact .inr (by have := (HL.out.2.1.lt k hk).1; simp; omega)
end Go.Proofs.YthnpiimiimiijaaGreatDoor.Dir
