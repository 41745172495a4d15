/- Where a directory lies; New and Book. -/
import Derived.Test.YthnpiimiimiijaaGreatDoorDirOwn
import Derived.Test.YthnpiimiimiijaaGreatDoorDirStep
import Derived.Deep.LoopGhost
namespace Go.Proofs.YthnpiimiimiijaaGreatDoor.Dir
open Go Go.RowKit Go.Proofs Go.Proofs.YthnpiimiimiijaaGreatDoorW.PrintWords Go.Proofs.YthnpiimiimiijaaGreatDoorW.PrintLast Go.Proofs.YthnpiimiimiijaaGreatDoorW.PrintMore
set_option linter.unusedVariables false
set_option linter.unusedSimpArgs false
def str (l : List UInt8) : ByteArray := ⟨l.toArray⟩
/-- The cells of a book, its lists lying there. -/
def bookCells (B : Book) (A1 : Option Addr) (c1 : Nat) (A2 : Option Addr) (c2 : Nat) : List Value :=
 [.int .i64 B.ver, .int .i64 B.clock, .slice A1 B.devs.length c1, .slice A2 B.spent.length c2, .string (str B.acl)]
def Lists (w : World) (base : Nat) (B : Book) (A1 : Option Addr) (c1 : Nat) (A2 : Option Addr) (c2 : Nat) : Prop :=
 ListsAt w base (.slice A1 B.devs.length c1) (.slice A2 B.spent.length c2) B.devs.length B.spent.length (flatD B.devs) (flatK B.spent)
def Few (B : Book) : Prop := B.devs.length ≤ 8 ∧ B.spent.length ≤ 64
theorem WF.few {B : Book} (h : WF B) : Few B := ⟨devs_len h, h.len⟩
theorem flatD_one (l : List Dev) : ∀ u ∈ flatD l, u.oneCell' = true := by
 intro u hu
 obtain ⟨d, -, h⟩ := List.mem_flatMap.1 hu
 exact encD_one d u h
theorem flatK_one (l : List Key) : ∀ u ∈ flatK l, u.oneCell' = true := by
 intro u hu
 obtain ⟨d, -, h⟩ := List.mem_flatMap.1 hu
 exact encK_one d u h
/-- A book as a value, in memory of its own from a block on. -/
def BookIs (w : World) (base : Nat) (B : Book) (v : Value) : Prop := ∃ A1 c1 A2 c2, v = .agg (bookCells B A1 c1 A2 c2).toArray ∧ Lists w base B A1 c1 A2 c2
/-- A directory in the block p. -/
def DirAt (w : World) (p : Nat) (B : Book) : Prop :=
 ∃ A1 c1 A2 c2, w.heap[p]? = some (.cells (.bool true :: bookCells B A1 c1 A2 c2).toArray 83 (0, 0)) ∧ Lists w 0 B A1 c1 A2 c2 ∧ (∀ k, (Value.slice A1 B.devs.length c1).ownBlock = some k → k ≠ p) ∧ (∀ k, (Value.slice A2 B.spent.length c2).ownBlock = some k → k ≠ p)
theorem DirAt.lt {w : World} {p : Nat} {B : Book} (h : DirAt w p B) : p < w.heap.size := by
 obtain ⟨_, _, _, _, h, _⟩ := h
 exact (Array.getElem?_eq_some_iff.1 h).1
theorem DirAt.below {w w' : World} {p : Nat} {B : Book} (h : DirAt w p B) (hb : Below w.heap.size w w') : DirAt w' p B := by
 have hl := h.lt
 obtain ⟨A1, c1, A2, c2, h1, h2, h3, h4⟩ := h
 exact ⟨A1, c1, A2, c2, (hb.block _ hl).trans h1, h2.below hb, h3, h4⟩
theorem Lists.src {w : World} {base : Nat} {B : Book} {A1 A2 : Option Addr} {c1 c2 : Nat} (h : Lists w base B A1 c1 A2 c2) : SrcAt w A1 B.devs.length 35 (flatD B.devs) ∧ SrcAt w A2 B.spent.length 32 (flatK B.spent) := by
 obtain ⟨A, c, e, hs, -⟩ := src_owns h.1
 obtain ⟨A', c', e', hs', -⟩ := src_owns h.2.1
 cases e; cases e'
 exact ⟨hs, hs'⟩
theorem own_book (B : Book) (A1 A2 : Option Addr) (c1 c2 : Nat) (w : World) (h1 : SrcAt w A1 B.devs.length 35 (flatD B.devs)) (h2 : SrcAt w A2 B.spent.length 32 (flatK B.spent)) (hf : Few B) :
  Calls Tryz.prog 43 #[.agg (bookCells B A1 c1 A2 c2).toArray] w fun e w' => ∃ A1' c1' A2' c2', e = .returned (.agg (bookCells B A1' c1' A2' c2').toArray) ∧ Lists w' w.heap.size B A1' c1' A2' c2' ∧ (A1' = none ↔ A1 = none) ∧ (A2' = none ↔ A2 = none) ∧ Below w.heap.size w w' := by
 obtain ⟨f1, f2⟩ := hf
 exact own_any B.ver B.clock A1 A2 _ c1 _ c2 (flatD B.devs) (flatK B.spent) (str B.acl) w h1 h2 (by omega) (by omega) (flatD_one _) (flatK_one _)
theorem book_one (B : Book) (A1 A2 : Option Addr) (c1 c2 : Nat) : ∀ v ∈ bookCells B A1 c1 A2 c2, v.oneCell' = true := by
 intro v hv
 simp only [bookCells, List.mem_cons, List.not_mem_nil, or_false] at hv
 rcases hv with rfl | rfl | rfl | rfl | rfl <;> rfl
theorem splice_all {α : Type} (cur cs : List α) (h : cur.length = cs.length) : splice cur 0 cs = cs := by
 unfold splice
 rw [List.take_zero, List.drop_eq_nil_of_le (by omega)]
 simp
/-- A whole variable is stored. -/
theorem run_storeFull (P : Program) (w : World) (t : TypeId) (k : Nat) (hz : ∀ w, (Go.sizeOf t).run P w = .ok k w) (g : Nat) (cs : List Value) (hk : cs.length = k) (h1 : ∀ v ∈ cs, v.oneCell' = true)
  (cur : Array Value) (T : TypeId) (hg : w.heap[g]? = some (.cells cur T (0, 0))) (hc : cur.size = k) :
  (Instr.storeAt t (.pointer (some ⟨g, 0, none⟩)) (.agg cs.toArray)).run P w = .ok () (w.setRow g cs.toArray) := by
 have := run_storeAtK P w t k hz g 0 cs hk h1 cur.toList T (by simpa using hg) (by simp; omega)
 rw [splice_all _ _ (by simp; omega)] at this
 exact this
set_option maxRecDepth 100000 in
theorem new_any (w : World) : Calls Tryz.prog 14 #[] w fun e w' => e = .returned (.pointer (some ⟨w.heap.size, 0, none⟩)) ∧ w' = w.alloc (.cells #[.bool true, .int .i64 0, .int .i64 0, .slice none 0 0, .slice none 0 0, .string ⟨#[]⟩] 83) := by
 go_enter Tryz.func14, Tryz.ntmps14
 go_wp2
 go_ret
 exact ⟨rfl, rfl⟩
theorem new_dir (w : World) : Calls Tryz.prog 14 #[] w fun e w' => e = .returned (.pointer (some ⟨w.heap.size, 0, none⟩)) ∧ DirAt w' w.heap.size book0 ∧ Below w.heap.size w w' := by
 refine (new_any w).mono ?_
 rintro e w' ⟨rfl, rfl⟩
 refine ⟨rfl, ⟨none, 0, none, 0, heap_alloc_new w _, ⟨World.ownsRow_nil _ _ _ _, World.ownsRow_nil _ _ _ _, fun k hk => by cases hk⟩, fun k hk => (by cases hk), fun k hk => (by cases hk)⟩, (Below.refl _ w).alloc (Nat.le_refl _) _⟩
set_option maxHeartbeats 1000000 in
set_option maxRecDepth 100000 in
/-- Book, of a directory. -/
theorem book_any (p : Nat) (B : Book) (w : World) (h : DirAt w p B) (hf : Few B) :
  Calls Tryz.prog 17 #[.pointer (some ⟨p, 0, none⟩)] w fun e w' => (∃ v, e = .returned v ∧ BookIs w' w.heap.size B v) ∧ Below w.heap.size w w' := by
 have hlt := h.lt
 obtain ⟨A1, c1, A2, c2, hh, hL, -, -⟩ := h
 obtain ⟨s1, s2⟩ := hL.src
 obtain ⟨W0, hW0⟩ : ∃ W0, W0 = w.alloc (.cells #[.int .i64 0, .int .i64 0, .slice none 0 0, .slice none 0 0, .string ⟨#[]⟩] 43) := ⟨_, rfl⟩
 have hb0 : Below w.heap.size w W0 := by rw [hW0]; exact (Below.refl _ w).alloc (Nat.le_refl _) _
 have hq : W0.heap[w.heap.size]? = some (.cells #[.int .i64 0, .int .i64 0, .slice none 0 0, .slice none 0 0, .string ⟨#[]⟩] 43 (0, 0)) := by rw [hW0]; exact heap_alloc_new w _
 have hown := Aside0.mk (own_book B A1 A2 c1 c2 W0 (s1.grown hb0) (s2.grown hb0) hf)
 have hh0 : W0.heap[p]? = some (.cells (.bool true :: bookCells B A1 c1 A2 c2).toArray 83 (0, 0)) := (hb0.block _ hlt).trans hh
 have l1 := Aside0.mk (run_loadAtK Tryz.prog W0 43 5 Tryz.isAgg43 Tryz.sizeOf43 p 1 (bookCells B A1 c1 A2 c2) rfl (fun j v hj => by rw [cell_of_heap hh0, Nat.add_comm]; exact hj))
 have hB0 := Aside0.mk hb0
 have hQ := Aside0.mk hq
 have hQlt : w.heap.size < W0.heap.size := (Array.getElem?_eq_some_iff.1 hq).1
 clear hh hh0 hL s1 s2 hb0 hq hf
 go_enter Tryz.func17, Tryz.ntmps17
 go_wp2_with (first | fail | (rw [← hW0]; refine wpList_loadK rfl 43 _ rfl _ rfl _ l1.out ?_))
 rw [← hW0]
 clear hW0
 refine hown.out.mono ?_
 rintro e w1 ⟨A1', c1', A2', c2', rfl, hL, -, -, hb⟩
 have hq1 := (hb.block _ (Array.getElem?_eq_some_iff.1 hQ.out).1).trans hQ.out
 have st := Aside0.mk (run_storeFull Tryz.prog w1 43 5 Tryz.sizeOf43 w.heap.size (bookCells B A1' c1' A2' c2') rfl (book_one _ _ _ _ _) _ 43 hq1 rfl)
 have hq2 := Aside0.mk (setRow_heap w1 w.heap.size _ (bookCells B A1' c1' A2' c2').toArray 43 (0, 0) hq1)
 have HL := Aside0.mk hL
 have HB := Aside0.mk hb
 clear hL hb hq1 hown hQ l1
 go_wp2_with (first | (refine wpList_storeK rfl 43 _ _ rfl rfl _ _ rfl rfl _ st.out ?_))
 try simp only [Exit.inBlock, Exit.then]
 refine bodyPost_ret (results_cell_row rfl _ _ w.heap.size 43 _ (0, 0) _ rfl hq2.out Tryz.underlying43 rfl (by kernel_rfl)) rfl ?_
 have hg := grownBy_setRow w1 w.heap.size (bookCells B A1' c1' A2' c2').toArray
 have hs0 := hB0.out.size
 have hlt0 := (Array.getElem?_eq_some_iff.1 hq2.out).1
 have hsz : w.heap.size < W0.heap.size := hQlt
 refine ⟨⟨_, rfl, A1', c1', A2', c2', rfl, (HL.out.lower hB0.out.size).kept hg ?_ ?_⟩, below_setRow (below_step hB0.out HB.out) (Nat.le_refl _) _⟩
 ·cases hk : (Value.slice A1' B.devs.length c1').ownBlock with
  | none => exact .inl rfl
  | some k => exact .inr (by have := (HL.out.1.lt k hk).1; simp; omega)
 ·cases hk : (Value.slice A2' B.spent.length c2').ownBlock with
  | none => exact .inl rfl
  | some k => exact .inr (by have := (HL.out.2.1.lt k hk).1; simp; omega)
end Go.Proofs.YthnpiimiimiijaaGreatDoor.Dir
/- The place of a device with a key; Valid. -/
namespace Go.Proofs.YthnpiimiimiijaaGreatDoor.Dir
open Go Go.RowKit Go.Proofs Go.Proofs.YthnpiimiimiijaaGreatDoorW.PrintWords Go.Proofs.YthnpiimiimiijaaGreatDoorW.PrintLast Go.Proofs.YthnpiimiimiijaaGreatDoorW.PrintMore
set_option linter.unusedVariables false
set_option linter.unusedSimpArgs false
theorem flatMap_at {α : Type} (f : α → List Value) (k : Nat) (hk : ∀ x, (f x).length = k) : ∀ (l : List α) (j : Nat) (x : α), l[j]? = some x → ∀ i v, (f x)[i]? = some v → (l.flatMap f)[j * k + i]? = some v
 | [], j, x, h, _, _, _ => by simp at h
 | a :: l, 0, x, h, i, v, hv => by
  simp at h
  subst h
  rw [List.flatMap_cons, Nat.zero_mul, Nat.zero_add, List.getElem?_append_left (List.getElem?_eq_some_iff.1 hv).1]
  exact hv
 | a :: l, j + 1, x, h, i, v, hv => by
  rw [List.flatMap_cons, List.getElem?_append_right (by rw [hk, Nat.add_mul]; omega), hk, show (j + 1) * k + i - k = j * k + i by rw [Nat.add_mul]; omega]
  exact flatMap_at f k hk l j x (by simpa using h) i v hv
/-- A row of the call's own holds its cells in every later world. -/
theorem row_cell {w W : World} {base : Nat} {e : TypeId} {size g n c : Nat} {xs : List Value} (h : w.ownsRow base e size (.slice (some ⟨g, 0, none⟩) n c) n xs) (hb : Below w.heap.size w W) {j : Nat} {v : Value} (hj : xs[j]? = some v) : W.cell? ⟨g, j, none⟩ = some v := by
 have h' := h.cells (g := g) rfl j v hj
 rw [add_at, Nat.zero_add] at h'
 rw [hb.cell (World.block_lt_of_cell? w _ h')]
 exact h'
/-- A device of a row is loaded. -/
theorem load_dev {w : World} {base g n c : Nat} {l : List Dev} (h : w.ownsRow base 46 35 (.slice (some ⟨g, 0, none⟩) n c) n (flatD l)) {W : World} (hb : Below w.heap.size w W) {j : Nat} {d : Dev} (hj : l[j]? = some d) :
  (Instr.loadAt 46 (.pointer (some ⟨g, j * 35, none⟩))).run Tryz.prog W = .ok (.agg (encD d).toArray) W :=
 run_loadAtK Tryz.prog W 46 35 Tryz.isAgg46 Tryz.sizeOf46 g (j * 35) (encD d) (encD_len _) (fun i v hv => row_cell h hb (flatMap_at encD 35 encD_len l j d hj i v hv))
theorem load_key {w : World} {base g n c : Nat} {l : List Key} (h : w.ownsRow base 34 32 (.slice (some ⟨g, 0, none⟩) n c) n (flatK l)) {W : World} (hb : Below w.heap.size w W) {j : Nat} {d : Key} (hj : l[j]? = some d) :
  (Instr.loadAt 34 (.pointer (some ⟨g, j * 32, none⟩))).run Tryz.prog W = .ok (.agg (encK d).toArray) W :=
 run_loadAtK Tryz.prog W 34 32 Tryz.isAgg34 Tryz.sizeOf34 g (j * 32) (encK d) (encK_len _) (fun i v hv => row_cell h hb (flatMap_at encK 32 encK_len l j d hj i v hv))
set_option maxHeartbeats 2000000 in
set_option maxRecDepth 100000 in
/-- slices.IndexFunc at devices, the predicate Valid's literal. -/
theorem index_dev (l : List Dev) (k : Key) (A : Option Addr) (c cb base : Nat) (w : World) (h : w.ownsRow base 46 35 (.slice A l.length c) l.length (flatD l)) (hl : l.length ≤ 8) (hc : w.heap[cb]? = some (.cells (encK k).toArray 34 (0, 0))) :
  Calls Tryz.prog 45 #[.slice A l.length c, .func (.func 46) #[] #[.pointer (some ⟨cb, 0, none⟩)]] w fun e w' => ((e = .returned (.int .i64 (-1)) ∧ ∀ d ∈ l, d.key ≠ k) ∨ ∃ (i : Nat) (d : Dev), e = .returned (.int .i64 i) ∧ l[i]? = some d ∧ d.key = k ∧ ∀ j, j < i → ∀ d', l[j]? = some d' → d'.key ≠ k) ∧ Below w.heap.size w w' := by
 have HW := Aside0.mk h
 have HC := Aside0.mk hc
 have HL := Aside0.mk hl
 have hcl : cb < w.heap.size := (Array.getElem?_eq_some_iff.1 hc).1
 have HCL := Aside0.mk hcl
 clear h hc hl hcl
 go_enter Tryz.func45, Tryz.ntmps45
 go_wp2
 go_loopg [5, 8] l.length (fun gg _ s8 wr => ∃ kk : Nat, kk ≤ l.length ∧ l.length - kk ≤ gg ∧ s8 = .int .i64 kk ∧ Aside0 (Below w.heap.size w wr) ∧ Aside0 (∀ j, j < kk → ∀ d', l[j]? = some d' → d'.key ≠ k))
 case atStart => exact ⟨0, Nat.zero_le _, by omega, rfl, ⟨Below.refl _ w⟩, ⟨fun j hj => absurd hj (Nat.not_lt_zero _)⟩⟩
 case round =>
  obtain ⟨kk, hkk, hg, rfl, BW, AL⟩ := hrel
  by_cases hlt : kk < l.length
  ·have hltz : (kk : Int) < (l.length : Int) := by omega
   obtain ⟨g, rfl⟩ : ∃ g, A = some ⟨g, 0, none⟩ := by
    rcases HW.out.2 with ⟨e, e2⟩ | ⟨g, _, _, e, _⟩
    ·omega
    ·injection e with e; exact ⟨g, e⟩
   obtain ⟨d, hd⟩ : ∃ d, l[kk]? = some d := ⟨_, List.getElem?_eq_getElem hlt⟩
   have l1 := Aside0.mk (load_dev HW.out BW.out hd)
   have hcall := Aside0.mk (same_any d k cb wr ((BW.out.block _ HCL.out).trans HC.out))
   have HD := Aside0.mk hd
   clear hd
   have LL := HL.out
   by_cases hq : d.key = k
   ·rw [show decide (d.key = k) = true from decide_eq_true hq] at hcall
    go_wp2_with (first | (refine wpList_loadK rfl 46 _ rfl _ rfl _ l1.out ?_) | (go_at_call 46; refine hcall.out.mono ?_; rintro e w' ⟨rfl, rfl⟩))
    go_ret
    exact ⟨.inr ⟨kk, d, rfl, HD.out, hq, AL.out⟩, BW.out.alloc BW.out.size _⟩
   ·rw [show decide (d.key = k) = false from decide_eq_false hq] at hcall
    have HQ := Aside0.mk hq
    clear hq
    go_wp2_with (first | (refine wpList_loadK rfl 46 _ rfl _ rfl _ l1.out ?_) | (go_at_call 46; refine hcall.out.mono ?_; rintro e w' ⟨rfl, rfl⟩))
    go_roundg (l.length - (kk + 1))
    case measure => omega
    case rel =>
     refine ⟨kk + 1, by omega, by omega, by go_num, ⟨BW.out.alloc BW.out.size _⟩, ⟨fun j hj d' hd' => ?_⟩⟩
     by_cases e : j = kk
     ·subst e
      rw [HD.out] at hd'
      cases hd'
      exact HQ.out
     ·exact AL.out j (by omega) d' hd'
  ·have hltz : ¬ (kk : Int) < (l.length : Int) := by omega
   have : kk = l.length := by omega
   subst this
   go_wp2
   go_ret
   refine ⟨.inl ⟨rfl, fun d hd => ?_⟩, BW.out⟩
   obtain ⟨j, hj⟩ := List.getElem?_of_mem hd
   exact AL.out j (List.getElem?_eq_some_iff.1 hj).1 d hj
theorem find_at {l : List Dev} {p : Dev → Bool} {i : Nat} {d : Dev} (hi : l[i]? = some d) (hd : p d = true) (h : ∀ j, j < i → ∀ d', l[j]? = some d' → p d' = false) : l.find? p = some d := by
 obtain ⟨hlt, e⟩ := List.getElem?_eq_some_iff.1 hi
 refine List.find?_eq_some_iff_getElem.2 ⟨hd, i, hlt, e, fun j hj => ?_⟩
 have := h j hj l[j] (List.getElem?_eq_getElem (by omega))
 simp [this]
/-- What Valid answers. -/
def validRes (r : Option Int) : Value := match r with | none => .tuple #[.int .i64 0, .bool false] | some n => .tuple #[.int .i64 n, .bool true]
theorem sizeD : (Tryz.prog.info? 46).map (·.size) = some 35 := by kernel_rfl
set_option maxHeartbeats 2000000 in
set_option maxRecDepth 100000 in
theorem valid_any (B : Book) (k : Key) (now : Int) (v : Value) (base : Nat) (w : World) (h : BookIs w base B v) (hf : Few B) :
  Calls Tryz.prog 19 #[v, .agg (encK k).toArray, .int .i64 now] w fun e w' => e = .returned (validRes (validOf B k now)) ∧ Below w.heap.size w w' := by
 obtain ⟨A1, c1, A2, c2, rfl, hL⟩ := h
 obtain ⟨W0, hW0⟩ : ∃ W0, W0 = (w.alloc (.cells (bookCells B A1 c1 A2 c2).toArray 43)).alloc (.cells (encK k).toArray 34) := ⟨_, rfl⟩
 have hb0 : Below w.heap.size w W0 := by rw [hW0]; exact ((Below.refl _ w).alloc (Nat.le_refl _) _).alloc (by simp) _
 have q1 : W0.heap[w.heap.size]? = some (.cells (bookCells B A1 c1 A2 c2).toArray 43 (0, 0)) := by rw [hW0, Below.heap_alloc _ _ _ (by simp)]; exact heap_alloc_new w _
 have q2 : W0.heap[w.heap.size + 1]? = some (.cells (encK k).toArray 34 (0, 0)) := by rw [hW0]; have := heap_alloc_new (w.alloc (.cells (bookCells B A1 c1 A2 c2).toArray 43)) (.cells (encK k).toArray 34); simpa using this
 have hr := pw_own_below hL.1 hb0
 have HI := Aside0.mk (index_dev B.devs k A1 c1 (w.heap.size + 1) base W0 hr hf.1 q2)
 have HR := Aside0.mk hr
 have hc1 := cell_of_heap (j := 1) q1
 have hc2 := cell_of_heap (j := 2) q1
 have HB := Aside0.mk hb0
 have Q1 := Aside0.mk q1
 obtain ⟨R, hR⟩ : ∃ R, R = validRes (validOf B k now) := ⟨_, rfl⟩
 rw [← hR]
 have HRR := Aside0.mk hR
 have hF := hf.1
 obtain ⟨cl, hcl⟩ : ∃ cl, cl = B.clock := ⟨_, rfl⟩
 obtain ⟨n1, hn1⟩ : ∃ n1, n1 = B.devs.length := ⟨_, rfl⟩
 have c1' : W0.cell? ⟨w.heap.size, 1, none⟩ = some (.int .i64 cl) := by rw [hc1, hcl]; rfl
 have c2' : W0.cell? ⟨w.heap.size, 2, none⟩ = some (.slice A1 n1 c1) := by rw [hc2, hn1]; rfl
 have HCL := Aside0.mk hcl
 have HN := Aside0.mk hn1
 rw [← hn1] at hF
 clear hc1 hc2 hR hL hb0 q1 q2 hr hf hcl hn1
 go_enter Tryz.func19, Tryz.ntmps19
 go_upto_region 1 with fail
 rw [← hW0]
 clear hW0
 go_wp2_with fail
 rw [HN.out]
 refine HI.out.mono ?_
 rintro e w1 ⟨hres, hb1⟩
 have d1 := (hb1.cell (p := ⟨w.heap.size, 1, none⟩) (World.block_lt_of_cell? W0 _ c1')).trans c1'
 have d2 := (hb1.cell (p := ⟨w.heap.size, 2, none⟩) (World.block_lt_of_cell? W0 _ c2')).trans c2'
 have HB1 := Aside0.mk hb1
 clear hb1 c1' c2'
 rcases hres with ⟨rfl, hno⟩ | ⟨i, d, rfl, hi, hk, hfst⟩
 ·have HNO := Aside0.mk hno
  clear hno
  go_wp2_with fail
  go_ret2
  refine ⟨?_, below_step HB.out HB1.out⟩
  rw [HRR.out]
  have : B.devs.find? (fun d => decide (d.key = k)) = none := List.find?_eq_none.2 fun d hd => by simpa using HNO.out d hd
  unfold validOf
  rw [this]
  rfl
 ·have hfind : B.devs.find? (fun d => decide (d.key = k)) = some d := find_at hi (decide_eq_true hk) (fun j hj d' hd' => decide_eq_false (hfst j hj d' hd'))
  have hlt := (List.getElem?_eq_some_iff.1 hi).1
  have hin : (i : Int) < (n1 : Int) := by rw [HN.out]; omega
  obtain ⟨g, rfl⟩ : ∃ g, A1 = some ⟨g, 0, none⟩ := by
   rcases HR.out.2 with ⟨e, e2⟩ | ⟨g, _, _, e, _⟩
   ·omega
   ·injection e with e; exact ⟨g, e⟩
  have l1 := Aside0.mk (load_dev HR.out HB1.out hi)
  have st := Aside0.mk (fun (c : Array Value) (hc : c.size = 35) => run_storeNew Tryz.prog w1 46 35 sizeD c (encD d).toArray hc (by simpa using encD_len d) (by simpa using encD_one d))
  have a0 : (encD d).toArray[0]? = some (.int .i64 d.node) := rfl
  have a33 : (encD d).toArray[33]? = some (.int .i64 d.exp) := by simpa using expOfD d
  have a34 : (encD d).toArray[34]? = some (.bool d.rev) := by simpa using revOfD d
  have hval : validRes (validOf B k now) = if d.rev = true ∨ d.exp ≤ now ∨ d.exp ≤ cl then .tuple #[.int .i64 0, .bool false] else .tuple #[.int .i64 d.node, .bool true] := by
   unfold validOf
   rw [hfind, HCL.out]
   show validRes (if _ then _ else _) = _
   split <;> rfl
  have HV := Aside0.mk (HRR.out.trans hval)
  clear hval
  generalize (encD d).toArray = A at l1 st a0 a33 a34
  generalize d.rev = rv at a34 HV
  generalize d.exp = ex at a33 HV
  generalize d.node = nd at a0 HV
  clear hi hk hfst hfind hlt
  have d1' : ∀ o, (w1.alloc o).cell? ⟨w.heap.size, 1, none⟩ = some (.int .i64 cl) := fun o => Lib.cell?_alloc_some o d1
  go_wp2_with (first | (refine wpList_loadK rfl 46 _ rfl _ rfl _ l1.out ?_) | (refine wpList_storeK rfl 46 _ _ rfl rfl _ _ rfl rfl _ (st.out _ rfl) ?_))
  all_goals
   go_ret2
   refine ⟨?_, (below_step HB.out HB1.out).alloc (below_step HB.out HB1.out).size _⟩
   rw [HV.out]
  all_goals first
   | (rw [if_pos (by first | (left; assumption) | (right; assumption) | (right; left; assumption) | (right; omega))]; rfl)
   | (rw [if_neg (by rintro (h | h | h) <;> first | contradiction | omega)]; rfl)
end Go.Proofs.YthnpiimiimiijaaGreatDoor.Dir
