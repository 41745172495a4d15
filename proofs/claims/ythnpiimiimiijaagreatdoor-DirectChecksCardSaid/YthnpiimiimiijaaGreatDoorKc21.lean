/- The program's writer. The program's writer: Put. The program's writer: Octets, Write, Out. The document's writer: size, bits, octet. The document's writer: Write, Bytes. -/
import Derived.Test.YthnpiimiimiijaaGreatDoorKc20
section
namespace Go.Proofs.YthnpiimiimiijaaGreatDoor.Dir
open Go Go.RowKit Go.Proofs Go.Proofs.YthnpiimiimiijaaGreatDoorW.PrintWords Go.Proofs.YthnpiimiimiijaaGreatDoorW.PrintLast Go.Proofs.YthnpiimiimiijaaGreatDoorW.PrintMore
set_option linter.unusedVariables false
set_option linter.unusedSimpArgs false
/-- Bytes in memory of the call's own. -/
def OwnB (w : World) (base : Nat) (A : Option Addr) (c : Nat) (xs : List UInt8) : Prop := w.ownsRow base 5 1 (.slice A xs.length c) xs.length (xs.map byteV)
theorem OwnB.below {w W : World} {base : Nat} {A : Option Addr} {c : Nat} {l : List UInt8} (h : OwnB w base A c l) (hb : Below w.heap.size w W) : OwnB W base A c l := pw_own_below h hb
theorem OwnB.src {w : World} {base : Nat} {A : Option Addr} {c : Nat} {l : List UInt8} (h : OwnB w base A c l) : SrcAt w A l.length 1 (l.map byteV) := by
 obtain ⟨A', c', e, hs, -⟩ := src_owns h
 cases e
 exact hs
theorem bytes_one (l : List UInt8) : ∀ u ∈ l.map byteV, u.oneCell' = true := fun u hu => by
 obtain ⟨b, -, rfl⟩ := List.mem_map.1 hu
 rfl
/-- The writer's two blocks. -/
structure WrAt (W : World) (bw bs : Nat) (A : Option Addr) (n c : Nat) : Prop where
 wr : W.heap[bw]? = some (.cells #[.pointer (some ⟨bs, 0, none⟩)] 146 (0, 0))
 sh : W.heap[bs]? = some (.cells #[.slice A n c, .int .i64 0] 144 (0, 0))
theorem WrAt.later {W W' : World} {bw bs : Nat} {A : Option Addr} {n c : Nat} (h : WrAt W bw bs A n c) (hb : Below W.heap.size W W') : WrAt W' bw bs A n c := ⟨room_at h.wr hb, room_at h.sh hb⟩
theorem WrAt.keep {W W' : World} {bw bs base : Nat} {A : Option Addr} {c : Nat} {xs : List UInt8} (h : WrAt W bw bs A xs.length c) (ho : OwnB W base A c xs) (hg : W.grownBy W' (Value.slice A xs.length c).ownBlock) : WrAt W' bw bs A xs.length c :=
 ⟨(hg.block bw (Array.getElem?_eq_some_iff.1 h.wr).1 (own_ne ho h.wr (by decide))).trans h.wr, (hg.block bs (Array.getElem?_eq_some_iff.1 h.sh).1 (own_ne ho h.sh (by decide))).trans h.sh⟩
theorem WrAt.cells {W : World} {bw bs : Nat} {A : Option Addr} {n c : Nat} (h : WrAt W bw bs A n c) : W.cell? ⟨bw, 0, none⟩ = some (.pointer (some ⟨bs, 0, none⟩)) ∧ W.cell? ⟨bs, 0, none⟩ = some (.slice A n c) ∧ W.frozen? ⟨bs, 0, none⟩ = false := by
 refine ⟨?_, ?_, frozen_of_heap h.sh⟩
 ·rw [cell_of_heap h.wr]; rfl
 ·rw [cell_of_heap h.sh]; rfl
/-- A writer in the block bw, behind base, that has written xs. -/
def Wr (w : World) (base bw : Nat) (xs : List UInt8) : Prop := ∃ bs A c, WrAt w bw bs A xs.length c ∧ OwnB w base A c xs ∧ base ≤ bw ∧ base ≤ bs
theorem Wr.below {w W : World} {base bw : Nat} {xs : List UInt8} (h : Wr w base bw xs) (hb : Below w.heap.size w W) : Wr W base bw xs := by
 obtain ⟨bs, A, c, h1, h2, h3, h4⟩ := h
 exact ⟨bs, A, c, h1.later hb, h2.below hb, h3, h4⟩
theorem Wr.size {w : World} {base bw : Nat} {xs : List UInt8} (h : Wr w base bw xs) : base ≤ w.heap.size := by
 obtain ⟨bs, A, c, h1, h2, h3, h4⟩ := h
 exact Nat.le_trans h3 (Nat.le_of_lt (Array.getElem?_eq_some_iff.1 h1.wr).1)
theorem runs_append {P : Program} {w w1 : World} (t : TypeId) (s x : Operand) (o : Oper) (ho : o.op = .call { callee := .builtin .append, args := #[s, x], argTypes := #[t, t] }) (a : Act) (v1 v2 v : Value) (es : a.eval s = v1) (ex : a.eval x = v2)
  (hr : (Builtin.append_ #[t, t] o.type #[v1, v2]).run P w = .ok v w1) : (execOp a.eval o).run P w = .ok (.value v) w1 := by
 unfold execOp
 simp only [ho, resolve, invoke, builtin, Sem.run_bind, Sem.run_pure, Result.andThen_ok, List.map_toArray, List.map_cons, List.map_nil, es, ex, hr]
theorem none96 (bw bs n c : Nat) (A : Option Addr) (w : World) (h : WrAt w bw bs A n c) : Calls Tryz.prog 96 #[.pointer (some ⟨bw, 0, none⟩)] w fun e w' => e = .returned (.bool false) ∧ w' = w := by
 obtain ⟨c1, -, -⟩ := h.cells
 clear h
 go_enter Tryz.func96, Tryz.ntmps96
 go_wp2
 go_ret
 exact ⟨rfl, rfl⟩
/-- Blocks from a place on are kept. -/
def KeptS (T : Nat) (w w' : World) : Prop := ∀ g, T ≤ g → g < w.heap.size → w'.heap[g]? = w.heap[g]?
/-- A writer's blocks lie below a place. -/
def WrLt (w : World) (bw T : Nat) : Prop := ∃ bs A n c, WrAt w bw bs A n c ∧ bs < T ∧ ∀ a, A = some a → a.block < T
theorem Wr.lt {T w : World} {base bw : Nat} {xs : List UInt8} (h : Wr T base bw xs) (hb : Below T.heap.size T w) : WrLt w bw T.heap.size := by
 obtain ⟨bs, A, c, h1, h2, h3, h4⟩ := h
 refine ⟨bs, A, _, c, h1.later hb, (Array.getElem?_eq_some_iff.1 h1.sh).1, fun a ha => ?_⟩
 subst ha
 rcases h2.2 with ⟨e, _⟩ | ⟨g, cap, cur, e, _, hg, _⟩
 ·cases e
 ·cases e
  exact (Array.getElem?_eq_some_iff.1 hg).1
theorem kept_tail {w w5 w1 : World} {bw bs : Nat} {A : Option Addr} {n c : Nat} (h1 : WrAt w bw bs A n c) (hb : Below w.heap.size w w5) (hg : w5.grownBy w1 (Value.slice A n c).ownBlock) (u : Value) : ∀ T, WrLt w bw T → KeptS T w (w1.setCell ⟨bs, 0, none⟩ u) := by
 rintro T ⟨bs', A', n', c', h', hbs, hA⟩ g hT hlt
 have e1 : bs' = bs := by
  have := h'.wr.symm.trans h1.wr
  simpa using this
 subst e1
 have e2 : A' = A := by
  have := h'.sh.symm.trans h1.sh
  simp at this
  exact this.1
 subst e2
 have hgb : g ≠ bs' := by omega
 rw [Below.heap_setCell _ _ _ _ (fun e => by first | exact hgb e | exact hgb e.symm)]
 rw [hg.block g (Nat.lt_of_lt_of_le hlt hb.size) (fun e => ?_), hb.block g hlt]
 cases A' with
 | none => cases e
 | some a =>
  have := hA a rfl
  have e' : g = a.block := by simpa [Value.ownBlock] using e
  omega
/-- What a writer's call answers: all is well, the bytes stand behind what there was. -/
def WrEnd (w w' : World) (base bw : Nat) (xs : List UInt8) (e : Ending) : Prop := e = .returned (.int .i64 0) ∧ Wr w' base bw xs ∧ Below base w w' ∧ KeptT [5, 144] w w' ∧ ∀ T, WrLt w bw T → KeptS T w w'
theorem own_setCellT {w : World} {base : Nat} {e : TypeId} {size n : Nat} {v : Value} {xs : List Value} (h : w.ownsRow base e size v n xs) {b j : Nat} {cs : Array Value} {T : TypeId} (hb : w.heap[b]? = some (.cells cs T (0, 0))) (hT : e ≠ T) (u : Value) : (w.setCell ⟨b, j, none⟩ u).ownsRow base e size v n xs :=
 ownsRow_setCell_other h (a := ⟨b, j, none⟩) (fun k hk e => by have h1 := own_ne h hb hT; have h2 : k = b := e; exact h1 (by rw [hk, h2])) u
set_option maxHeartbeats 4000000 in
set_option maxRecDepth 100000 in
theorem bytes58 (base bw : Nat) (xs ys : List UInt8) (A2 : Option Addr) (c2 : Nat) (w : World) (h : Wr w base bw xs) (hs : SrcAt w A2 ys.length 1 (ys.map byteV)) (hl : xs.length + ys.length ≤ 140737488355328) :
  Calls Tryz.prog 58 #[.pointer (some ⟨bw, 0, none⟩), .slice A2 ys.length c2] w fun e w' => WrEnd w w' base bw (xs ++ ys) e := by
 have hsz := h.size
 obtain ⟨bs, A, c, h1, h2, h3, h4⟩ := h
 have hcall := Aside0.mk (none96 bw bs _ c A w h1)
 have H1 := Aside0.mk h1
 have H2 := Aside0.mk h2
 have HS := Aside0.mk hs
 have HL := Aside0.mk (And.intro hl (And.intro hsz (And.intro h3 h4)))
 obtain ⟨n, hn⟩ : ∃ n, n = xs.length := ⟨_, rfl⟩
 obtain ⟨m, hm⟩ : ∃ m, m = ys.length := ⟨_, rfl⟩
 have HN := Aside0.mk (And.intro hn hm)
 rw [← hm]
 rw [← hn] at H1
 clear h1 h2 h3 h4 hs hl hsz hn hm
 go_enter Tryz.func58, Tryz.ntmps58
 go_wp2_with (go_at_call 96; refine hcall.out.mono ?_; rintro e w' ⟨rfl, rfl⟩)
 refine start_ (n := 16) (S := fun W => WrAt W bw bs A n c) (ds := [15]) #[false, false, false, false, false, false, false, false, false, false, false, false, false, false, false, false] (by kernel_rfl) rfl rfl (H1.out.later ((Below.refl _ w').drew)) (fun hHeld => ?_)
 obtain ⟨w5, hw5⟩ : ∃ w5, w5 = w'.drew := ⟨_, rfl⟩
 have B5 := Aside0.mk (show Below w'.heap.size w' w5 by rw [hw5]; exact (Below.refl _ w').drew)
 rw [← hw5] at hHeld ⊢
 clear hw5
 refine pure_ (i := 0) (N := (some 7)) (v := ?_) (a' := ?_) #[true, false, false, false, false, false, false, false, false, false, false, false, false, false, false, false] rfl rfl (by kernel_rfl) (fun _ _ _ h => h) (Or.inl ⟨by rfl, ?_⟩) ?_ ?_
 rotate_left
 ·intro w'
  go_simp
  with_reducible rfl
 rotate_left
 ·simp only [Act.put, List.setIfInBounds_toArray, List.set_cons_zero, List.set_cons_succ, i64_w, i32_w]
  rfl
 refine pure_ (i := 1) (N := (some 8)) (v := ?_) (a' := ?_) #[true, true, false, false, false, false, false, false, false, false, false, false, false, false, false, false] rfl rfl (by kernel_rfl) (fun _ _ _ h => h) (Or.inl ⟨by rfl, ?_⟩) ?_ ?_
 rotate_left
 ·intro w'
  go_simp
  with_reducible rfl
 rotate_left
 ·simp only [Act.put, List.setIfInBounds_toArray, List.set_cons_zero, List.set_cons_succ, i64_w, i32_w]
  rfl
 refine pure_ (i := 2) (N := (some 9)) (v := ?_) (a' := ?_) #[true, true, true, false, false, false, false, false, false, false, false, false, false, false, false, false] rfl rfl (by kernel_rfl) (fun _ _ _ h => h) (Or.inl ⟨by rfl, ?_⟩) ?_ ?_
 rotate_left
 ·intro w'
  go_simp
  with_reducible rfl
 rotate_left
 ·simp only [Act.put, List.setIfInBounds_toArray, List.set_cons_zero, List.set_cons_succ, i64_w, i32_w]
  rfl
 refine pure_ (i := 4) (N := (some 11)) (v := ?_) (a' := ?_) #[true, true, true, false, true, false, false, false, false, false, false, false, false, false, false, false] rfl rfl (by kernel_rfl) (fun _ _ _ h => h) (Or.inl ⟨by rfl, ?_⟩) ?_ ?_
 rotate_left
 ·intro w'
  go_simp
  with_reducible rfl
 rotate_left
 ·simp only [Act.put, List.setIfInBounds_toArray, List.set_cons_zero, List.set_cons_succ, i64_w, i32_w]
  rfl
 refine pure_ (i := 5) (N := (some 12)) (v := ?_) (a' := ?_) #[true, true, true, false, true, true, false, false, false, false, false, false, false, false, false, false] rfl rfl (by kernel_rfl) (fun _ _ _ h => h) (Or.inl ⟨by rfl, ?_⟩) ?_ ?_
 rotate_left
 ·intro w'
  go_simp
  with_reducible rfl
 rotate_left
 ·simp only [Act.put, List.setIfInBounds_toArray, List.set_cons_zero, List.set_cons_succ, i64_w, i32_w]
  rfl
 refine pure_ (i := 6) (N := (some 13)) (v := ?_) (a' := ?_) #[true, true, true, false, true, true, true, false, false, false, false, false, false, false, false, false] rfl rfl (by kernel_rfl) (fun _ _ _ h => h) (Or.inl ⟨by rfl, ?_⟩) ?_ ?_
 rotate_left
 ·intro w'
  go_simp
  with_reducible rfl
 rotate_left
 ·simp only [Act.put, List.setIfInBounds_toArray, List.set_cons_zero, List.set_cons_succ, i64_w, i32_w]
  rfl
 refine pure_ (i := 11) (N := (some 18)) (v := ?_) (a' := ?_) #[true, true, true, false, true, true, true, false, false, false, false, true, false, false, false, false] rfl rfl (by kernel_rfl) (fun _ _ _ h => h) (Or.inl ⟨by rfl, ?_⟩) ?_ ?_
 rotate_left
 ·intro w'
  go_simp
  with_reducible rfl
 rotate_left
 ·simp only [Act.put, List.setIfInBounds_toArray, List.set_cons_zero, List.set_cons_succ, i64_w, i32_w]
  rfl
 refine take_ (i := 3) (N := (some 10)) (v := ?_) (a' := ?_) #[true, true, true, true, true, true, true, false, false, false, false, true, false, false, false, false] rfl rfl (by kernel_rfl) (fun _ _ _ h => h) (Or.inl ⟨by rfl, ?_⟩) hHeld ?_ ?_
 rotate_left
 ·rintro w' hs
  obtain ⟨s0, s1, sf⟩ := hs.cells
  go_simp
  with_reducible rfl
 rotate_left
 ·simp only [Act.put, List.setIfInBounds_toArray, List.set_cons_zero, List.set_cons_succ, i64_w, i32_w]
  rfl
 refine take_ (i := 7) (N := (some 14)) (v := ?_) (a' := ?_) #[true, true, true, true, true, true, true, true, false, false, false, true, false, false, false, false] rfl rfl (by kernel_rfl) (fun _ _ _ h => h) (Or.inl ⟨by rfl, ?_⟩) hHeld ?_ ?_
 rotate_left
 ·rintro w' hs
  obtain ⟨s0, s1, sf⟩ := hs.cells
  go_simp
  with_reducible rfl
 rotate_left
 ·simp only [Act.put, List.setIfInBounds_toArray, List.set_cons_zero, List.set_cons_succ, i64_w, i32_w]
  rfl
 refine pure_ (i := 8) (N := (some 15)) (v := ?_) (a' := ?_) #[true, true, true, true, true, true, true, true, true, false, false, true, false, false, false, false] rfl rfl (by kernel_rfl) (fun _ _ _ h => h) (Or.inl ⟨by rfl, ?_⟩) ?_ ?_
 rotate_left
 ·intro w'
  go_simp
  with_reducible rfl
 rotate_left
 ·simp only [Act.put, List.setIfInBounds_toArray, List.set_cons_zero, List.set_cons_succ, i64_w, i32_w]
  rfl
 refine pure_ (i := 9) (N := (some 16)) (v := ?_) (a' := ?_) #[true, true, true, true, true, true, true, true, true, true, false, true, false, false, false, false] rfl rfl (by kernel_rfl) (fun _ _ _ h => h) (Or.inl ⟨by rfl, ?_⟩) ?_ ?_
 rotate_left
 ·intro w'
  go_simp
  with_reducible rfl
 rotate_left
 ·simp only [Act.put, List.setIfInBounds_toArray, List.set_cons_zero, List.set_cons_succ, i64_w, i32_w]
  rfl
 refine take_ (i := 10) (N := (some 17)) (v := ?_) (a' := ?_) #[true, true, true, true, true, true, true, true, true, true, true, true, false, false, false, false] rfl rfl (by kernel_rfl) (fun _ _ _ h => h) (Or.inl ⟨by rfl, ?_⟩) hHeld ?_ ?_
 rotate_left
 ·rintro w' hs
  obtain ⟨s0, s1, sf⟩ := hs.cells
  go_simp
  with_reducible rfl
 rotate_left
 ·simp only [Act.put, List.setIfInBounds_toArray, List.set_cons_zero, List.set_cons_succ, i64_w, i32_w]
  rfl
 have HO5 := Aside0.mk (H2.out.below B5.out)
 obtain ⟨A', c', w1, hr, h2, h3⟩ := run_app appB w5 67 base n c m c2 A A2 (xs.map byteV) (ys.map byteV) (by rw [HN.out.1]; exact HO5.out) (by rw [HN.out.2]; exact SrcAt.grown HS.out B5.out) (bytes_one _) (by rw [HN.out.1, HN.out.2]; have := HL.out.1; omega) (by rw [HN.out.1, HN.out.2]; have := HL.out.1; unfold maxLen; omega) (Nat.le_trans HL.out.2.1 B5.out.size)
 refine one_ (i := 12) (N := (some 19)) #[true, true, true, true, true, true, true, true, true, true, true, true, true, false, false, false] rfl rfl (by kernel_rfl) (by decide) (fun K hK => ?_)
 refine value_ (v := .slice A' (n + m) c') (w1 := w1) (by rfl) rfl ?_ ?_
 ·exact runs_append 67 (.tmp 17) (.tmp 18) _ rfl _ _ _ _ rfl rfl hr
 have hS_ : WrAt w1 bw bs A n c := by rw [HN.out.1] at hHeld h3 ⊢; exact hHeld.keep HO5.out h3
 have HR := Aside0.mk (And.intro h2 h3)
 clear hr h2 h3
 refine hK.out _ _ hS_ (fun hHeld => ?_)
 clear hK K
 refine norm_ (a' := ?_) ?_ ?_
 rotate_left
 ·show Act.put _ (some 19) _ = _
  simp only [Act.put, List.setIfInBounds_toArray, List.set_cons_zero, List.set_cons_succ, i64_w, i32_w]
  rfl
 refine pure_ (i := 13) (N := (some 20)) (v := ?_) (a' := ?_) #[true, true, true, true, true, true, true, true, true, true, true, true, true, true, false, false] rfl rfl (by kernel_rfl) (fun _ _ _ h => h) (Or.inl ⟨by rfl, ?_⟩) ?_ ?_
 rotate_left
 ·intro w'
  go_simp
  with_reducible rfl
 rotate_left
 ·simp only [Act.put, List.setIfInBounds_toArray, List.set_cons_zero, List.set_cons_succ, i64_w, i32_w]
  rfl
 refine pure_ (i := 14) (N := (some 21)) (v := ?_) (a' := ?_) #[true, true, true, true, true, true, true, true, true, true, true, true, true, true, true, false] rfl rfl (by kernel_rfl) (fun _ _ _ h => h) (Or.inl ⟨by rfl, ?_⟩) ?_ ?_
 rotate_left
 ·intro w'
  go_simp
  with_reducible rfl
 rotate_left
 ·simp only [Act.put, List.setIfInBounds_toArray, List.set_cons_zero, List.set_cons_succ, i64_w, i32_w]
  rfl
 refine last_ (i := 15) (N := none) #[true, true, true, true, true, true, true, true, true, true, true, true, true, true, true, true] rfl rfl (by kernel_rfl) (by decide) (fun K hK => ?_)
 refine store_ (w1 := w1.setCell ⟨bs, 0, none⟩ (.slice A' (n + m) c')) (by rfl) rfl ?_ ?_
 ·exact runs_store 67 (.tmp 21) (.tmp 19) _ rfl _ _ _ rfl rfl _ (run_storeAt1 Tryz.prog w1 67 Tryz.sizeOf67 bs 0 _ rfl rfl _ hHeld.cells.2.1 hHeld.cells.2.2)
 skip
 refine hK.out _ _ ?_
 clear hK K
 refine norm_ (a' := ?_) ?_ ?_
 rotate_left
 ·show Act.put _ none _ = _
  simp only [Act.put, List.setIfInBounds_toArray, List.set_cons_zero, List.set_cons_succ, i64_w, i32_w]
  rfl
 refine done_ (by kernel_rfl) ?_
 have HH := Aside0.mk hHeld
 clear hHeld
 go_wp2
 go_ret
 refine ⟨rfl, ⟨bs, A', c', ?_, ?_, HL.out.2.2.1, HL.out.2.2.2⟩, ?_, ?_, kept_tail (by have := H1.out; exact this) B5.out HR.out.2 _⟩
 ·refine ⟨?_, ?_⟩
  ·rw [Below.heap_setCell _ _ _ _ (fun e => ?_)]
   ·exact HH.out.wr
   ·have h1 := HH.out.wr
    have h2 := HH.out.sh
    rw [e] at h1
    rw [h1] at h2
    cases h2
  ·rw [heap_setCell_same w1 bs 0 _ _ _ HH.out.sh]
   rw [List.length_append, ← HN.out.1, ← HN.out.2]
   rfl
 ·have := HR.out.1
  rw [HN.out.1, HN.out.2] at this
  have h := own_setCellT (j := 0) this HH.out.sh (by decide) (.slice A' (n + m) c')
  unfold OwnB
  rw [List.length_append, List.map_append, ← HN.out.1, ← HN.out.2]
  rw [← HN.out.1, ← HN.out.2] at h
  exact h
 ·have hb := below_own HO5.out (by have := HR.out.2; rw [HN.out.1] at this; exact this) (Nat.le_trans HL.out.2.1 B5.out.size)
  exact ((B5.out.mono HL.out.2.1).trans hb).setCell HL.out.2.2.2 _
 ·exact ((KeptT.below B5.out).trans (KeptT.grown HO5.out (by have := HR.out.2; rw [HN.out.1] at this; exact this) (by decide))).trans (KeptT.setCell HH.out.sh (by decide) _)
end Go.Proofs.YthnpiimiimiijaaGreatDoor.Dir
end
section
namespace Go.Proofs.YthnpiimiimiijaaGreatDoor.Dir
open Go Go.RowKit Go.Proofs Go.Proofs.YthnpiimiimiijaaGreatDoorW.PrintWords Go.Proofs.YthnpiimiimiijaaGreatDoorW.PrintLast Go.Proofs.YthnpiimiimiijaaGreatDoorW.PrintMore
set_option linter.unusedVariables false
set_option linter.unusedSimpArgs false
theorem row_srcs {W : World} {p : Nat} {cs : List Value} {T : TypeId} (h : W.heap[p]? = some (.cells cs.toArray T (0, 0))) (o n : Nat) (xs : List Value) (hn : xs.length = n) (hx : ∀ j u, xs[j]? = some u → cs[o + j]? = some u) : SrcAt W (some ⟨p, o, none⟩) n 1 xs :=
 ⟨by omega, fun e => (by cases e), fun a ha j u hj => (by cases ha; rw [add_at, cell_of_heap h]; exact hx j u hj)⟩
theorem len148 : Tryz.prog.arrayLen 148 = 8 := by kernel_rfl
theorem be_tail {v s : Nat} (hs : s ≤ 8) {j : Nat} {u : Value} (h : ((beN v s).map byteV)[j]? = some u) : ((beN v 8).map byteV)[8 - s + j]? = some u := by
 have := beN_drop v (8 - s) s
 rw [show 8 - s + s = 8 by omega] at this
 rw [← this, List.map_drop, List.getElem?_drop] at h
 exact h
theorem be_head {v s : Nat} (hs : s ≤ 8) (hv : v < 256 ^ s) {j : Nat} {u : Value} (h : (List.replicate (8 - s) (Value.int .u8 0))[j]? = some u) : ((beN v 8).map byteV)[0 + j]? = some u := by
 have hj : j < 8 - s := by have := (List.getElem?_eq_some_iff.1 h).1; simpa using this
 have := beN_zero v (8 - s) s hv j hj
 rw [show 8 - s + s = 8 by omega] at this
 rw [List.getElem?_replicate, if_pos hj] at h
 rw [Nat.zero_add, List.getElem?_map, this]
 exact h
set_option maxHeartbeats 4000000 in
set_option maxRecDepth 100000 in
theorem put57 (base bw : Nat) (xs : List UInt8) (v s : Nat) (w : World) (h : Wr w base bw xs) (hv : v < 9223372036854775808) (hs1 : 1 ≤ s) (hs8 : s ≤ 8) (hvs : v < 256 ^ s) (hl : xs.length + 8 ≤ 140737488355328) :
  Calls Tryz.prog 57 #[.pointer (some ⟨bw, 0, none⟩), .int .i64 v, .int .i64 s] w fun e w' => WrEnd w w' base bw (xs ++ beN v s) e := by
 have hsz := h.size
 have HW := Aside0.mk h
 obtain ⟨bs, A, c, h1, h2, h3, h4⟩ := h
 have hcall := Aside0.mk (none96 bw bs _ c A w h1)
 have hof := Aside0.mk (of97 v hv w)
 have H1 := Aside0.mk h1
 have H2 := Aside0.mk h2
 have HL := Aside0.mk (And.intro hl (And.intro hsz (And.intro h3 h4)))
 obtain ⟨n, hn⟩ : ∃ n, n = xs.length := ⟨_, rfl⟩
 have HN := Aside0.mk hn
 rw [← hn] at H1
 clear h1 h2 h3 h4 hl hsz hn
 have i1 : (1 : Int) ≤ (s : Int) := by omega
 have i8 : (s : Int) ≤ 8 := by omega
 have HV := Aside0.mk hvs
 have v0 : ¬ (v : Int) < 0 := by omega
 obtain ⟨CB, hCB⟩ : ∃ CB, CB = (beN v 8).map byteV := ⟨_, rfl⟩
 have HSZ := Aside0.mk (show CB.length = 8 by rw [hCB]; simp [beN_len])
 have HC1 := Aside0.mk (show ∀ u ∈ CB, u.oneCell' = true by rw [hCB]; exact bytes_one _)
 have HCB := Aside0.mk hCB
 rw [← hCB] at hof
 clear hCB hvs
 go_enter Tryz.func57, Tryz.ntmps57
 go_upto_region 5 with (go_at_call 96; refine hcall.out.mono ?_; rintro e w' ⟨rfl, rfl⟩)
 have HST := Aside0.mk (fun (W : World) => store_full (W.alloc (.cells #[.int .u8 0, .int .u8 0, .int .u8 0, .int .u8 0, .int .u8 0, .int .u8 0, .int .u8 0, .int .u8 0] 148)) 148 8 W.heap.size Tryz.sizeOf148 [.int .u8 0, .int .u8 0, .int .u8 0, .int .u8 0, .int .u8 0, .int .u8 0, .int .u8 0, .int .u8 0] CB (heap_alloc_new W _) rfl HSZ.out HC1.out)
 go_upto_region 6 with (first | ((with_reducible refine at_store 148 (.tmp 7) (.tmp 18) ?_); refine wpList_storeK rfl 148 (.tmp 7) (.tmp 18) rfl rfl _ _ rfl rfl _ (HST.out _) ?_) | (go_at_call 97; refine hof.out.mono ?_; rintro e w2 ⟨rfl, hb2⟩))
 obtain ⟨p, hp⟩ : ∃ p, p = w2.heap.size := ⟨_, rfl⟩
 obtain ⟨W3, hW3⟩ : ∃ W3, W3 = (w2.alloc (.cells #[.int .u8 0, .int .u8 0, .int .u8 0, .int .u8 0, .int .u8 0, .int .u8 0, .int .u8 0, .int .u8 0] 148)).setRow w2.heap.size CB.toArray := ⟨_, rfl⟩
 rw [← hW3]
 rw [← hp] at hW3 ⊢
 have HP := Aside0.mk (show W3.heap[p]? = some (.cells CB.toArray 148 (0, 0)) by rw [hW3, hp]; exact setRow_heap _ _ _ CB.toArray 148 (0, 0) (heap_alloc_new w2 _))
 have HB := Aside0.mk (show Below w'.heap.size w' W3 by rw [hW3]; exact below_setRow (hb2.alloc hb2.size _) (by rw [hp]; exact hb2.size) CB.toArray)
 clear hW3 hp hb2
 have hsl : ∀ W, (Instr.sliceAt 148 (.pointer (some ⟨p, 0, none⟩)) none (some (.int .i64 (8 - (s : Int)))) none).run Tryz.prog W = .ok (.slice (some ⟨p, 0, none⟩) (8 - s) 8) W := fun W => by
  rw [run_sliceAt_array_h W 148 ⟨p, 0, none⟩ Tryz.underlying148 .i64 (8 - (s : Int)) (by omega) (by rw [len148]; omega)]
  go_simp
 have hsh : ∀ W, (Instr.sliceAt 148 (.pointer (some ⟨p, 0, none⟩)) (some (.int .i64 (8 - (s : Int)))) none none).run Tryz.prog W = .ok (.slice (some ⟨p, 8 - s, none⟩) s s) W := fun W => by
  rw [run_sliceAt_array_l W 148 ⟨p, 0, none⟩ Tryz.underlying148 .i64 (8 - (s : Int)) (by omega) (by rw [len148]; omega)]
  go_simp
  exact ⟨fun e => by omega, by omega⟩
 have hsw : ∀ W, (Instr.sliceAt 148 (.pointer (some ⟨p, 0, none⟩)) (some (.int .i64 (Go.RowKit.wrap64 (8 - (s : Int))))) none none).run Tryz.prog W = .ok (.slice (some ⟨p, 8 - s, none⟩) s s) W := fun W => by
  rw [show Go.RowKit.wrap64 (8 - (s : Int)) = 8 - (s : Int) by unfold Go.RowKit.wrap64; omega]
  exact hsh W
 have hct := Aside0.mk (contains99 (8 - s) 8 p 0 W3 (row_srcs HP.out 0 (8 - s) _ (by simp) (fun j u hj => by rw [HCB.out]; exact be_head hs8 HV.out hj)) (by omega))
 go_wp2_with (first | (go_at_call 99; refine hct.out.mono ?_; rintro e w4 ⟨rfl, hb4⟩) | fail)
 have HB4 := Aside0.mk hb4
 clear hb4
 refine start_ (n := 18) (S := fun W => WrAt W bw bs A n c) (ds := [17]) #[false, false, false, false, false, false, false, false, false, false, false, false, false, false, false, false, false, false] (by kernel_rfl) rfl rfl (H1.out.later (below_step HB.out HB4.out).drew) (fun hHeld => ?_)
 obtain ⟨w5, hw5⟩ : ∃ w5, w5 = w4.drew := ⟨_, rfl⟩
 have B5 := Aside0.mk (show Below w'.heap.size w' w5 by rw [hw5]; exact (below_step HB.out HB4.out).drew)
 have HP5 := Aside0.mk (show w5.heap[p]? = some (.cells CB.toArray 148 (0, 0)) by rw [hw5]; exact room_at HP.out HB4.out.drew)
 rw [← hw5] at hHeld ⊢
 clear hw5
 refine pure_ (i := 0) (N := (some 28)) (v := ?_) (a' := ?_) #[true, false, false, false, false, false, false, false, false, false, false, false, false, false, false, false, false, false] rfl rfl (by kernel_rfl) (fun _ _ _ h => h) (Or.inl ⟨by rfl, ?_⟩) ?_ ?_
 rotate_left
 ·intro w'
  go_simp
  with_reducible rfl
 rotate_left
 ·simp only [Act.put, List.setIfInBounds_toArray, List.set_cons_zero, List.set_cons_succ, i64_w, i32_w]
  rfl
 refine pure_ (i := 1) (N := (some 29)) (v := ?_) (a' := ?_) #[true, true, false, false, false, false, false, false, false, false, false, false, false, false, false, false, false, false] rfl rfl (by kernel_rfl) (fun _ _ _ h => h) (Or.inl ⟨by rfl, ?_⟩) ?_ ?_
 rotate_left
 ·intro w'
  go_simp
  with_reducible rfl
 rotate_left
 ·simp only [Act.put, List.setIfInBounds_toArray, List.set_cons_zero, List.set_cons_succ, i64_w, i32_w]
  rfl
 refine pure_ (i := 2) (N := (some 30)) (v := ?_) (a' := ?_) #[true, true, true, false, false, false, false, false, false, false, false, false, false, false, false, false, false, false] rfl rfl (by kernel_rfl) (fun _ _ _ h => h) (Or.inl ⟨by rfl, ?_⟩) ?_ ?_
 rotate_left
 ·intro w'
  go_simp
  with_reducible rfl
 rotate_left
 ·simp only [Act.put, List.setIfInBounds_toArray, List.set_cons_zero, List.set_cons_succ, i64_w, i32_w]
  rfl
 refine pure_ (i := 4) (N := (some 32)) (v := ?_) (a' := ?_) #[true, true, true, false, true, false, false, false, false, false, false, false, false, false, false, false, false, false] rfl rfl (by kernel_rfl) (fun _ _ _ h => h) (Or.inl ⟨by rfl, ?_⟩) ?_ ?_
 rotate_left
 ·intro w'
  go_simp
  with_reducible rfl
 rotate_left
 ·simp only [Act.put, List.setIfInBounds_toArray, List.set_cons_zero, List.set_cons_succ, i64_w, i32_w]
  rfl
 refine pure_ (i := 5) (N := (some 33)) (v := ?_) (a' := ?_) #[true, true, true, false, true, true, false, false, false, false, false, false, false, false, false, false, false, false] rfl rfl (by kernel_rfl) (fun _ _ _ h => h) (Or.inl ⟨by rfl, ?_⟩) ?_ ?_
 rotate_left
 ·intro w'
  go_simp
  with_reducible rfl
 rotate_left
 ·simp only [Act.put, List.setIfInBounds_toArray, List.set_cons_zero, List.set_cons_succ, i64_w, i32_w]
  rfl
 refine pure_ (i := 6) (N := (some 34)) (v := ?_) (a' := ?_) #[true, true, true, false, true, true, true, false, false, false, false, false, false, false, false, false, false, false] rfl rfl (by kernel_rfl) (fun _ _ _ h => h) (Or.inl ⟨by rfl, ?_⟩) ?_ ?_
 rotate_left
 ·intro w'
  go_simp
  with_reducible rfl
 rotate_left
 ·simp only [Act.put, List.setIfInBounds_toArray, List.set_cons_zero, List.set_cons_succ, i64_w, i32_w]
  rfl
 refine pure_ (i := 11) (N := (some 39)) (v := ?_) (a' := ?_) #[true, true, true, false, true, true, true, false, false, false, false, true, false, false, false, false, false, false] rfl rfl (by kernel_rfl) (fun _ _ _ h => h) (Or.inl ⟨by rfl, ?_⟩) ?_ ?_
 rotate_left
 ·intro w'
  go_simp
  with_reducible rfl
 rotate_left
 ·simp only [Act.put, List.setIfInBounds_toArray, List.set_cons_zero, List.set_cons_succ, i64_w, i32_w]
  rfl
 refine pure_ (i := 12) (N := (some 40)) (v := ?_) (a' := ?_) #[true, true, true, false, true, true, true, false, false, false, false, true, true, false, false, false, false, false] rfl rfl (by kernel_rfl) (fun _ _ _ h => h) (Or.inl ⟨by rfl, ?_⟩) ?_ ?_
 rotate_left
 ·intro w'
  go_simp
  with_reducible rfl
 rotate_left
 ·simp only [Act.put, List.setIfInBounds_toArray, List.set_cons_zero, List.set_cons_succ, i64_w, i32_w]
  rfl
 refine pure_ (i := 13) (N := (some 41)) (v := ?_) (a' := ?_) #[true, true, true, false, true, true, true, false, false, false, false, true, true, true, false, false, false, false] rfl rfl (by kernel_rfl) (fun _ _ _ h => h) (Or.inl ⟨by rfl, ?_⟩) ?_ ?_
 rotate_left
 ·intro w'
  go_simp
  with_reducible rfl
 rotate_left
 ·simp only [Act.put, List.setIfInBounds_toArray, List.set_cons_zero, List.set_cons_succ, i64_w, i32_w]
  rfl
 refine take_ (i := 3) (N := (some 31)) (v := ?_) (a' := ?_) #[true, true, true, true, true, true, true, false, false, false, false, true, true, true, false, false, false, false] rfl rfl (by kernel_rfl) (fun _ _ _ h => h) (Or.inl ⟨by rfl, ?_⟩) hHeld ?_ ?_
 rotate_left
 ·rintro w' hs
  obtain ⟨s0, s1, sf⟩ := hs.cells
  go_simp
  with_reducible rfl
 rotate_left
 ·simp only [Act.put, List.setIfInBounds_toArray, List.set_cons_zero, List.set_cons_succ, i64_w, i32_w]
  rfl
 refine take_ (i := 7) (N := (some 35)) (v := ?_) (a' := ?_) #[true, true, true, true, true, true, true, true, false, false, false, true, true, true, false, false, false, false] rfl rfl (by kernel_rfl) (fun _ _ _ h => h) (Or.inl ⟨by rfl, ?_⟩) hHeld ?_ ?_
 rotate_left
 ·rintro w' hs
  obtain ⟨s0, s1, sf⟩ := hs.cells
  go_simp
  with_reducible rfl
 rotate_left
 ·simp only [Act.put, List.setIfInBounds_toArray, List.set_cons_zero, List.set_cons_succ, i64_w, i32_w]
  rfl
 refine pure_ (i := 8) (N := (some 36)) (v := ?_) (a' := ?_) #[true, true, true, true, true, true, true, true, true, false, false, true, true, true, false, false, false, false] rfl rfl (by kernel_rfl) (fun _ _ _ h => h) (Or.inl ⟨by rfl, ?_⟩) ?_ ?_
 rotate_left
 ·intro w'
  go_simp
  with_reducible rfl
 rotate_left
 ·simp only [Act.put, List.setIfInBounds_toArray, List.set_cons_zero, List.set_cons_succ, i64_w, i32_w]
  rfl
 refine pure_ (i := 9) (N := (some 37)) (v := ?_) (a' := ?_) #[true, true, true, true, true, true, true, true, true, true, false, true, true, true, false, false, false, false] rfl rfl (by kernel_rfl) (fun _ _ _ h => h) (Or.inl ⟨by rfl, ?_⟩) ?_ ?_
 rotate_left
 ·intro w'
  go_simp
  with_reducible rfl
 rotate_left
 ·simp only [Act.put, List.setIfInBounds_toArray, List.set_cons_zero, List.set_cons_succ, i64_w, i32_w]
  rfl
 refine take_ (i := 10) (N := (some 38)) (v := ?_) (a' := ?_) #[true, true, true, true, true, true, true, true, true, true, true, true, true, true, false, false, false, false] rfl rfl (by kernel_rfl) (fun _ _ _ h => h) (Or.inl ⟨by rfl, ?_⟩) hHeld ?_ ?_
 rotate_left
 ·rintro w' hs
  obtain ⟨s0, s1, sf⟩ := hs.cells
  go_simp
  with_reducible rfl
 rotate_left
 ·simp only [Act.put, List.setIfInBounds_toArray, List.set_cons_zero, List.set_cons_succ, i64_w, i32_w]
  rfl
 have HO5 := Aside0.mk (H2.out.below B5.out)
 obtain ⟨A', c', w1, hr, h2, h3⟩ := run_app appB w5 67 base n c s s A (some ⟨p, 8 - s, none⟩) (xs.map byteV) ((beN v s).map byteV) (by rw [HN.out]; exact HO5.out) (row_srcs HP5.out (8 - s) s _ (by rw [List.length_map, beN_len]) (fun j u hj => by rw [HCB.out]; exact be_tail hs8 hj)) (bytes_one _) (by rw [HN.out]; have := HL.out.1; omega) (by rw [HN.out]; have := HL.out.1; unfold maxLen; omega) (Nat.le_trans HL.out.2.1 B5.out.size)
 refine one_ (i := 14) (N := (some 42)) #[true, true, true, true, true, true, true, true, true, true, true, true, true, true, true, false, false, false] rfl rfl (by kernel_rfl) (by decide) (fun K hK => ?_)
 refine value_ (v := .slice A' (n + s) c') (w1 := w1) (by rfl) rfl ?_ ?_
 ·exact runs_append 67 (.tmp 38) (.tmp 41) _ rfl _ (.slice A n c) (.slice (some ⟨p, 8 - s, none⟩) s s) _ rfl rfl hr
 have hS_ : WrAt w1 bw bs A n c := by rw [HN.out] at hHeld h3 ⊢; exact hHeld.keep HO5.out h3
 have HR := Aside0.mk (And.intro h2 h3)
 clear hr h2 h3
 refine hK.out _ _ hS_ (fun hHeld => ?_)
 clear hK K
 refine norm_ (a' := ?_) ?_ ?_
 rotate_left
 ·show Act.put _ (some 42) _ = _
  simp only [Act.put, List.setIfInBounds_toArray, List.set_cons_zero, List.set_cons_succ, i64_w, i32_w]
  rfl
 refine pure_ (i := 15) (N := (some 43)) (v := ?_) (a' := ?_) #[true, true, true, true, true, true, true, true, true, true, true, true, true, true, true, true, false, false] rfl rfl (by kernel_rfl) (fun _ _ _ h => h) (Or.inl ⟨by rfl, ?_⟩) ?_ ?_
 rotate_left
 ·intro w'
  go_simp
  with_reducible rfl
 rotate_left
 ·simp only [Act.put, List.setIfInBounds_toArray, List.set_cons_zero, List.set_cons_succ, i64_w, i32_w]
  rfl
 refine pure_ (i := 16) (N := (some 44)) (v := ?_) (a' := ?_) #[true, true, true, true, true, true, true, true, true, true, true, true, true, true, true, true, true, false] rfl rfl (by kernel_rfl) (fun _ _ _ h => h) (Or.inl ⟨by rfl, ?_⟩) ?_ ?_
 rotate_left
 ·intro w'
  go_simp
  with_reducible rfl
 rotate_left
 ·simp only [Act.put, List.setIfInBounds_toArray, List.set_cons_zero, List.set_cons_succ, i64_w, i32_w]
  rfl
 refine last_ (i := 17) (N := none) #[true, true, true, true, true, true, true, true, true, true, true, true, true, true, true, true, true, true] rfl rfl (by kernel_rfl) (by decide) (fun K hK => ?_)
 refine store_ (w1 := w1.setCell ⟨bs, 0, none⟩ (.slice A' (n + s) c')) (by rfl) rfl ?_ ?_
 ·exact runs_store 67 (.tmp 44) (.tmp 42) _ rfl _ _ _ rfl rfl _ (run_storeAt1 Tryz.prog w1 67 Tryz.sizeOf67 bs 0 _ rfl rfl _ hHeld.cells.2.1 hHeld.cells.2.2)
 skip
 refine hK.out _ _ ?_
 clear hK K
 refine norm_ (a' := ?_) ?_ ?_
 rotate_left
 ·show Act.put _ none _ = _
  simp only [Act.put, List.setIfInBounds_toArray, List.set_cons_zero, List.set_cons_succ, i64_w, i32_w]
  rfl
 refine done_ (by kernel_rfl) ?_
 have HH := Aside0.mk hHeld
 clear hHeld
 go_wp2
 go_ret
 refine ⟨rfl, ⟨bs, A', c', ?_, ?_, HL.out.2.2.1, HL.out.2.2.2⟩, ?_, ?_, kept_tail (by have := H1.out; exact this) B5.out HR.out.2 _⟩
 ·refine ⟨?_, ?_⟩
  ·rw [Below.heap_setCell _ _ _ _ (fun e => ?_)]
   ·exact HH.out.wr
   ·have h1 := HH.out.wr
    have h2 := HH.out.sh
    rw [e] at h1
    rw [h1] at h2
    cases h2
  ·rw [heap_setCell_same w1 bs 0 _ _ _ HH.out.sh]
   rw [List.length_append, beN_len, ← HN.out]
   rfl
 ·have h := own_setCellT (j := 0) HR.out.1 HH.out.sh (by decide) (.slice A' (n + s) c')
  unfold OwnB
  rw [List.length_append, List.map_append, beN_len, ← HN.out]
  exact h
 ·have hb := below_own HO5.out (by have := HR.out.2; rw [HN.out] at this; exact this) (Nat.le_trans HL.out.2.1 B5.out.size)
  exact ((B5.out.mono HL.out.2.1).trans hb).setCell HL.out.2.2.2 _
 ·exact ((KeptT.below B5.out).trans (KeptT.grown HO5.out (by have := HR.out.2; rw [HN.out] at this; exact this) (by decide))).trans (KeptT.setCell HH.out.sh (by decide) _)
end Go.Proofs.YthnpiimiimiijaaGreatDoor.Dir
end
section
namespace Go.Proofs.YthnpiimiimiijaaGreatDoor.Dir
open Go Go.RowKit Go.Proofs Go.Proofs.YthnpiimiimiijaaGreatDoorW.PrintWords Go.Proofs.YthnpiimiimiijaaGreatDoorW.PrintLast Go.Proofs.YthnpiimiimiijaaGreatDoorW.PrintMore
set_option linter.unusedVariables false
set_option linter.unusedSimpArgs false
theorem Wr.none (base bw : Nat) (xs : List UInt8) (w : World) (h : Wr w base bw xs) : Calls Tryz.prog 96 #[.pointer (some ⟨bw, 0, none⟩)] w fun e w' => e = .returned (.bool false) ∧ w' = w := by
 obtain ⟨bs, A, c, h1, h2, h3, h4⟩ := h
 exact none96 bw bs _ c A w h1
set_option maxHeartbeats 4000000 in
set_option maxRecDepth 100000 in
theorem octets59 (base bw : Nat) (xs ys : List UInt8) (A2 : Option Addr) (c2 : Nat) (w : World) (h : Wr w base bw xs) (hs : ∀ w', Below base w w' → (∀ T, WrLt w bw T → KeptS T w w') → SrcAt w' A2 ys.length 1 (ys.map byteV)) (hy : ys.length ≤ 65535) (hl : xs.length + 70000 ≤ 140737488355328) :
  Calls Tryz.prog 59 #[.pointer (some ⟨bw, 0, none⟩), .slice A2 ys.length c2] w fun e w' => e = .returned (.int .i64 0) ∧ Wr w' base bw (xs ++ beN ys.length 2 ++ ys) ∧ Below base w w' := by
 have hcall := Aside0.mk (h.none)
 have hput := Aside0.mk (put57 base bw xs ys.length 2 w h (by omega) (by decide) (by decide) (by omega) (by omega))
 have HS := Aside0.mk hs
 have HL := Aside0.mk (And.intro hy hl)
 have hz : ¬ (65535 : Int) < (ys.length : Int) := by omega
 clear h hs hy hl
 go_enter Tryz.func59, Tryz.ntmps59
 go_upto_region 5 with (go_at_call 96; refine hcall.out.mono ?_; rintro e w' ⟨rfl, rfl⟩)
 go_upto_region 6 with (go_at_call 57; refine hput.out.mono ?_; rintro e w2 ⟨rfl, h2, hb2, hk2, hs2⟩)
 have HB := Aside0.mk hb2
 have HK := Aside0.mk hk2
 have HS2 := Aside0.mk hs2
 have hby := Aside0.mk (bytes58 base bw _ ys A2 c2 w2 h2 (HS.out w2 hb2 hs2) (by rw [List.length_append, beN_len]; have := HL.out; omega))
 clear h2 hb2 hk2 hs2
 go_wp2_with (go_at_call 58; refine hby.out.mono ?_; rintro e w3 ⟨rfl, h3, hb3, hk3, hs3⟩)
 go_ret
 exact ⟨rfl, h3, HB.out.trans hb3⟩
def WriteEnd (w w' : World) (e : Ending) : Prop := ∃ bw, e = .returned (.pointer (some ⟨bw, 0, none⟩)) ∧ Wr w' w.heap.size bw [] ∧ Below w.heap.size w w'
theorem write56 (w : World) : Calls Tryz.prog 56 #[] w fun e w' => WriteEnd w w' e := by
 have hb := ((Below.refl _ w).alloc (Nat.le_refl _) (.cells #[.slice none 0 0, .int .i64 0] 144)).alloc (by simp) (.cells #[.pointer (some ⟨w.heap.size, 0, none⟩)] 146)
 have h1 : (w.alloc (.cells #[.slice none 0 0, .int .i64 0] 144)).heap[w.heap.size]? = some (.cells #[.slice none 0 0, .int .i64 0] 144 (0, 0)) := heap_alloc_new w _
 have HF := Aside0.mk (show WriteEnd w ((w.alloc (.cells #[.slice none 0 0, .int .i64 0] 144)).alloc (.cells #[.pointer (some ⟨w.heap.size, 0, none⟩)] 146)) (.returned (.pointer (some ⟨w.heap.size + 1, 0, none⟩))) from
  ⟨w.heap.size + 1, rfl, ⟨w.heap.size, none, 0, ⟨by have := heap_alloc_new (w.alloc (.cells #[.slice none 0 0, .int .i64 0] 144)) (.cells #[.pointer (some ⟨w.heap.size, 0, none⟩)] 146); simpa using this, (Below.heap_alloc _ _ _ (by simp)).trans h1⟩, World.ownsRow_nil _ _ _ _, by omega, Nat.le_refl _⟩, hb⟩)
 clear hb h1
 go_enter Tryz.func56, Tryz.ntmps56
 go_wp2
 go_ret
 simpa using HF.out
def OutEnd (w w' : World) (xs : List UInt8) (e : Ending) : Prop := ∃ A c, e = .returned (.slice A xs.length c) ∧ OwnB w' w.heap.size A c xs ∧ Below w.heap.size w w'
theorem OutEnd.ret {w w' : World} {xs : List UInt8} {e : Ending} (h : OutEnd w w' xs e) : ∃ ev, e = .returned ev := by
 obtain ⟨A', c', rfl, -⟩ := h
 exact ⟨_, rfl⟩
theorem clone_bytes (A : Option Addr) (n c : Nat) (xs : List UInt8) (hn : n = xs.length) (w : World) (hs : SrcAt w A xs.length 1 (xs.map byteV)) (hl : xs.length ≤ 140737488355328) : Calls Tryz.prog 100 #[.slice A n c] w fun e w' => OutEnd w w' xs e := by
 subst hn
 refine (cloned100 A xs.length c (xs.map byteV) w hs (by rw [Nat.mul_one]; exact hl) (bytes_one _)).mono ?_
 rintro e w2 ⟨A', c', rfl, h5, -, h6⟩
 exact ⟨A', c', rfl, h5, h6⟩
theorem out60 (base bw : Nat) (xs : List UInt8) (w : World) (h : Wr w base bw xs) (hl : xs.length ≤ 140737488355328) : Calls Tryz.prog 60 #[.pointer (some ⟨bw, 0, none⟩)] w fun e w' => OutEnd w w' xs e := by
 have hcall := Aside0.mk (h.none)
 obtain ⟨bs, A, c, h1, h2, h3, h4⟩ := h
 obtain ⟨c1, c2, -⟩ := h1.cells
 have hcl := Aside0.mk (fun n (hn : n = xs.length) => clone_bytes A n c xs hn w h2.src hl)
 clear h1 h2 h3 h4
 obtain ⟨n, hn⟩ : ∃ n, n = xs.length := ⟨_, rfl⟩
 rw [← hn] at c2
 have hcl := Aside0.mk (hcl.out n hn)
 clear hn
 go_enter Tryz.func60, Tryz.ntmps60
 go_upto_region 3 with (go_at_call 96; refine hcall.out.mono ?_; rintro e w' ⟨rfl, rfl⟩)
 go_wp2_with (go_at_call 100; refine hcl.out.mono ?_; intro e w2 h5; obtain ⟨ev, rfl⟩ := h5.ret)
 go_ret
 exact h5
end Go.Proofs.YthnpiimiimiijaaGreatDoor.Dir
end
section
namespace Go.Proofs.YthnpiimiimiijaaGreatDoor.Dir
open Go Go.RowKit Go.Proofs Go.Proofs.YthnpiimiimiijaaGreatDoorW.PrintWords Go.Proofs.YthnpiimiimiijaaGreatDoorW.PrintLast Go.Proofs.YthnpiimiimiijaaGreatDoorW.PrintMore
set_option linter.unusedVariables false
set_option linter.unusedSimpArgs false
theorem size101 (n : Int) (w : World) (h1 : 1 ≤ n) (h8 : n ≤ 8) : Calls Tryz.prog 101 #[.int .i64 n] w fun e w' => e = .returned (.bool true) ∧ w' = w := by
 have a1 : 0 < n := by omega
 have a2 : n < 9 := by omega
 go_enter Tryz.func101, Tryz.ntmps101
 go_wp2
 go_ret
 refine ⟨?_, rfl⟩
 first | rfl | (simp; omega)
/-- A number's bits, the highest first. -/
def bitV (v i : Nat) : Value := .int .i64 ((v / 2 ^ i % 2 : Nat) : Int)
def bitsV (v : Nat) : Nat → List Value
 | 0 => []
 | s + 1 => bitV v s :: bitsV v s
theorem bitsV_get (v : Nat) : ∀ n j, j < n → (bitsV v n)[j]? = some (bitV v (n - 1 - j))
 | 0, j, h => by omega
 | n + 1, 0, h => by simp [bitsV]
 | n + 1, j + 1, h => by
  show (bitsV v n)[j]? = _
  rw [bitsV_get v n j (by omega)]
  congr 2
  omega
def rowB (v kk : Nat) : List Value := List.replicate (64 - kk) (.int .i64 0) ++ bitsV v kk
theorem rowB_get (v : Nat) {kk : Nat} (h : kk < 64) : (rowB v kk)[63 - kk]? = some (.int .i64 0) := by
 unfold rowB
 rw [List.getElem?_append_left (by simp; omega), List.getElem?_replicate]
 simp
 try omega
theorem rowB_set (v : Nat) {kk : Nat} (h : kk < 64) : (rowB v kk).toArray.setIfInBounds (63 - kk) (bitV v kk) = (rowB v (kk + 1)).toArray := by
 unfold rowB
 rw [List.setIfInBounds_toArray, List.set_append_left _ _ (by simp <;> omega), show bitsV v (kk + 1) = bitV v kk :: bitsV v kk from rfl]
 congr 1
 have e : List.replicate (64 - kk) (Value.int .i64 0) = List.replicate (64 - (kk + 1)) (Value.int .i64 0) ++ [Value.int .i64 0] := by
  rw [← List.replicate_succ', show 64 - kk = 64 - (kk + 1) + 1 by omega]
 rw [e, List.set_append_right _ _ (by simp <;> omega), List.length_replicate, show 63 - kk - (64 - (kk + 1)) = 0 by omega]
 simp
theorem info3w : (Tryz.prog.info? 3).map (fun i => (i.zero, i.size, i.bytes)) = some (some (.int .i64 0), 1, 8) := by kernel_rfl
def zeros64 : Array Value := (List.replicate 64 (Value.int .i64 0)).toArray
theorem made64 (W : World) : (Instr.makeSlice 155 (.int .i64 64) (.int .i64 64)).run Tryz.prog W = .ok (.slice (some ⟨W.heap.size, 0, none⟩) 64 64) (W.alloc (.cells zeros64 3)) := by
 have hi := info3w
 obtain ⟨i0, hi0⟩ : ∃ i0, Tryz.prog.info? 3 = some i0 := by
  cases h : Tryz.prog.info? 3 with
  | some i => exact ⟨i, rfl⟩
  | none => rw [h] at hi; cases hi
 rw [hi0] at hi
 simp only [Option.map_some, Option.some.injEq, Prod.mk.injEq] at hi
 obtain ⟨e1, e2, e3⟩ := hi
 have := run_makeSlice (P := Tryz.prog) (w := W) 155 3 i0 (.int .i64 0) Tryz.underlying155 hi0 e1 .i64 .i64 64 64 (by decide) (by decide) (by rw [e2]; decide) (by rw [e3]; decide) (by decide)
 rw [this, e2, show madeCells (Value.int .i64 0).cells (Int.toNat 64 * 1) = zeros64 by kernel_rfl]
 rfl
theorem and_one (n : Int) : bits .and .i64 n 1 = n % 2 := by
 have h1 : (BitVec.ofInt 64 1).toNat = 2 ^ 1 - 1 := by decide
 have key : (BitVec.ofInt 64 n &&& BitVec.ofInt 64 1).toNat = (n % ((2 ^ 64 : Nat) : Int)).toNat % 2 ^ 1 := by
  rw [BitVec.toNat_and, BitVec.toNat_ofInt, h1, Nat.and_two_pow_sub_one_eq_mod]
 show IntKind.i64.wrap ((BitVec.ofInt 64 n &&& BitVec.ofInt 64 1).toNat : Nat) = n % 2
 rw [key, IntKind.wrap_i64]
 omega
theorem bit_and (v kk : Nat) : Value.int .i64 (bits .and .i64 ((v : Int) / 2 ^ kk) 1) = bitV v kk := by
 rw [and_one]
 unfold bitV
 have : ((v / 2 ^ kk % 2 : Nat) : Int) = (v : Int) / 2 ^ kk % 2 := by rw [Int.natCast_emod, Int.natCast_ediv, Int.natCast_pow]; rfl
 rw [this]
theorem half_step (v kk : Nat) : (v : Int) / 2 ^ kk / 2 = ((v / 2 ^ (kk + 1) : Nat) : Int) := by
 rw [Nat.pow_succ, ← Nat.div_div_eq_div_mul, Int.natCast_ediv, Int.natCast_ediv, Int.natCast_pow]
 rfl
def BitsEnd (w w' : World) (v : Nat) (e : Ending) : Prop := ∃ g, e = .returned (.slice (some ⟨g, 0, none⟩) 64 64) ∧ w'.heap[g]? = some (.cells (bitsV v 64).toArray 3 (0, 0)) ∧ Below w.heap.size w w'
theorem BitsEnd.ret {w w' : World} {v : Nat} {e : Ending} (h : BitsEnd w w' v e) : ∃ g, e = .returned (.slice (some ⟨g, 0, none⟩) 64 64) ∧ w'.heap[g]? = some (.cells (bitsV v 64).toArray 3 (0, 0)) ∧ Below w.heap.size w w' := h
set_option maxHeartbeats 4000000 in
set_option maxRecDepth 100000 in
theorem bits102 (v : Nat) (hv : v < 9223372036854775808) (w : World) : Calls Tryz.prog 102 #[.int .i64 v, .int .i64 8] w fun e w' => BitsEnd w w' v e := by
 go_enter Tryz.func102, Tryz.ntmps102
 have hmk := made64
 go_upto_region 3 with fail
 have hb0 : Below w.heap.size w (w.alloc (.cells (rowB v 0).toArray 3)) := (Below.refl _ w).alloc (Nat.le_refl _) _
 have q1 : (w.alloc (.cells (rowB v 0).toArray 3)).heap[w.heap.size]? = some (.cells (rowB v 0).toArray 3 (0, 0)) := heap_alloc_new w _
 have er : zeros64 = (rowB v 0).toArray := rfl
 rw [er]
 clear hmk er
 obtain ⟨p, hp⟩ : ∃ p, p = w.heap.size := ⟨_, rfl⟩
 rw [← hp] at hb0 q1 ⊢
 generalize w.alloc (.cells (rowB v 0).toArray 3) = W0 at hb0 q1 ⊢
 have HB := Aside0.mk (And.intro hb0 hp)
 clear hb0 hp
 go_loopg [0, 6] 64 (fun kx s0 s6 wr => ∃ kk : Nat, s0 = .int .i64 ((v / 2 ^ kk : Nat) : Int) ∧ s6 = .int .i64 kk ∧ kk + kx = 64 ∧ Aside0 (Below p w wr ∧ wr.heap[p]? = some (.cells (rowB v kk).toArray 3 (0, 0))))
 case atStart => exact ⟨0, by simp, rfl, by omega, ⟨HB.out.1, q1⟩⟩
 case round =>
  obtain ⟨kk, rfl, rfl, hkk, HT⟩ := hrel
  by_cases hlt : kk < 64
  ·have hltz : (kk : Int) < 64 := by omega
   have c1 : wr.cell? ⟨p, 63 - kk, none⟩ = some (.int .i64 0) := by rw [cell_of_heap HT.out.2]; exact rowB_get v hlt
   have fz : wr.frozen? ⟨p, 63 - kk, none⟩ = false := frozen_of_heap HT.out.2
   obtain ⟨ko, rfl⟩ : ∃ ko, gk = ko + 1 := ⟨gk - 1, by omega⟩
   obtain ⟨q, hq⟩ : ∃ q, q = v / 2 ^ kk := ⟨_, rfl⟩
   rw [← hq]
   go_wp2_with fail
   go_roundg ko
   case measure => omega
   case rel => exact ⟨kk + 1, by rw [half_step], by go_num, by omega, ⟨HT.out.1.setCell (Nat.le_refl _) _, by rw [heap_setCell_same wr p (63 - kk) _ _ _ HT.out.2, bit_and, rowB_set v hlt]⟩⟩
  ·have hltz : ¬ (kk : Int) < 64 := by omega
   have : kk = 64 := by omega
   subst this
   have HE := Aside0.mk (show BitsEnd w wr v (.returned (.slice (some ⟨p, 0, none⟩) 64 64)) from ⟨p, rfl, HT.out.2, by rw [← HB.out.2]; exact HT.out.1⟩)
   go_wp2_with fail
   go_ret
   exact HE.out
theorem oct_step (v b k : Nat) (hk : k < 8) : 2 * (v / 2 ^ (b + 8 - k) % 2 ^ k) + v / 2 ^ (b + 7 - k) % 2 = v / 2 ^ (b + 7 - k) % 2 ^ (k + 1) := by
 have e1 : b + 8 - k = (b + 7 - k) + 1 := by omega
 rw [e1, Nat.pow_succ, ← Nat.div_div_eq_div_mul]
 generalize v / 2 ^ (b + 7 - k) = x
 rw [Nat.pow_succ, Nat.mul_comm (2 ^ k) 2]
 have := Nat.mod_mul (x := x) (a := 2) (b := 2 ^ k)
 omega
set_option maxHeartbeats 4000000 in
set_option maxRecDepth 100000 in
/-- Eight bits from the place 64 - 8 * (i + 1) on. -/
theorem octet103 (v g i c : Nat) (hi : i < 8) (w : World) (hg : w.heap[g]? = some (.cells (bitsV v 64).toArray 3 (0, 0))) :
  Calls Tryz.prog 103 #[.slice (some ⟨g, 64 - 8 * (i + 1), none⟩) 8 c] w fun e w' => e = .returned (byteV (octN v i)) ∧ w' = w := by
 have HG := Aside0.mk hg
 obtain ⟨o, ho⟩ : ∃ o, o = 64 - 8 * (i + 1) := ⟨_, rfl⟩
 have HO := Aside0.mk ho
 rw [← ho]
 clear hg ho
 obtain ⟨R, hR⟩ : ∃ R, R = byteV (octN v i) := ⟨_, rfl⟩
 have HR := Aside0.mk hR
 rw [← hR]
 clear hR
 go_enter Tryz.func103, Tryz.ntmps103
 go_upto_region 3 with fail
 go_loopg [3, 4] 8 (fun kx s3 s4 wr => ∃ kk n : Nat, s3 = .int .i64 (n : Int) ∧ s4 = .int .i64 kk ∧ kk + kx = 8 ∧ n < 256 ∧ Aside0 (wr = w ∧ n = v / 2 ^ (8 * i + 8 - kk) % 2 ^ kk))
 case atStart => exact ⟨0, 0, rfl, rfl, by omega, by omega, ⟨rfl, by simp [Nat.mod_one]⟩⟩
 case round =>
  obtain ⟨kk, n, rfl, rfl, hkk, hn, HT⟩ := hrel
  obtain rfl := HT.out.1
  by_cases hlt : kk < 8
  ·have hltz : (kk : Int) < 8 := by omega
   obtain ⟨m, hm⟩ : ∃ m, m = v / 2 ^ (8 * i + 7 - kk) % 2 := ⟨_, rfl⟩
   have hm2 : m < 2 := by rw [hm]; exact Nat.mod_lt _ (by decide)
   have c1 : wr.cell? ⟨g, o + kk, none⟩ = some (.int .i64 (m : Int)) := by
    rw [cell_of_heap HG.out, HO.out]
    have := bitsV_get v 64 (64 - 8 * (i + 1) + kk) (by omega)
    rw [show 64 - 1 - (64 - 8 * (i + 1) + kk) = 8 * i + 7 - kk by omega] at this
    rw [hm]
    exact this
   have hnn : 2 * n + m < 256 := by
    have h1 := oct_step v (8 * i) kk hlt
    have h2 : v / 2 ^ (8 * i + 7 - kk) % 2 ^ (kk + 1) < 2 ^ (kk + 1) := Nat.mod_lt _ (Nat.two_pow_pos _)
    have h3 : 2 ^ (kk + 1) ≤ 2 ^ 8 := Nat.pow_le_pow_right (by decide) (by omega)
    rw [HT.out.2, hm]
    omega
   have HM := Aside0.mk (And.intro hm hnn)
   clear hm
   obtain ⟨ko, rfl⟩ : ∃ ko, gk = ko + 1 := ⟨gk - 1, by omega⟩
   go_wp2_with fail
   go_roundg ko
   case measure => omega
   case rel =>
    refine ⟨kk + 1, 2 * n + m, by go_num, by go_num, by omega, HM.out.2, ⟨rfl, ?_⟩⟩
    rw [HT.out.2, HM.out.1, oct_step v (8 * i) kk hlt]
    congr 3
    omega
  ·have hltz : ¬ (kk : Int) < 8 := by omega
   have : kk = 8 := by omega
   subst this
   go_wp2_with fail
   go_ret
   refine ⟨?_, rfl⟩
   rw [HR.out]
   have e : n = (octN v i).toNat := by
    rw [HT.out.2]
    unfold octN
    rw [UInt8.toNat_ofNat', show (256 : Nat) ^ i = 2 ^ (8 * i) by rw [Nat.pow_mul], show 8 * i + 8 - 8 = 8 * i by omega]
   show Ending.returned (.int .u8 (n : Int)) = _
   rw [e]
   rfl
end Go.Proofs.YthnpiimiimiijaaGreatDoor.Dir
end
section
namespace Go.Proofs.YthnpiimiimiijaaGreatDoor.Dir
open Go Go.RowKit Go.Proofs Go.Proofs.YthnpiimiimiijaaGreatDoorW.PrintWords Go.Proofs.YthnpiimiimiijaaGreatDoorW.PrintLast Go.Proofs.YthnpiimiimiijaaGreatDoorW.PrintMore
set_option linter.unusedVariables false
set_option linter.unusedSimpArgs false
theorem appS : AppT 152 67 1 24 := appT_of Tryz.underlying152 (by kernel_rfl) ⟨.slice none 0 0, by kernel_rfl, rfl⟩ (by decide)
theorem buildS (w : World) (A : Option Addr) (n c : Nat) : (Instr.buildSlice 152 1 #[(0, .slice A n c)]).run Tryz.prog w = .ok (.slice (some ⟨w.heap.size, 0, none⟩) 1 1) (w.alloc (.cells #[.slice A n c] 67)) := by
 have hfill : Instr.fill (fun i => some (i * 1, 1)) ((Array.range (1 * 1)).map ((#[Value.slice none 0 0] : Array Value)[· % 1]!)) [(0, .slice A n c)] = some #[.slice A n c] := by
  rw [fill_cons _ _ 0 _ _ (0 * 1) 1 rfl rfl (by simp)]
  simp only [Instr.fill, Nat.zero_mul]
  rw [splice_whole _ _ (by simp [Value.cells])]
  simp [Value.cells]
 have h1 : ¬ (1 * 1 > 2 ^ 24) := by omega
 have h2 : ¬ (1 * 1 = 0) := by omega
 simp only [Instr.buildSlice, Sem.run_bind, run_underlying Tryz.underlying152, Result.andThen_ok, Tryz.sizeOf67, h1, h2, if_false, Sem.run_pure, Tryz.zeroValue67, Value.cells]
 erw [hfill]
 simp [newRow, newObj]
 rfl
/-- What an element of a writer's pieces says. -/
def PieceR (w : World) (base : Nat) (p : List UInt8) (cs : List Value) : Prop := ∃ A c, cs = [.slice A p.length c] ∧ OwnB w base A c p
theorem OwnB.kept {w w' : World} {base : Nat} {A : Option Addr} {c : Nat} {p : List UInt8} {row : Option Nat} (h : OwnB w base A c p) (hg : w.grownBy w' row) (hne : (Value.slice A p.length c).ownBlock = none ∨ (Value.slice A p.length c).ownBlock ≠ row) : OwnB w' base A c p := by
 unfold OwnB at h ⊢
 exact World.ownsRow.kept h hg hne
/-- The document's writer: its pieces, each in memory of its own. -/
def RWr (w : World) (base rw : Nat) (xs : List UInt8) (k : Nat) : Prop := ∃ v ps, w.heap[rw]? = some (.cells #[v] 154 (0, 0)) ∧ OwnRow (PieceR w base) 67 1 w base v ps ∧ ps.flatten = xs ∧ ps.length ≤ k ∧ base ≤ rw
theorem PieceR.below {w w' : World} {base : Nat} {p : List UInt8} {cs : List Value} (h : PieceR w base p cs) (hb : Below w.heap.size w w') : PieceR w' base p cs := by
 obtain ⟨A, c, rfl, h⟩ := h
 exact ⟨A, c, rfl, h.below hb⟩
theorem RWr.below {w w' : World} {base rw : Nat} {xs : List UInt8} {k : Nat} (h : RWr w base rw xs k) (hb : Below w.heap.size w w') : RWr w' base rw xs k := by
 obtain ⟨v, ps, h1, h2, h3, h4, h5⟩ := h
 exact ⟨v, ps, room_at h1 hb, (h2.below hb).imp_ (fun p c hp => hp.below hb), h3, h4, h5⟩
theorem RWr.size {w : World} {base rw : Nat} {xs : List UInt8} {k : Nat} (h : RWr w base rw xs k) : base ≤ w.heap.size := by
 obtain ⟨v, ps, h1, h2, h3, h4, h5⟩ := h
 exact Nat.le_trans h5 (Nat.le_of_lt (Array.getElem?_eq_some_iff.1 h1).1)
def RWrEnd (w w' : World) (base rw : Nat) (xs : List UInt8) (k : Nat) (e : Ending) : Prop := e = .returned (.int .i64 0) ∧ RWr w' base rw xs k ∧ Below base w w' ∧ KeptT [67, 154] w w'
/-- A piece more: the last steps of Put and of Bytes. -/
theorem rwr_push {w w1 w3 : World} {base rw : Nat} {v : Value} {ps : List (List UInt8)} {inner : List Value} {A A' : Option Addr} {c c' : Nat} {p : List UInt8} {k : Nat} {xs : List UInt8}
  (hb : Below base w w1) (hkt : KeptT [67, 154] w w1) (hrw : w1.heap[rw]? = some (.cells #[v] 154 (0, 0))) (hO : w1.ownsRow base 67 1 v ps.length inner) (hR : Reps (PieceR w1 base) 1 ps inner) (hp : OwnB w1 base A c p) (hx : ps.flatten = xs) (hk : ps.length ≤ k) (hbr : base ≤ rw) (hsz : base ≤ w1.heap.size)
  (h2 : w3.ownsRow base 67 1 (.slice A' (ps.length + 1) c') (ps.length + 1) (inner ++ [.slice A p.length c])) (h3 : w1.grownBy w3 v.ownBlock) :
  RWr (w3.setCell ⟨rw, 0, none⟩ (.slice A' (ps.length + 1) c')) base rw (xs ++ p) (k + 1) ∧ Below base w (w3.setCell ⟨rw, 0, none⟩ (.slice A' (ps.length + 1) c')) ∧ KeptT [67, 154] w (w3.setCell ⟨rw, 0, none⟩ (.slice A' (ps.length + 1) c')) := by
 have hrw3 : w3.heap[rw]? = some (.cells #[v] 154 (0, 0)) := (h3.block rw (Array.getElem?_eq_some_iff.1 hrw).1 (own_ne hO hrw (by decide))).trans hrw
 have hpc : ∀ A c p, OwnB w1 base A c p → OwnB (w3.setCell ⟨rw, 0, none⟩ (.slice A' (ps.length + 1) c')) base A c p := fun A c p h => by
  refine own_setCellT (h.kept h3 ?_) hrw3 (by decide) _
  cases hk : v.ownBlock with
  | none => cases hk2 : (Value.slice A p.length c).ownBlock <;> simp
  | some b => exact .inr (own_apart hO h (by decide) b hk)
 refine ⟨⟨.slice A' (ps.length + 1) c', ps ++ [p], ?_, ⟨inner ++ [.slice A p.length c], ?_, ?_⟩, ?_, ?_, hbr⟩, ?_, (hkt.trans (KeptT.grown hO h3 (by decide))).trans (KeptT.setCell hrw3 (by decide) _)⟩
 ·rw [heap_setCell_same w3 rw 0 _ _ _ hrw3]; rfl
 ·rw [List.length_append, List.length_singleton]; exact own_setCellT h2 hrw3 (by decide) _
 ·exact (hR.imp_ (fun q cs h => by obtain ⟨A, c, rfl, h⟩ := h; exact ⟨A, c, rfl, hpc A c q h⟩)).snoc ⟨A, c, rfl, hpc A c p hp⟩ rfl
 ·rw [List.flatten_append, hx]; simp
 ·rw [List.length_append, List.length_singleton]; omega
 ·exact (hb.trans (below_own hO h3 hsz)).setCell hbr _
def RWriteEnd (w w' : World) (e : Ending) : Prop := ∃ rw, e = .returned (.pointer (some ⟨rw, 0, none⟩)) ∧ RWr w' w.heap.size rw [] 0 ∧ Below w.heap.size w w'
theorem write61 (w : World) : Calls Tryz.prog 61 #[] w fun e w' => RWriteEnd w w' e := by
 have HF := Aside0.mk (show RWriteEnd w (w.alloc (.cells #[.slice none 0 0] 154)) (.returned (.pointer (some ⟨w.heap.size, 0, none⟩))) from
  ⟨w.heap.size, rfl, ⟨.slice none 0 0, [], heap_alloc_new w _, OwnRow.none_ _ _ _ _ _, rfl, Nat.le_refl _, Nat.le_refl _⟩, (Below.refl _ w).alloc (Nat.le_refl _) _⟩)
 go_enter Tryz.func61, Tryz.ntmps61
 go_wp2
 go_ret
 exact HF.out
end Go.Proofs.YthnpiimiimiijaaGreatDoor.Dir
end
