/- The document's writer: Bytes. The document's writer: Put. The document's writer: Put. The document's writer: Octets. The document's writer: Out. direct.Bytes: a book's bytes. -/
import Derived.Test.YthnpiimiimiijaaGreatDoorKc21
import Derived.Laws.IdiomStrings
section
namespace Go.Proofs.YthnpiimiimiijaaGreatDoor.Dir
open Go Go.RowKit Go.Proofs Go.Proofs.YthnpiimiimiijaaGreatDoorW.PrintWords Go.Proofs.YthnpiimiimiijaaGreatDoorW.PrintLast Go.Proofs.YthnpiimiimiijaaGreatDoorW.PrintMore
set_option linter.unusedVariables false
set_option linter.unusedSimpArgs false
theorem own_slice {w : World} {base : Nat} {e : TypeId} {size n : Nat} {v : Value} {xs : List Value} (h : w.ownsRow base e size v n xs) : ∃ A c, v = .slice A n c := by
 obtain ⟨A, c, rfl, -⟩ := src_owns h
 exact ⟨A, c, rfl⟩
set_option maxHeartbeats 4000000 in
set_option maxRecDepth 100000 in
theorem bytes63 (base rw : Nat) (xs ys : List UInt8) (k : Nat) (A2 : Option Addr) (c2 : Nat) (w : World) (h : RWr w base rw xs k) (hs : SrcAt w A2 ys.length 1 (ys.map byteV)) (hl : ys.length ≤ 140737488355328) (hk : k ≤ 1000000000000) :
  Calls Tryz.prog 63 #[.pointer (some ⟨rw, 0, none⟩), .slice A2 ys.length c2] w fun e w' => RWrEnd w w' base rw (xs ++ ys) (k + 1) e := by
 have hsz := h.size
 obtain ⟨v, ps, h1, ⟨inner, h2, h2r⟩, h3, h4, h5⟩ := h
 obtain ⟨A, c, rfl⟩ := own_slice h2
 have H1 := Aside0.mk h1
 have H2 := Aside0.mk (And.intro h2 h2r)
 have HS := Aside0.mk hs
 have HL := Aside0.mk (And.intro hl (And.intro hsz (And.intro h3 (And.intro h4 (And.intro h5 hk)))))
 obtain ⟨m, hm⟩ : ∃ m, m = ys.length := ⟨_, rfl⟩
 obtain ⟨n, hn⟩ : ∃ n, n = ps.length := ⟨_, rfl⟩
 have HN := Aside0.mk (And.intro hn hm)
 rw [← hm]
 rw [← hn] at H1
 clear h1 h2 h2r h3 h4 h5 hs hl hsz hn hm hk
 go_enter Tryz.func63, Tryz.ntmps63
 go_upto_region 1 with fail
 refine start_ (n := 12) (S := fun W => W.heap[rw]? = some (.cells #[.slice A n c] 154 (0, 0))) (ds := [11]) #[false, false, false, false, false, false, false, false, false, false, false, false] (by kernel_rfl) rfl rfl (room_at H1.out ((Below.refl _ w).drew)) (fun hHeld => ?_)
 obtain ⟨w5, hw5⟩ : ∃ w5, w5 = w.drew := ⟨_, rfl⟩
 have B5 := Aside0.mk (show Below w.heap.size w w5 by rw [hw5]; exact (Below.refl _ w).drew)
 rw [← hw5] at hHeld ⊢
 clear hw5
 refine pure_ (i := 0) (N := (some 5)) (v := ?_) (a' := ?_) #[true, false, false, false, false, false, false, false, false, false, false, false] rfl rfl (by kernel_rfl) (fun _ _ _ h => h) (Or.inl ⟨by rfl, ?_⟩) ?_ ?_
 rotate_left
 ·intro w'
  go_simp
  with_reducible rfl
 rotate_left
 ·simp only [Act.put, List.setIfInBounds_toArray, List.set_cons_zero, List.set_cons_succ, i64_w, i32_w]
  rfl
 refine pure_ (i := 1) (N := (some 6)) (v := ?_) (a' := ?_) #[true, true, false, false, false, false, false, false, false, false, false, false] rfl rfl (by kernel_rfl) (fun _ _ _ h => h) (Or.inl ⟨by rfl, ?_⟩) ?_ ?_
 rotate_left
 ·intro w'
  go_simp
  with_reducible rfl
 rotate_left
 ·simp only [Act.put, List.setIfInBounds_toArray, List.set_cons_zero, List.set_cons_succ, i64_w, i32_w]
  rfl
 refine pure_ (i := 2) (N := (some 7)) (v := ?_) (a' := ?_) #[true, true, true, false, false, false, false, false, false, false, false, false] rfl rfl (by kernel_rfl) (fun _ _ _ h => h) (Or.inl ⟨by rfl, ?_⟩) ?_ ?_
 rotate_left
 ·intro w'
  go_simp
  with_reducible rfl
 rotate_left
 ·simp only [Act.put, List.setIfInBounds_toArray, List.set_cons_zero, List.set_cons_succ, i64_w, i32_w]
  rfl
 refine pure_ (i := 3) (N := (some 8)) (v := ?_) (a' := ?_) #[true, true, true, true, false, false, false, false, false, false, false, false] rfl rfl (by kernel_rfl) (fun _ _ _ h => h) (Or.inl ⟨by rfl, ?_⟩) ?_ ?_
 rotate_left
 ·intro w'
  go_simp
  with_reducible rfl
 rotate_left
 ·simp only [Act.put, List.setIfInBounds_toArray, List.set_cons_zero, List.set_cons_succ, i64_w, i32_w]
  rfl
 refine pure_ (i := 5) (N := (some 10)) (v := ?_) (a' := ?_) #[true, true, true, true, false, true, false, false, false, false, false, false] rfl rfl (by kernel_rfl) (fun _ _ _ h => h) (Or.inl ⟨by rfl, ?_⟩) ?_ ?_
 rotate_left
 ·intro w'
  go_simp
  with_reducible rfl
 rotate_left
 ·simp only [Act.put, List.setIfInBounds_toArray, List.set_cons_zero, List.set_cons_succ, i64_w, i32_w]
  rfl
 refine take_ (i := 4) (N := (some 9)) (v := ?_) (a' := ?_) #[true, true, true, true, true, true, false, false, false, false, false, false] rfl rfl (by kernel_rfl) (fun _ _ _ h => h) (Or.inl ⟨by rfl, ?_⟩) hHeld ?_ ?_
 rotate_left
 ·rintro w' hs
  have s0 : w'.cell? ⟨rw, 0, none⟩ = some (.slice A n c) := by rw [cell_of_heap hs]; rfl
  go_simp
  with_reducible rfl
 rotate_left
 ·simp only [Act.put, List.setIfInBounds_toArray, List.set_cons_zero, List.set_cons_succ, i64_w, i32_w]
  rfl
 obtain ⟨A3, c3, w6, hr, g2, g3⟩ := run_app appB w5 67 w5.heap.size 0 0 m c2 none A2 [] (ys.map byteV) (World.ownsRow_nil _ _ _ _) (by rw [HN.out.2]; exact SrcAt.grown HS.out B5.out) (bytes_one _) (by rw [HN.out.2]; have := HL.out.1; omega) (by rw [HN.out.2]; have := HL.out.1; unfold maxLen; omega) (Nat.le_refl _)
 refine one_ (i := 6) (N := (some 11)) #[true, true, true, true, true, true, true, false, false, false, false, false] rfl rfl (by kernel_rfl) (by decide) (fun K hK => ?_)
 refine value_ (v := .slice A3 (0 + m) c3) (w1 := w6) (by rfl) rfl ?_ ?_
 ·exact runs_append 67 (.const (.slice none 0 0)) (.tmp 10) _ rfl _ (.slice none 0 0) (.slice A2 m c2) _ rfl rfl hr
 have HB6 := Aside0.mk (show Below w5.heap.size w5 w6 from below_grownBy g3)
 have HO6 := Aside0.mk g2
 have hS_ : w6.heap[rw]? = some (.cells #[.slice A n c] 154 (0, 0)) := room_at hHeld HB6.out
 clear hr g2 g3
 refine hK.out _ _ hS_ (fun hHeld => ?_)
 clear hK K
 refine norm_ (a' := ?_) ?_ ?_
 rotate_left
 ·show Act.put _ (some 11) _ = _
  simp only [Act.put, List.setIfInBounds_toArray, List.set_cons_zero, List.set_cons_succ, i64_w, i32_w]
  rfl
 refine one_ (i := 7) (N := (some 12)) #[true, true, true, true, true, true, true, true, false, false, false, false] rfl rfl (by kernel_rfl) (by decide) (fun K hK => ?_)
 refine value_ (v := .slice (some ⟨w6.heap.size, 0, none⟩) 1 1) (w1 := w6.alloc (.cells #[.slice A3 (0 + m) c3] 67)) (by rfl) rfl ?_ ?_
 ·exact execOp_buildSlice _ _ 152 (.tmp 11) _ rfl _ _ rfl _ _ (buildS w6 A3 (0 + m) c3)
 have hS_ : (w6.alloc (.cells #[.slice A3 (0 + m) c3] 67)).heap[rw]? = some (.cells #[.slice A n c] 154 (0, 0)) := room_at hHeld ((Below.refl _ w6).alloc (Nat.le_refl _) _)
 have HV := Aside0.mk (heap_alloc_new w6 (.cells #[.slice A3 (0 + m) c3] 67))
 have HB7 := Aside0.mk ((Below.refl _ w6).alloc (Nat.le_refl _) (.cells #[.slice A3 (0 + m) c3] 67))
 obtain ⟨w7, hw7⟩ : ∃ w7, w7 = w6.alloc (.cells #[.slice A3 (0 + m) c3] 67) := ⟨_, rfl⟩
 obtain ⟨p7, hp7⟩ : ∃ p7, p7 = w6.heap.size := ⟨_, rfl⟩
 rw [← hw7, ← hp7] at HV
 rw [← hw7] at HB7 hS_ ⊢
 rw [← hp7]
 clear hw7 hp7
 refine hK.out _ _ hS_ (fun hHeld => ?_)
 clear hK K
 refine norm_ (a' := ?_) ?_ ?_
 rotate_left
 ·show Act.put _ (some 12) _ = _
  simp only [Act.put, List.setIfInBounds_toArray, List.set_cons_zero, List.set_cons_succ, i64_w, i32_w]
  rfl
 have HB57 := Aside0.mk (below_step (below_step B5.out HB6.out) HB7.out)
 obtain ⟨A', c', w8, hr, g2, g3⟩ := run_app appS w7 152 base n c 1 1 A (some ⟨p7, 0, none⟩) inner [.slice A3 (0 + m) c3] (by rw [HN.out.1]; exact pw_own_below H2.out.1 HB57.out) (src_new HV.out rfl) (by intro u hu; simp at hu; subst hu; rfl) (by rw [HN.out.1]; have := HL.out; omega) (by rw [HN.out.1]; have := HL.out; unfold maxLen; omega) (Nat.le_trans HL.out.2.1 HB57.out.size)
 refine one_ (i := 8) (N := (some 13)) #[true, true, true, true, true, true, true, true, true, false, false, false] rfl rfl (by kernel_rfl) (by decide) (fun K hK => ?_)
 refine value_ (v := .slice A' (n + 1) c') (w1 := w8) (by rfl) rfl ?_ ?_
 ·exact runs_append 152 (.tmp 9) (.tmp 12) _ rfl _ (.slice A n c) (.slice (some ⟨p7, 0, none⟩) 1 1) _ rfl rfl hr
 have HG8 := Aside0.mk (And.intro g2 g3)
 have HW7 := Aside0.mk hHeld
 have hS_ : w8.heap[rw]? = some (.cells #[.slice A n c] 154 (0, 0)) := (g3.block rw (Array.getElem?_eq_some_iff.1 hHeld).1 (own_ne (pw_own_below H2.out.1 HB57.out) hHeld (by decide) |> fun e => by rw [HN.out.1]; exact e)).trans hHeld
 clear hr g2 g3
 refine hK.out _ _ hS_ (fun hHeld => ?_)
 clear hK K
 refine norm_ (a' := ?_) ?_ ?_
 rotate_left
 ·show Act.put _ (some 13) _ = _
  simp only [Act.put, List.setIfInBounds_toArray, List.set_cons_zero, List.set_cons_succ, i64_w, i32_w]
  rfl
 refine pure_ (i := 9) (N := (some 14)) (v := ?_) (a' := ?_) #[true, true, true, true, true, true, true, true, true, true, false, false] rfl rfl (by kernel_rfl) (fun _ _ _ h => h) (Or.inl ⟨by rfl, ?_⟩) ?_ ?_
 rotate_left
 ·intro w'
  go_simp
  with_reducible rfl
 rotate_left
 ·simp only [Act.put, List.setIfInBounds_toArray, List.set_cons_zero, List.set_cons_succ, i64_w, i32_w]
  rfl
 refine pure_ (i := 10) (N := (some 15)) (v := ?_) (a' := ?_) #[true, true, true, true, true, true, true, true, true, true, true, false] rfl rfl (by kernel_rfl) (fun _ _ _ h => h) (Or.inl ⟨by rfl, ?_⟩) ?_ ?_
 rotate_left
 ·intro w'
  go_simp
  with_reducible rfl
 rotate_left
 ·simp only [Act.put, List.setIfInBounds_toArray, List.set_cons_zero, List.set_cons_succ, i64_w, i32_w]
  rfl
 refine last_ (i := 11) (N := none) #[true, true, true, true, true, true, true, true, true, true, true, true] rfl rfl (by kernel_rfl) (by decide) (fun K hK => ?_)
 refine store_ (w1 := w8.setCell ⟨rw, 0, none⟩ (.slice A' (n + 1) c')) (by rfl) rfl ?_ ?_
 ·exact runs_store 152 (.tmp 15) (.tmp 13) _ rfl _ _ _ rfl rfl _ (run_storeAt1 Tryz.prog w8 152 Tryz.sizeOf152 rw 0 _ rfl rfl (.slice A n c) (by rw [cell_of_heap hHeld]; rfl) (frozen_of_heap hHeld))
 skip
 refine hK.out _ _ ?_
 clear hK K
 refine norm_ (a' := ?_) ?_ ?_
 rotate_left
 ·show Act.put _ none _ = _
  simp only [Act.put, List.setIfInBounds_toArray, List.set_cons_zero, List.set_cons_succ, i64_w, i32_w]
  rfl
 refine done_ (by kernel_rfl) ?_
 have HH := Aside0.mk hHeld
 clear hHeld
 go_wp2
 go_ret
 have hp : OwnB w7 base A3 c3 ys := by
  have h := HO6.out
  rw [Nat.zero_add, List.nil_append, HN.out.2] at h
  exact OwnB.below (own_weaken h (Nat.le_trans HL.out.2.1 B5.out.size)) HB7.out
 have hO := pw_own_below H2.out.1 HB57.out
 have hR := H2.out.2.imp_ (fun p c hp => hp.below HB57.out)
 have h2 := HG8.out.1
 have h3 := HG8.out.2
 have hw7 := HW7.out
 rw [HN.out.1] at h2 h3 hw7 ⊢
 rw [Nat.zero_add, HN.out.2] at h2
 obtain ⟨r1, r2, r3⟩ := rwr_push (HB57.out.mono HL.out.2.1) (KeptT.below HB57.out) hw7 hO hR hp HL.out.2.2.1 HL.out.2.2.2.1 HL.out.2.2.2.2.1 (Nat.le_trans HL.out.2.1 HB57.out.size) h2 h3
 exact ⟨rfl, r1, r2, r3⟩
end Go.Proofs.YthnpiimiimiijaaGreatDoor.Dir
end
section
namespace Go.Proofs.YthnpiimiimiijaaGreatDoor.Dir
open Go Go.RowKit Go.Proofs Go.Proofs.YthnpiimiimiijaaGreatDoorW.PrintWords Go.Proofs.YthnpiimiimiijaaGreatDoorW.PrintLast Go.Proofs.YthnpiimiimiijaaGreatDoorW.PrintMore
set_option linter.unusedVariables false
set_option linter.unusedSimpArgs false
theorem buildB (w : World) (x : Int) : (Instr.buildSlice 67 1 #[(0, .int .u8 x)]).run Tryz.prog w = .ok (.slice (some ⟨w.heap.size, 0, none⟩) 1 1) (w.alloc (.cells [.int .u8 x].toArray 5)) := by
 have hfill : Instr.fill (fun i => some (i * 1, 1)) ((Array.range (1 * 1)).map ((#[Value.int .u8 0] : Array Value)[· % 1]!)) [(0, .int .u8 x)] = some #[.int .u8 x] := by
  rw [fill_cons _ _ 0 _ _ (0 * 1) 1 rfl rfl (by simp)]
  simp only [Instr.fill, Nat.zero_mul]
  rw [splice_whole _ _ (by simp [Value.cells])]
  simp [Value.cells]
 have h1 : ¬ (1 * 1 > 2 ^ 24) := by omega
 have h2 : ¬ (1 * 1 = 0) := by omega
 simp only [Instr.buildSlice, Sem.run_bind, run_underlying Tryz.underlying67, Result.andThen_ok, Tryz.sizeOf5, h1, h2, if_false, Sem.run_pure, Tryz.zeroValue5, Value.cells]
 erw [hfill]
 simp [newRow, newObj]
 rfl
theorem wpList_pushB {w : World} {ops : Array Oper} {rest : List Oper} {o o2 : Oper} {a : Act} {Q : Exit → Act → World → Prop} (hgd : o.guard = none) (hgd2 : o2.guard = none) (x s y : Operand) (ho : o.op = .buildSlice 67 1 #[(0, x)]) (ho2 : o2.op = .call { callee := .builtin .append, args := #[s, y], argTypes := #[67, 67] })
  (k : UInt8) (ex : a.eval x = byteV k) (base : Nat) (A : Option Addr) (c n : Nat) (l : List UInt8) (hown : OwnB w base A c l) (es : (a.put o.dst (.slice (some ⟨w.heap.size, 0, none⟩) 1 1)).eval s = .slice A n c) (hn : l.length = n) (ey : (a.put o.dst (.slice (some ⟨w.heap.size, 0, none⟩) 1 1)).eval y = .slice (some ⟨w.heap.size, 0, none⟩) 1 1) (hl : l.length ≤ 100000000000) (hb : base ≤ w.heap.size)
  (h : ∀ A' c' w', OwnB w' base A' c' (l ++ [k]) → Below base w w' → w.heap.size ≤ w'.heap.size → wpList Tryz.prog ops Q rest ((a.put o.dst (.slice (some ⟨w.heap.size, 0, none⟩) 1 1)).put o2.dst (.slice A' (n + 1) c')) w') : wpList Tryz.prog ops Q (o :: o2 :: rest) a w := by
 subst hn
 refine wpList_buildSlice1 hgd 67 x ho _ ex _ _ (buildB w k.toNat) ?_
 have hbw := (Below.refl w.heap.size w).alloc (Nat.le_refl _) (.cells [.int .u8 (k.toNat : Int)].toArray 5)
 have ho' := hown.below hbw
 refine wpList_app hgd2 s y appB ho2 base l.length c 1 1 A (some ⟨w.heap.size, 0, none⟩) (l.map byteV) [byteV k] es ho' ey (src_new (heap_alloc_new w _) rfl) (by intro u hu; simp at hu; subst hu; rfl) (by omega) (by unfold maxLen; omega) (Nat.le_trans hb hbw.size) fun A' c' w' h1 h2 => ?_
 refine h A' c' w' ?_ ((hbw.mono hb).trans (below_own ho' h2 (Nat.le_trans hb hbw.size))) (Nat.le_trans hbw.size h2.size)
 unfold OwnB
 rw [List.length_append, List.map_append]
 exact h1
theorem wpList_pushS {w : World} {ops : Array Oper} {rest : List Oper} {o o2 : Oper} {a : Act} {Q : Exit → Act → World → Prop} (hgd : o.guard = none) (hgd2 : o2.guard = none) (x s y : Operand) (ho : o.op = .buildSlice 152 1 #[(0, x)]) (ho2 : o2.op = .call { callee := .builtin .append, args := #[s, y], argTypes := #[152, 152] })
  (A3 : Option Addr) (m c3 : Nat) (ex : a.eval x = .slice A3 m c3) (base : Nat) (A : Option Addr) (c n : Nat) (inner : List Value) (hown : w.ownsRow base 67 1 (.slice A n c) n inner) (es : (a.put o.dst (.slice (some ⟨w.heap.size, 0, none⟩) 1 1)).eval s = .slice A n c) (ey : (a.put o.dst (.slice (some ⟨w.heap.size, 0, none⟩) 1 1)).eval y = .slice (some ⟨w.heap.size, 0, none⟩) 1 1) (hl : n ≤ 1000000000000) (hb : base ≤ w.heap.size)
  (h : ∀ A' c' w1 w', Below w.heap.size w w1 → w'.ownsRow base 67 1 (.slice A' (n + 1) c') (n + 1) (inner ++ [.slice A3 m c3]) → w1.grownBy w' (Value.slice A n c).ownBlock → wpList Tryz.prog ops Q rest ((a.put o.dst (.slice (some ⟨w.heap.size, 0, none⟩) 1 1)).put o2.dst (.slice A' (n + 1) c')) w') : wpList Tryz.prog ops Q (o :: o2 :: rest) a w := by
 refine wpList_buildSlice1 hgd 152 x ho _ ex _ _ (buildS w A3 m c3) ?_
 have hbw := (Below.refl w.heap.size w).alloc (Nat.le_refl _) (.cells #[.slice A3 m c3] 67)
 exact wpList_app hgd2 s y appS ho2 base n c 1 1 A (some ⟨w.heap.size, 0, none⟩) inner [.slice A3 m c3] es (pw_own_below hown hbw) ey (src_new (heap_alloc_new w _) rfl) (by intro u hu; simp at hu; subst hu; rfl) (by omega) (by unfold maxLen; omega) (Nat.le_trans hb hbw.size) fun A' c' w' h1 h2 => h A' c' _ w' hbw h1 h2
end Go.Proofs.YthnpiimiimiijaaGreatDoor.Dir
end
section
namespace Go.Proofs.YthnpiimiimiijaaGreatDoor.Dir
open Go Go.RowKit Go.Proofs Go.Proofs.YthnpiimiimiijaaGreatDoorW.PrintWords Go.Proofs.YthnpiimiimiijaaGreatDoorW.PrintLast Go.Proofs.YthnpiimiimiijaaGreatDoorW.PrintMore
set_option linter.unusedVariables false
set_option linter.unusedSimpArgs false
theorem bit_zero {v s j : Nat} (hs8 : s ≤ 8) (hvs : v < 256 ^ s) (hj : j < 64 - 8 * s) : bitV v (63 - j) = .int .i64 0 := by
 unfold bitV
 rw [Nat.div_eq_of_lt (Nat.lt_of_lt_of_le hvs ?_)]
 ·rfl
 ·rw [show (256 : Nat) ^ s = 2 ^ (8 * s) by rw [Nat.pow_mul]]
  exact Nat.pow_le_pow_right (by decide) (by omega)
theorem beN_at (v : Nat) : ∀ s kk, kk < s → (beN v s)[kk]? = some (octN v (s - 1 - kk))
 | 0, kk, h => by omega
 | s + 1, 0, h => by simp [beN]
 | s + 1, kk + 1, h => by
  show (beN v s)[kk]? = _
  rw [beN_at v s kk (by omega)]
  congr 2
  omega
theorem slice155 (g z : Nat) (hz : z + 8 ≤ 64) (W : World) : (Instr.slice 155 (.slice (some ⟨g, 0, none⟩) 64 64) (some (.int .i64 z)) (some (.int .i64 ((z : Int) + 8))) none).run Tryz.prog W = .ok (.slice (some ⟨g, z, none⟩) 8 (64 - z)) W := by
 have z8 : (z : Int) + 8 ≤ 64 := by omega
 have z0 : ((z : Int) + 8).toNat = z + 8 := by omega
 have z1 : ¬ 64 = z := by omega
 go_simp
 intro h
 omega
set_option maxHeartbeats 4000000 in
set_option maxRecDepth 100000 in
theorem put62 (base rw : Nat) (xs : List UInt8) (k v s : Nat) (w : World) (h : RWr w base rw xs k) (hv : v < 9223372036854775808) (hs1 : 1 ≤ s) (hs8 : s ≤ 8) (hvs : v < 256 ^ s) (hk : k ≤ 1000000000000) :
  Calls Tryz.prog 62 #[.pointer (some ⟨rw, 0, none⟩), .int .i64 v, .int .i64 s] w fun e w' => RWrEnd w w' base rw (xs ++ beN v s) (k + 1) e := by
 have hsz := Aside0.mk (size101 s w (by omega) (by omega))
 have hbi := Aside0.mk (bits102 v hv w)
 have HW := Aside0.mk h
 have HV := Aside0.mk (And.intro hvs hk)
 have v0 : ¬ (v : Int) < 0 := by omega
 clear h hvs hk
 go_enter Tryz.func62, Tryz.ntmps62
 go_upto_region 3 with (go_at_call 101; refine hsz.out.mono ?_; rintro e w' ⟨rfl, rfl⟩)
 go_upto_region 5 with (go_at_call 102; refine hbi.out.mono ?_; intro e w2 hbe; obtain ⟨g, rfl, hg, hb⟩ := hbe.ret)
 have HG := Aside0.mk hg
 have HB := Aside0.mk hb
 clear hg hb
 go_loopg [8] 64 (fun kx s8 wr => ∃ j : Nat, s8 = .int .i64 j ∧ j ≤ 64 - 8 * s ∧ 64 ≤ j + kx ∧ Aside0 (wr = w2))
 case atStart => exact ⟨0, rfl, by omega, by omega, ⟨rfl⟩⟩
 case round =>
  obtain ⟨j, rfl, hj, hjk, HT⟩ := hrel
  have hT := HT.out.symm
  subst hT
  by_cases hlt : j < 64 - 8 * s
  ·have hltz : (j : Int) < 64 - 8 * (s : Int) := by omega
   have c1 : w2.cell? ⟨g, j, none⟩ = some (.int .i64 0) := by
    rw [cell_of_heap HG.out]
    have := bitsV_get v 64 j (by omega)
    rw [show 64 - 1 - j = 63 - j by omega, bit_zero hs8 HV.out.1 hlt] at this
    exact this
   obtain ⟨ko, rfl⟩ : ∃ ko, gk = ko + 1 := ⟨gk - 1, by omega⟩
   go_wp2_with fail
   go_roundg ko
   case measure => omega
   case rel => exact ⟨j + 1, by go_num, by omega, by omega, ⟨rfl⟩⟩
  ·have hltz : ¬ (j : Int) < 64 - 8 * (s : Int) := by omega
   have : j = 64 - 8 * s := by omega
   have HJ := Aside0.mk this
   clear this hj hjk hlt
   go_upto_region 13 with fail
   go_loopg [9, 10] s (fun kx s9 s10 w3 => ∃ (kk z : Nat) (A : Option Addr) (c : Nat) (l : List UInt8), s9 = .slice A kk c ∧ s10 = .int .i64 z ∧ kk + kx = s ∧ z = 64 - 8 * s + 8 * kk ∧ l.length = kk ∧ Aside0 (OwnB w3 w2.heap.size A c l ∧ l = (beN v s).take kk ∧ Below w2.heap.size w2 w3))
   case atStart => exact ⟨0, 64 - 8 * s, none, 0, [], rfl, by congr 1; omega, by omega, by omega, rfl, ⟨World.ownsRow_nil _ _ _ _, rfl, Below.refl _ _⟩⟩
   case round =>
    obtain ⟨kk, z, A, c, l, rfl, rfl, hkk, hz, hll, HT⟩ := hrel
    by_cases hlt : kk < s
    ·have hltz : (z : Int) < 64 := by omega
     have HO := Aside0.mk (octet103 v g (s - 1 - kk) (64 - z) (by omega) wr (room_at HG.out HT.out.2.2))
     have hsl : ∀ W, (Instr.slice 155 (.slice (some ⟨g, 0, none⟩) 64 64) (some (.int .i64 z)) (some (.int .i64 ((z : Int) + 8))) none).run Tryz.prog W = .ok (.slice (some ⟨g, z, none⟩) 8 (64 - z)) W := fun W => slice155 g z (by omega) W
     obtain ⟨b, hb⟩ : ∃ b, b = octN v (s - 1 - kk) := ⟨_, rfl⟩
     have HBB := Aside0.mk hb
     rw [← hb, show 64 - 8 * (s - 1 - kk + 1) = z by omega] at HO
     have HLL := Aside0.mk hll
     have HZ := Aside0.mk (And.intro hz hlt)
     clear hb hll
     obtain ⟨ko, rfl⟩ : ∃ ko, gk = ko + 1 := ⟨gk - 1, by omega⟩
     have HK := Aside0.mk hkk
     clear hz hlt hkk
     go_wp2_with (first | (go_at_call 103; refine HO.out.mono ?_; rintro e w' ⟨rfl, rfl⟩) | ((with_reducible refine at_bslice 67 (.tmp 43) ?_); refine wpList_pushB rfl rfl (.tmp 43) (.tmp 37) (.tmp 44) rfl rfl b rfl w2.heap.size A c _ l HT.out.1 rfl HLL.out rfl (by have h9 := HZ.out.2; rw [HLL.out]; omega) HT.out.2.2.size ?_; intro A' c' w5 h1 h2 h3))
     have HO5 := Aside0.mk h1
     have HB5 := Aside0.mk (And.intro h2 h3)
     clear h1 h2 h3
     go_wp2_with fail
     go_roundg ko
     case measure => omega
     case rel =>
      refine ⟨kk + 1, z + 8, A', c', l ++ [b], rfl, by go_num, by have := HK.out; omega, by have := HZ.out.1; omega, by rw [List.length_append, HLL.out]; rfl, ⟨HO5.out, ?_, HT.out.2.2.trans HB5.out.1⟩⟩
      rw [HT.out.2.1, HBB.out, List.take_add_one, beN_at v s kk HZ.out.2]
      rfl
    ·have hltz : ¬ (z : Int) < 64 := by omega
     have : kk = s := by omega
     subst this
     have hl : l = beN v kk := by rw [HT.out.2.1, List.take_of_length_le (by rw [beN_len]; exact Nat.le_refl _)]
     have HBB := Aside0.mk (below_step HB.out HT.out.2.2)
     obtain ⟨v9, ps, g1, ⟨inner, g2, g3⟩, g4, g5, g6⟩ := HW.out.below HBB.out
     obtain ⟨A9, c9, rfl⟩ := own_slice g2
     have hsz9 := HW.out.size
     have HA := Aside0.mk (And.intro g1 (And.intro g2 (And.intro g3 (And.intro g4 (And.intro g5 (And.intro g6 hsz9))))))
     have HLL := Aside0.mk (And.intro hl hll)
     have HS9 := Aside0.mk (Nat.le_trans hsz9 HBB.out.size)
     obtain ⟨n9, hn9⟩ : ∃ n9, n9 = ps.length := ⟨_, rfl⟩
     have HN := Aside0.mk hn9
     have c1 : wr.cell? ⟨rw, 0, none⟩ = some (.slice A9 n9 c9) := by rw [hn9, cell_of_heap g1]; rfl
     have HK8 := Aside0.mk (show ∀ w7 w8 : World, Below wr.heap.size wr w7 → w7.grownBy w8 (Value.slice A9 n9 c9).ownBlock → w8.heap[rw]? = some (.cells #[.slice A9 n9 c9] 154 (0, 0)) by
      intro w7 w8 h0 h2
      have hr := room_at g1 h0
      rw [hn9] at h2 ⊢
      exact (h2.block rw (Array.getElem?_eq_some_iff.1 hr).1 (own_ne (pw_own_below g2 h0) hr (by decide))).trans hr)
     clear g1 g2 g3 g4 g5 g6 hsz9 hn9 hz hl hll hkk hlt
     go_wp2_with ((with_reducible refine at_bslice 152 (.tmp 51) ?_); refine wpList_pushS rfl rfl (.tmp 51) (.tmp 50) (.tmp 52) rfl rfl A kk c rfl _ A9 c9 n9 inner (by rw [HN.out]; exact HA.out.2.1) rfl rfl (by have h8 := HV.out.2; have h9 := HA.out.2.2.2.2.1; rw [HN.out]; omega) HS9.out ?_; intro A' c' w7 w8 h0 h1 h2; have hq8 := HK8.out w7 w8 h0 h2; have c8 : w8.cell? ⟨rw, 0, none⟩ = some (.slice A9 n9 c9) := (cell_of_heap hq8).trans rfl; have f8 : w8.frozen? ⟨rw, 0, none⟩ = false := frozen_of_heap hq8; have HQ8 := Aside0.mk (And.intro h0 (And.intro h1 h2)); clear h0 h1 h2 hq8)
     go_wp2_with fail
     go_ret
     have h0 := HQ8.out.1
     have h1 := HQ8.out.2.1
     have h2 := HQ8.out.2.2
     have hg1 := room_at HA.out.1 h0
     rw [HN.out] at h1 h2 ⊢
     have hp : OwnB w7 base A c l := OwnB.below (own_weaken HT.out.1 (Nat.le_trans HA.out.2.2.2.2.2.2 HB.out.size)) h0
     have h1' := h1
     obtain ⟨r1, r2, r3⟩ := rwr_push (p := l) ((HBB.out.mono HA.out.2.2.2.2.2.2).trans (h0.mono HS9.out)) ((KeptT.below HBB.out).trans (KeptT.below h0)) hg1 (pw_own_below HA.out.2.1 h0) (HA.out.2.2.1.imp_ (fun p c hp => hp.below h0)) hp HA.out.2.2.2.1 HA.out.2.2.2.2.1 HA.out.2.2.2.2.2.1 (Nat.le_trans HS9.out h0.size) (by rw [HLL.out.2]; exact h1) h2
     rw [← HLL.out.1]
     exact ⟨rfl, r1, r2, r3⟩
end Go.Proofs.YthnpiimiimiijaaGreatDoor.Dir
end
section
namespace Go.Proofs.YthnpiimiimiijaaGreatDoor.Dir
open Go Go.RowKit Go.Proofs Go.Proofs.YthnpiimiimiijaaGreatDoorW.PrintWords Go.Proofs.YthnpiimiimiijaaGreatDoorW.PrintLast Go.Proofs.YthnpiimiimiijaaGreatDoorW.PrintMore
set_option linter.unusedVariables false
set_option linter.unusedSimpArgs false
set_option maxHeartbeats 4000000 in
set_option maxRecDepth 100000 in
theorem octets64 (base rw : Nat) (xs ys : List UInt8) (k : Nat) (A2 : Option Addr) (c2 : Nat) (w : World) (h : RWr w base rw xs k) (hs : ∀ w', Below base w w' → KeptT [67, 154] w w' → SrcAt w' A2 ys.length 1 (ys.map byteV)) (hy : ys.length ≤ 65535) (hk : k ≤ 100000000000) :
  Calls Tryz.prog 64 #[.pointer (some ⟨rw, 0, none⟩), .slice A2 ys.length c2] w fun e w' => RWrEnd w w' base rw (xs ++ beN ys.length 2 ++ ys) (k + 2) e := by
 have hput := Aside0.mk (put62 base rw xs k ys.length 2 w h (by omega) (by decide) (by decide) (by omega) (by omega))
 have HS := Aside0.mk hs
 have HL := Aside0.mk (And.intro hy hk)
 clear h hs hy hk
 go_enter Tryz.func64, Tryz.ntmps64
 go_upto_region 2 with (go_at_call 62; refine hput.out.mono ?_; rintro e w2 ⟨rfl, h2, hb2, hk2⟩)
 have HB := Aside0.mk (And.intro hb2 hk2)
 have hby := Aside0.mk (bytes63 base rw _ ys (k + 1) A2 c2 w2 h2 (HS.out w2 hb2 hk2) (by have := HL.out; omega) (by have := HL.out; omega))
 clear h2 hb2 hk2
 go_wp2_with (go_at_call 63; refine hby.out.mono ?_; rintro e w3 ⟨rfl, h3, hb3, hk3⟩)
 go_ret
 exact ⟨rfl, h3, HB.out.1.trans hb3, HB.out.2.trans hk3⟩
end Go.Proofs.YthnpiimiimiijaaGreatDoor.Dir
end
section
namespace Go.Proofs.YthnpiimiimiijaaGreatDoor.Dir
open Go Go.RowKit Go.Proofs Go.Proofs.YthnpiimiimiijaaGreatDoorW.PrintWords Go.Proofs.YthnpiimiimiijaaGreatDoorW.PrintLast Go.Proofs.YthnpiimiimiijaaGreatDoorW.PrintMore
set_option linter.unusedVariables false
set_option linter.unusedSimpArgs false
theorem len_flat_take (ps : List (List UInt8)) (j : Nat) : (ps.take j).flatten.length ≤ ps.flatten.length := by
 have := congrArg (fun l => (List.flatten l).length) (List.take_append_drop j ps)
 simp only [List.flatten_append, List.length_append] at this
 omega
set_option maxHeartbeats 4000000 in
set_option maxRecDepth 100000 in
theorem out65 (base rw : Nat) (xs : List UInt8) (k : Nat) (w : World) (h : RWr w base rw xs k) (hl : xs.length ≤ 140737488355328) (hk : k ≤ 100000000000) :
  Calls Tryz.prog 65 #[.pointer (some ⟨rw, 0, none⟩)] w fun e w' => OutEnd w w' xs e := by
 obtain ⟨v, ps, h1, ⟨inner, h2, h2r⟩, h3, h4, h5⟩ := h
 obtain ⟨A, c, rfl⟩ := own_slice h2
 obtain ⟨n, hn⟩ : ∃ n, n = ps.length := ⟨_, rfl⟩
 have HA := Aside0.mk (And.intro h1 (And.intro h2 (And.intro h2r (And.intro h3 (And.intro h4 hn)))))
 have HL := Aside0.mk (And.intro hl hk)
 have c0 : w.cell? ⟨rw, 0, none⟩ = some (.slice A n c) := by rw [hn]; exact (cell_of_heap h1).trans rfl
 have HC := Aside0.mk c0
 have hnb : n ≤ 100000000000 := by omega
 clear h1 h2 h2r h3 h4 h5 hn hl hk c0
 go_enter Tryz.func65, Tryz.ntmps65
 go_upto_region 3 with fail
 go_loopg [3, 4] n (fun kx s3 s4 wr => ∃ (kk m : Nat) (A3 : Option Addr) (c3 : Nat) (l : List UInt8), s3 = .slice A3 m c3 ∧ s4 = .int .i64 kk ∧ kk + kx = n ∧ l.length = m ∧ Aside0 (OwnB wr w.heap.size A3 c3 l ∧ l = (ps.take kk).flatten ∧ Below w.heap.size w wr))
 case atStart => exact ⟨0, 0, none, 0, [], rfl, rfl, by omega, rfl, ⟨World.ownsRow_nil _ _ _ _, rfl, Below.refl _ _⟩⟩
 case round =>
  obtain ⟨kk, m, A3, c3, l, rfl, rfl, hkk, hm, HT⟩ := hrel
  have c1 : wr.cell? ⟨rw, 0, none⟩ = some (.slice A n c) := pw_cell_below HT.out.2.2 HC.out
  by_cases hlt : kk < n
  ·have hltz : (kk : Int) < (n : Int) := by omega
   obtain ⟨p, hp⟩ : ∃ p, ps[kk]? = some p := ⟨_, List.getElem?_eq_getElem (by have := HA.out.2.2.2.2.2; omega)⟩
   obtain ⟨Ap, cp, hcs, hop⟩ := HA.out.2.2.1.2 kk p hp
   have hin : inner[kk]? = some (.slice Ap p.length cp) := by
    have := congrArg (fun l => l[0]?) hcs
    simpa using this
   obtain ⟨g, rfl⟩ := owned_at HA.out.2.1 (by have := HA.out.2.2.2.2.2; omega)
   have c2 : wr.cell? ⟨g, kk, none⟩ = some (.slice Ap p.length cp) := row_cell HA.out.2.1 HT.out.2.2 hin
   have HP := Aside0.mk (And.intro hp hop)
   have hlen : l.length + p.length ≤ xs.length := by
    have h1 := len_flat_take ps (kk + 1)
    rw [List.take_add_one, hp, List.flatten_append, List.length_append, ← HT.out.2.1, HA.out.2.2.2.1] at h1
    simpa using h1
   have HM := Aside0.mk (And.intro hlen hm)
   obtain ⟨q, hq⟩ : ∃ q, q = p.length := ⟨_, rfl⟩
   rw [← hq] at c2
   have HQ := Aside0.mk hq
   clear hp hop hcs hin hlen hm hq
   obtain ⟨ko, rfl⟩ : ∃ ko, gk = ko + 1 := ⟨gk - 1, by omega⟩
   have HK := Aside0.mk hkk
   go_wp2_with (at_builtin; refine wpList_app rfl (.tmp 14) (.tmp 21) appB rfl w.heap.size m c3 q cp A3 Ap (l.map byteV) (p.map byteV) rfl (by have h := HT.out.1; rw [OwnB, HM.out.2] at h; exact h) rfl (by rw [HQ.out]; exact SrcAt.grown (OwnB.src HP.out.2) HT.out.2.2) (bytes_one _) (by have h1 := HM.out; have h2 := HL.out.1; rw [HQ.out]; omega) (by have h1 := HM.out; have h2 := HL.out.1; rw [HQ.out]; unfold maxLen; omega) HT.out.2.2.size ?_; intro A' c' w5 h1 h2)
   have HO5 := Aside0.mk (And.intro h1 h2)
   clear h1 h2
   go_wp2_with fail
   go_roundg ko
   case measure => omega
   case rel =>
    have e : (l ++ p).length = m + q := by rw [List.length_append, HM.out.2, HQ.out]
    have ho : OwnB wr w.heap.size A3 c3 l := HT.out.1
    refine ⟨kk + 1, m + q, A', c', l ++ p, rfl, by go_num, by have := HK.out; omega, e, ⟨?_, ?_, ?_⟩⟩
    ·unfold OwnB
     rw [e, List.map_append]
     exact HO5.out.1
    ·rw [List.take_add_one, HP.out.1, List.flatten_append, ← HT.out.2.1]
     simp
    ·exact HT.out.2.2.trans (below_own ho (by rw [HM.out.2]; exact HO5.out.2) HT.out.2.2.size)
  ·have hltz : ¬ (kk : Int) < (n : Int) := by omega
   have hk : kk = ps.length := by have := HA.out.2.2.2.2.2; omega
   have HE := Aside0.mk (show OutEnd w wr xs (.returned (.slice A3 m c3)) from ⟨A3, c3, by rw [← HA.out.2.2.2.1, ← hm, HT.out.2.1, hk, List.take_length], by
    have h1 := HT.out.1
    rw [HT.out.2.1, hk, List.take_length, HA.out.2.2.2.1] at h1
    exact h1, HT.out.2.2⟩)
   go_wp2_with fail
   go_ret
   exact HE.out
end Go.Proofs.YthnpiimiimiijaaGreatDoor.Dir
end
section
namespace Go.Proofs.YthnpiimiimiijaaGreatDoor.Dir
open Go Go.RowKit Go.Proofs Go.Proofs.YthnpiimiimiijaaGreatDoorW.PrintWords Go.Proofs.YthnpiimiimiijaaGreatDoorW.PrintLast Go.Proofs.YthnpiimiimiijaaGreatDoorW.PrintMore
set_option linter.unusedVariables false
set_option linter.unusedSimpArgs false
/-- A device's bytes; a book's. -/
def devB (d : Dev) : List UInt8 := beN d.node.toNat 1 ++ d.key.1 ++ beN d.exp.toNat 7 ++ beN (if d.rev then 1 else 0) 1
def headB (B : Book) : List UInt8 := beN B.ver.toNat 7 ++ beN B.clock.toNat 7 ++ beN B.devs.length 1
def devsB (l : List Dev) : List UInt8 := l.flatMap devB
def keysB (l : List Key) : List UInt8 := l.flatMap (fun k => k.1)
def midB (B : Book) : List UInt8 := headB B ++ devsB B.devs ++ beN B.spent.length 1
def bytesB (B : Book) : List UInt8 := midB B ++ keysB B.spent ++ beN B.acl.length 2 ++ B.acl
theorem devB_len (d : Dev) : (devB d).length = 41 := by simp [devB, beN_len, d.key.2]
theorem headB_len (B : Book) : (headB B).length = 15 := by simp [headB, beN_len]
theorem devsB_len : ∀ l : List Dev, (devsB l).length = 41 * l.length
 | [] => rfl
 | d :: l => by
  have := devsB_len l
  unfold devsB at this ⊢
  rw [List.flatMap_cons, List.length_append, this, devB_len, List.length_cons]
  omega
theorem keysB_len : ∀ l : List Key, (keysB l).length = 32 * l.length
 | [] => rfl
 | d :: l => by
  have := keysB_len l
  unfold keysB at this ⊢
  rw [List.flatMap_cons, List.length_append, this, d.2, List.length_cons]
  omega
theorem devsB_next {l : List Dev} {j : Nat} {d : Dev} (h : l[j]? = some d) : devsB (l.take (j + 1)) = devsB (l.take j) ++ devB d := by
 unfold devsB
 rw [List.take_add_one, h, List.flatMap_append]
 simp
theorem keysB_next {l : List Key} {j : Nat} {d : Key} (h : l[j]? = some d) : keysB (l.take (j + 1)) = keysB (l.take j) ++ d.1 := by
 unfold keysB
 rw [List.take_add_one, h, List.flatMap_append]
 simp
theorem sizeK : (Tryz.prog.info? 34).map (·.size) = some 32 := by kernel_rfl
theorem acl_short {t : List UInt8} (h : rulesOf t = 0) : t.length ≤ 1024 := by
 unfold rulesOf Acl.parseOf at h
 by_cases hl : t.length > 1024
 ·rw [if_pos hl] at h; cases h
 ·omega
/-- What Bytes answers. -/
def BytesEnd (w w' : World) (B : Book) (e : Ending) : Prop :=
 (∃ A c, e = .returned (.tuple #[.slice A (bytesB B).length c, .int .i64 0]) ∧ OwnB w' w.heap.size A c (bytesB B) ∧ MayB B) ∨ (e = .returned (.tuple #[.slice none 0 0, .int .i64 2]) ∧ ¬ MayB B)
/-- '[]byte(s)'. -/
theorem conv67 (s : List UInt8) (W : World) : ∃ c W', (convert 9 67 (.string (str s))).run Tryz.prog W = .ok (.slice (some ⟨W.heap.size, 0, none⟩) s.length c) W' ∧ Below W.heap.size W W' ∧ (∃ (cs : Array Value) (fr : Nat × Nat), W'.heap[W.heap.size]? = some (.cells cs 5 fr) ∧ ∀ (j : Nat) (u : Value), (s.map byteV)[j]? = some u → cs[j]? = some u) ∧ W.heap.size < W'.heap.size := by
 obtain ⟨cp, hcp⟩ : ∃ cp, cp = grownCap W (str s).size 0 5 := ⟨_, rfl⟩
 have hr := run_bytes_of_string W 9 67 5 (str s) Tryz.underlying9 Tryz.underlying67 Tryz.underlying5
 rw [← hcp] at hr
 refine ⟨cp, _, hr, ((Below.refl _ W).drew).alloc (Nat.le_refl _) _, ⟨bytesRow (str s) cp, ((bytesRow (str s) cp).size, (bytesRow (str s) cp).size + 1), heap_alloc_new W.drew _, ?_⟩, by simp [World.alloc]⟩
 intro j u hj
 have hl : j < s.length := by have := (List.getElem?_eq_some_iff.1 hj).1; simpa using this
 unfold bytesRow
 rw [Array.getElem?_append_left (by simp [str]; exact hl)]
 simp [str] at hj ⊢
 obtain ⟨b, hb, rfl⟩ := hj
 exact ⟨b, hb, rfl⟩
theorem src_cells {W : World} {p : Nat} {cs : Array Value} {T : TypeId} {fr : Nat × Nat} (h : W.heap[p]? = some (.cells cs T fr)) (o n : Nat) (xs : List Value) (hn : xs.length = n) (hx : ∀ j u, xs[j]? = some u → cs[o + j]? = some u) : SrcAt W (some ⟨p, o, none⟩) n 1 xs :=
 ⟨by omega, fun e => (by cases e), fun a ha j u hj => (by cases ha; rw [add_at, cell_of_heap h, Array.getElem?_toList]; exact hx j u hj)⟩
theorem dev_key {d : Dev} {j : Nat} {u : Value} (h : (d.key.1.map byteV)[j]? = some u) : (encD d).toArray[1 + j]? = some u := by
 have hl : j < (encK d.key).length := (List.getElem?_eq_some_iff.1 h).1
 rw [List.getElem?_toArray, Nat.add_comm]
 show (encK d.key ++ [.int .i64 d.exp, .bool d.rev])[j]? = _
 rw [List.getElem?_append_left hl]
 exact h
set_option maxHeartbeats 8000000 in
set_option maxRecDepth 100000 in
theorem bytes_any (B : Book) (A1 : Option Addr) (c1 : Nat) (A2 : Option Addr) (c2 : Nat) (w : World) (h : SrcB w B A1 A2) (hbare : Bare A1) (hx : PA.LaidW w) :
  Calls Tryz.prog 29 #[.agg (bookCells B A1 c1 A2 c2).toArray] w fun e w' => BytesEnd w w' B e ∧ Below w.heap.size w w' := by
 have hI := InB.start (c1 := c1) (c2 := c2) h
 obtain ⟨W0, hW0⟩ : ∃ W0, W0 = w.alloc (.cells (bookCells B A1 c1 A2 c2).toArray 43) := ⟨_, rfl⟩
 obtain ⟨p, hp⟩ : ∃ p, p = w.heap.size := ⟨_, rfl⟩
 rw [← hW0, ← hp] at hI
 have HI := Aside0.mk hI
 have hck := Aside0.mk (check_any B A1 c1 A2 c2 W0 hI.src.devs hI.src.spent hI.src.few hI.src.len hbare (hx.below hI.fr))
 have L1 := Aside0.mk hI.load
 obtain ⟨BA, hBA⟩ : ∃ BA, BA = (bookCells B A1 c1 A2 c2).toArray := ⟨_, rfl⟩
 rw [← hBA] at hW0 hck L1 ⊢
 clear hI h hbare hx hBA
 go_enter Tryz.func29, Tryz.ntmps29
 go_upto_region 1 with fail
 rw [← hW0, ← hp]
 have HEQ := Aside0.mk (And.intro hW0 hp)
 clear hW0 hp
 go_wp2_with ((with_reducible refine at_load 43 (.tmp 1) ?_); refine wpList_loadK rfl 43 (.tmp 1) rfl _ rfl _ L1.out ?_)
 refine hck.out.mono ?_
 rintro e w1 ⟨hce, hb1⟩
 have HB1 := Aside0.mk hb1
 clear hb1 hck L1
 rcases hce with ⟨rfl, hok⟩ | ⟨rfl, hno⟩
 case inr =>
  have HNO := Aside0.mk hno
  clear hno
  go_wp2_with fail
  go_ret2
  exact ⟨.inr ⟨rfl, fun h => HNO.out ((may_ok B).2 h)⟩, below_step HI.out.fr HB1.out⟩
 case inl =>
  have hwf := wf_of_ok hok
  have HM := Aside0.mk ((may_ok B).1 hok)
  have HL := Aside0.mk (And.intro hok.few hok.len)
  have HWF := Aside0.mk hwf
  have HA := Aside0.mk (acl_short hok.acl)
  obtain ⟨vn, hvn⟩ : ∃ vn : Nat, B.ver = vn := ⟨B.ver.toNat, by have := hwf.ver.1; omega⟩
  obtain ⟨cn, hcn⟩ : ∃ cn : Nat, B.clock = cn := ⟨B.clock.toNat, by have := hwf.clock.1; omega⟩
  have HVN := Aside0.mk (show vn ≤ 9007199254740991 ∧ cn ≤ 9007199254740991 by have h1 := hwf.ver.2; have h2 := hwf.clock.2; unfold maxN at h1 h2; omega)
  have HVC := Aside0.mk (And.intro hvn hcn)
  clear hok hwf
  go_upto_region 5 with (go_at_call 56; refine (write56 w1).mono ?_; rintro e w2 ⟨bw, rfl, hw, hb⟩)
  obtain ⟨base, hbase⟩ : ∃ base, base = w1.heap.size := ⟨_, rfl⟩
  rw [← hbase] at hw hb
  have HBS := Aside0.mk (show W0.heap.size ≤ base by rw [hbase]; exact HB1.out.size)
  have B2 := Aside0.mk (HB1.out.trans (hb.mono HBS.out))
  have hk := (HI.out.later B2.out).cells
  obtain ⟨k0, -, -, -, -⟩ := hk
  rw [hvn] at k0
  have hp := Aside0.mk (put57 base bw _ vn 7 w2 hw (by have := HVN.out; omega) (by decide) (by decide) (by have := HVN.out; omega) (by simp))
  clear hw hb hvn hcn
  go_upto_region 6 with (go_at_call 57; refine hp.out.mono ?_; rintro e w3 ⟨rfl, h3, hb3, -, -⟩)
  clear k0 hp
  have B3 := Aside0.mk (B2.out.trans (hb3.mono HBS.out))
  have hk := (HI.out.later B3.out).cells
  obtain ⟨-, k1, -, -, -⟩ := hk
  rw [HVC.out.2] at k1
  have hp := Aside0.mk (put57 base bw _ cn 7 w3 h3 (by have := HVN.out; omega) (by decide) (by decide) (by have := HVN.out; omega) (by simp [beN_len]))
  clear h3 hb3
  go_upto_region 7 with (go_at_call 57; refine hp.out.mono ?_; rintro e w4 ⟨rfl, h4, hb4, -, -⟩)
  clear k1 hp
  have B4 := Aside0.mk (B3.out.trans (hb4.mono HBS.out))
  have hk := (HI.out.later B4.out).cells
  obtain ⟨-, -, k2, -, -⟩ := hk
  have hp := Aside0.mk (put57 base bw _ B.devs.length 1 w4 h4 (by have := HL.out; omega) (by decide) (by decide) (by have := HL.out; omega) (by simp [beN_len]))
  clear h4 hb4
  go_upto_region 8 with (go_at_call 57; refine hp.out.mono ?_; rintro e w5 ⟨rfl, h5, hb5, -, -⟩)
  clear k2 hp
  have B5 := Aside0.mk (B4.out.trans (hb5.mono HBS.out))
  have hk := (HI.out.later B5.out).cells
  obtain ⟨-, -, k2, -, -⟩ := hk
  have H5 := Aside0.mk (show Wr w5 base bw (headB B) by
   have e : [] ++ beN vn 7 ++ beN cn 7 ++ beN B.devs.length 1 = headB B := by
    unfold headB
    rw [HVC.out.1, HVC.out.2]
    simp
   rw [← e]; exact h5)
  clear h5 hb5
  have HBSR := Aside0.mk (show Below w.heap.size w W0 from HI.out.fr)
  go_upto_region 9 with fail
  clear k2
  go_loopg [33] B.devs.length (fun kx s33 wr => ∃ kk : Nat, s33 = .int .i64 kk ∧ kk + kx = B.devs.length ∧ Aside0 (Wr wr base bw (headB B ++ devsB (B.devs.take kk)) ∧ Below W0.heap.size W0 wr))
  case atStart => exact ⟨0, rfl, by omega, ⟨by simpa [devsB] using H5.out, B5.out⟩⟩
  case round =>
   obtain ⟨kk, rfl, hkk, HT⟩ := hrel
   have hL8 := HL.out.1
   by_cases hlt : kk < B.devs.length
   ·have hltz : (kk : Int) < (B.devs.length : Int) := by omega
    obtain ⟨d, hd⟩ : ∃ d, B.devs[kk]? = some d := ⟨_, List.getElem?_eq_getElem hlt⟩
    obtain ⟨g, o, hA1, hc⟩ := HI.out.src.devc hd
    subst hA1
    have hmem := List.mem_of_getElem? hd
    have DL := Aside0.mk (run_loadAtK Tryz.prog wr 46 35 Tryz.isAgg46 Tryz.sizeOf46 g (o + kk * 35) (encD d) (encD_len _) (fun j v hj => hc wr HT.out.2 j v hj))
    have st := Aside0.mk (fun (c : Array Value) (hc : c.size = 35) => run_storeNew Tryz.prog wr 46 35 sizeD c (encD d).toArray hc (by simpa using encD_len d) (by simpa using encD_one d))
    obtain ⟨w6, hw6⟩ : ∃ w6, w6 = wr.alloc (.cells (encD d).toArray 46) := ⟨_, rfl⟩
    obtain ⟨nb, hnb⟩ : ∃ nb, nb = wr.heap.size := ⟨_, rfl⟩
    have hd6 : w6.heap[nb]? = some (.cells (encD d).toArray 46 (0, 0)) := by rw [hw6, hnb]; exact heap_alloc_new wr _
    have B6 := Aside0.mk (show Below W0.heap.size W0 w6 by rw [hw6]; exact HT.out.2.alloc HT.out.2.size _)
    have h6 : Wr w6 base bw (headB B ++ devsB (B.devs.take kk)) := by rw [hw6]; exact HT.out.1.below ((Below.refl _ wr).alloc (Nat.le_refl _) _)
    obtain ⟨dn, hdn⟩ : ∃ dn : Nat, d.node = dn := ⟨d.node.toNat, by have := HWF.out.nodes d hmem; omega⟩
    obtain ⟨de, hde⟩ : ∃ de : Nat, d.exp = de := ⟨d.exp.toNat, by have := HWF.out.exps d hmem; omega⟩
    have HDN := Aside0.mk (show dn ≤ 8 ∧ de ≤ 9007199254740991 by have h1 := HWF.out.nodes d hmem; have h2 := HWF.out.exps d hmem; unfold maxN at h2; omega)
    have HDE := Aside0.mk (And.intro hdn hde)
    have HLN := Aside0.mk (show (headB B ++ devsB (B.devs.take kk)).length ≤ 15 + 41 * 8 by rw [List.length_append, headB_len, devsB_len, List.length_take]; omega)
    have HNXT := Aside0.mk (devsB_next hd)
    have y0 : w6.cell? ⟨nb, 0, none⟩ = some (.int .i64 dn) := by rw [cell_of_heap hd6, ← hdn]; rfl
    have HD6 := Aside0.mk hd6
    obtain ⟨DA, hDA⟩ : ∃ DA, DA = (encD d).toArray := ⟨_, rfl⟩
    rw [← hDA] at DL st hw6
    have HDK := Aside0.mk hd
    have HKK := Aside0.mk hkk
    obtain ⟨ko, rfl⟩ : ∃ ko, gk = ko + 1 := ⟨gk - 1, by omega⟩
    have hp := Aside0.mk (put57 base bw _ dn 1 w6 h6 (by have := HDN.out; omega) (by decide) (by decide) (by have := HDN.out; omega) (by have := HLN.out; omega))
    clear hd hd6 hDA hc hmem hdn hde h6 hkk
    go_upto_region 11 with (first | ((with_reducible refine at_load 46 (.tmp 35) ?_); refine wpList_loadK rfl 46 (.tmp 35) rfl _ rfl _ DL.out ?_) | ((with_reducible refine at_store 46 (.tmp 7) (.tmp 36) ?_); refine wpList_storeK rfl 46 (.tmp 7) (.tmp 36) rfl rfl _ _ rfl rfl _ (st.out _ rfl) ?_))
    rw [← hw6, ← hnb]
    clear hw6 hnb DL st hltz
    go_upto_region 12 with (go_at_call 57; refine hp.out.mono ?_; rintro e w7 ⟨rfl, h7, hb7, hk7, -⟩)
    clear y0 hp
    have hd7 := hk7 nb _ 46 (0, 0) HD6.out (by decide)
    have B7 := Aside0.mk (B6.out.trans (hb7.mono HBS.out))
    have hp : Aside0 (Calls Tryz.prog 58 #[.pointer (some ⟨bw, 0, none⟩), .slice (some ⟨nb, 1, none⟩) 32 32] w7 fun e w' => WrEnd w7 w' base bw (headB B ++ devsB (B.devs.take kk) ++ beN dn 1 ++ d.key.1) e) := ⟨by
     have := bytes58 base bw (headB B ++ devsB (B.devs.take kk) ++ beN dn 1) d.key.1 (some ⟨nb, 1, none⟩) 32 w7 h7 (src_cells hd7 1 _ _ (by simp) (fun j u hj => dev_key hj)) (by rw [List.length_append, beN_len, d.key.2]; have := HLN.out; omega)
     rw [d.key.2] at this
     exact this⟩
    have HD7 := Aside0.mk hd7
    clear hk7 hd7 h7 hb7
    go_upto_region 13 with (go_at_call 58; refine hp.out.mono ?_; rintro e w8 ⟨rfl, h8, hb8, hk8, -⟩)
    clear hp
    have hd8 := hk8 nb _ 46 (0, 0) HD7.out (by decide)
    have B8 := Aside0.mk (B7.out.trans (hb8.mono HBS.out))
    have y3 : w8.cell? ⟨nb, 33, none⟩ = some (.int .i64 de) := by rw [cell_of_heap hd8, ← HDE.out.2]; exact expOfD d
    have hp := Aside0.mk (put57 base bw _ de 7 w8 h8 (by have := HDN.out; omega) (by decide) (by decide) (by have := HDN.out; omega) (by rw [List.length_append, List.length_append, beN_len, d.key.2]; have := HLN.out; omega))
    have HD8 := Aside0.mk hd8
    clear hk8 hd8 h8 hb8
    go_upto_region 14 with (go_at_call 57; refine hp.out.mono ?_; rintro e w9 ⟨rfl, h9, hb9, hk9, -⟩)
    clear y3 hp
    have hd9 := hk9 nb _ 46 (0, 0) HD8.out (by decide)
    have B9 := Aside0.mk (B8.out.trans (hb9.mono HBS.out))
    obtain ⟨rv, hrv⟩ : ∃ rv, rv = d.rev := ⟨_, rfl⟩
    have y4 : w9.cell? ⟨nb, 34, none⟩ = some (.bool rv) := by rw [cell_of_heap hd9, hrv]; exact revOfD d
    have hp := Aside0.mk (put57 base bw _ (if rv then 1 else 0) 1 w9 h9 (by split <;> omega) (by decide) (by decide) (by split <;> omega) (by rw [List.length_append, List.length_append, List.length_append, beN_len, beN_len, d.key.2]; have := HLN.out; omega))
    have HRV := Aside0.mk hrv
    clear hk9 hd9 h9 hb9 hrv
    cases rv
    all_goals
     first | rw [if_neg (by decide)] at hp | rw [if_pos rfl] at hp
     go_wp2_with (go_at_call 57; refine hp.out.mono ?_; rintro e w10 ⟨rfl, h10, hb10, -, -⟩)
     have H10 := Aside0.mk h10
     have B10 := Aside0.mk (B9.out.trans (hb10.mono HBS.out))
     clear h10 hb10 hp y4
     go_wp2_with fail
     go_roundg ko
     case measure => have := HKK.out; omega
     case rel =>
      refine ⟨kk + 1, by go_num, by have := HKK.out; omega, ⟨?_, B10.out⟩⟩
      have e := H10.out
      rw [HNXT.out, ← List.append_assoc]
      unfold devB
      rw [HDE.out.1, HDE.out.2, ← HRV.out]
      simpa using e
   ·have hltz : ¬ (kk : Int) < (B.devs.length : Int) := by omega
    have : kk = B.devs.length := by omega
    subst this
    have hk := (HI.out.later HT.out.2).cells
    obtain ⟨-, -, -, k3, -⟩ := hk
    have hp := Aside0.mk (put57 base bw _ B.spent.length 1 wr HT.out.1 (by have := HL.out; omega) (by decide) (by decide) (by have := HL.out; omega) (by rw [List.take_length, List.length_append, headB_len, devsB_len]; omega))
    clear hlt hkk
    go_upto_region 20 with (go_at_call 57; refine hp.out.mono ?_; rintro e x1 ⟨rfl, h1, hb1, -, -⟩)
    clear hp k3
    have HX1 := Aside0.mk (show Wr x1 base bw (midB B) by rw [List.take_length] at h1; exact h1)
    have X1 := Aside0.mk (HT.out.2.trans (hb1.mono HBS.out))
    have hk := (HI.out.later X1.out).cells
    obtain ⟨-, -, -, k3, -⟩ := hk
    clear h1 hb1 hltz
    have HMID := Aside0.mk (show (midB B).length ≤ 15 + 41 * 8 + 1 by unfold midB; rw [List.length_append, List.length_append, headB_len, devsB_len, beN_len]; omega)
    go_upto_region 21 with fail
    clear k3
    go_loopg [63] B.spent.length (fun kx s63 wr => ∃ kk : Nat, s63 = .int .i64 kk ∧ kk + kx = B.spent.length ∧ Aside0 (Wr wr base bw (midB B ++ keysB (B.spent.take kk)) ∧ Below W0.heap.size W0 wr))
    case atStart => exact ⟨0, rfl, by omega, ⟨by simpa [keysB] using HX1.out, X1.out⟩⟩
    case round =>
     obtain ⟨kk, rfl, hkk, HU⟩ := hrel
     have hL9 := HL.out.2
     by_cases hlt : kk < B.spent.length
     ·have hltz : (kk : Int) < (B.spent.length : Int) := by omega
      obtain ⟨d, hd⟩ : ∃ d, B.spent[kk]? = some d := ⟨_, List.getElem?_eq_getElem hlt⟩
      obtain ⟨g, o, hA2, hc⟩ := HI.out.src.key hd
      subst hA2
      have DL := Aside0.mk (hc wr HU.out.2)
      have st := Aside0.mk (fun (c : Array Value) (hc : c.size = 32) => run_storeNew Tryz.prog wr 34 32 sizeK c (encK d).toArray hc (by simpa using encK_len d) (by simpa using encK_one d))
      obtain ⟨w6, hw6⟩ : ∃ w6, w6 = wr.alloc (.cells (encK d).toArray 34) := ⟨_, rfl⟩
      obtain ⟨nb, hnb⟩ : ∃ nb, nb = wr.heap.size := ⟨_, rfl⟩
      have hd6 : w6.heap[nb]? = some (.cells (encK d).toArray 34 (0, 0)) := by rw [hw6, hnb]; exact heap_alloc_new wr _
      have B6 := Aside0.mk (show Below W0.heap.size W0 w6 by rw [hw6]; exact HU.out.2.alloc HU.out.2.size _)
      have h6 : Wr w6 base bw (midB B ++ keysB (B.spent.take kk)) := by rw [hw6]; exact HU.out.1.below ((Below.refl _ wr).alloc (Nat.le_refl _) _)
      have HLN := Aside0.mk (show (midB B ++ keysB (B.spent.take kk)).length ≤ 344 + 32 * 64 by rw [List.length_append, keysB_len, List.length_take]; have := HMID.out; omega)
      have HNXT := Aside0.mk (keysB_next hd)
      have hp : Aside0 (Calls Tryz.prog 58 #[.pointer (some ⟨bw, 0, none⟩), .slice (some ⟨nb, 0, none⟩) 32 32] w6 fun e w' => WrEnd w6 w' base bw (midB B ++ keysB (B.spent.take kk) ++ d.1) e) := ⟨by
       have := bytes58 base bw (midB B ++ keysB (B.spent.take kk)) d.1 (some ⟨nb, 0, none⟩) 32 w6 h6 (src_cells hd6 0 _ _ (by simp) (fun j u hj => by rw [Nat.zero_add, List.getElem?_toArray]; exact hj)) (by rw [d.2]; have := HLN.out; omega)
       rw [d.2] at this
       exact this⟩
      obtain ⟨DA, hDA⟩ : ∃ DA, DA = (encK d).toArray := ⟨_, rfl⟩
      rw [← hDA] at DL st hw6
      have HKK := Aside0.mk hkk
      obtain ⟨ko, rfl⟩ : ∃ ko, gk = ko + 1 := ⟨gk - 1, by omega⟩
      clear hd hd6 hDA hc h6 hkk
      go_upto_region 23 with (first | ((with_reducible refine at_load 34 (.tmp 65) ?_); refine wpList_loadK rfl 34 (.tmp 65) rfl _ rfl _ DL.out ?_) | ((with_reducible refine at_store 34 (.tmp 10) (.tmp 66) ?_); refine wpList_storeK rfl 34 (.tmp 10) (.tmp 66) rfl rfl _ _ rfl rfl _ (st.out _ rfl) ?_))
      rw [← hw6, ← hnb]
      clear hw6 hnb DL st hltz
      go_wp2_with (go_at_call 58; refine hp.out.mono ?_; rintro e w7 ⟨rfl, h7, hb7, -, -⟩)
      have H7 := Aside0.mk h7
      have B7 := Aside0.mk (B6.out.trans (hb7.mono HBS.out))
      clear h7 hb7 hp
      go_wp2_with fail
      go_roundg ko
      case measure => have := HKK.out; omega
      case rel =>
       refine ⟨kk + 1, by go_num, by have := HKK.out; omega, ⟨?_, B7.out⟩⟩
       rw [HNXT.out, ← List.append_assoc]
       exact H7.out
     ·have hltz : ¬ (kk : Int) < (B.spent.length : Int) := by omega
      have : kk = B.spent.length := by omega
      subst this
      have hk := (HI.out.later HU.out.2).cells
      obtain ⟨-, -, -, -, k4⟩ := hk
      have hu := HU.out.1
      rw [List.take_length] at hu
      obtain ⟨cv, wv, hcv, hbv, ⟨cs, fr, hrow, hcells⟩, hsz⟩ := conv67 B.acl wr
      have HU2 := Aside0.mk hu
      have hal := HA.out
      have hp := Aside0.mk (octets59 base bw (midB B ++ keysB B.spent) B.acl (some ⟨wr.heap.size, 0, none⟩) cv wv (hu.below hbv) (fun w' _ hks => by
       have := hks wr.heap.size (hu.lt hbv) wr.heap.size (Nat.le_refl _) hsz
       exact src_cells (this.trans hrow) 0 _ _ (by simp) (fun j u hj => by rw [Nat.zero_add]; exact hcells j u hj)) (by omega) (by rw [List.length_append, keysB_len]; have := HMID.out; omega))
      have BV := Aside0.mk (below_step HU.out.2 hbv)
      clear hu hrow hcells hbv hsz hlt hkk
      go_upto_region 26 with (go_at_call 59; refine hp.out.mono ?_; rintro e x3 ⟨rfl, h3, hb3⟩)
      have X3 := Aside0.mk (BV.out.trans (hb3.mono HBS.out))
      have hbl : (bytesB B).length ≤ 10000 := by
       unfold bytesB
       rw [List.length_append, List.length_append, List.length_append, keysB_len, beN_len]
       have := HMID.out
       have := HA.out
       omega
      have hp := Aside0.mk (out60 base bw (bytesB B) x3 h3 (by omega))
      clear h3 hb3 hbl k4 hcv
      go_wp2_with (go_at_call 60; refine hp.out.mono ?_; intro e x4 h5; obtain ⟨A, c, rfl, ho, hb⟩ := h5)
      go_ret2
      exact ⟨.inl ⟨A, c, rfl, own_weaken ho (Nat.le_trans HBSR.out.size X3.out.size), HM.out⟩, below_step HBSR.out (below_step X3.out hb)⟩
end Go.Proofs.YthnpiimiimiijaaGreatDoor.Dir
end
