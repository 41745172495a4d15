/- Values that are built: a slice of one value of many cells, a device. -/
import Derived.Test.YthnpiimiimiijaaGreatDoorKk2
import Derived.Test.YthnpiimiimiijaaGreatDoorKk5
section
namespace Go.Proofs.YthnpiimiimiijaaGreatDoor.Dir
open Go Go.RowKit Go.Proofs Go.Proofs.YthnpiimiimiijaaGreatDoorW.PrintWords Go.Proofs.YthnpiimiimiijaaGreatDoorW.PrintLast Go.Proofs.YthnpiimiimiijaaGreatDoorW.PrintMore
set_option linter.unusedVariables false
set_option linter.unusedSimpArgs false
section
variable {P : Program} {ops : Array Oper} {Q : Exit → Act → World → Prop} {rest : List Oper} {a : Act} {w : World} {dst : Option Tmp} {ty : TypeId} {pos : String} {after : Array Edge} {g : Option (Nat × Bool)}
theorem at_load (t : TypeId) (x : Operand) (h : wpList P ops Q (⟨dst, .load t x, ty, pos, after, g⟩ :: rest) a w) : wpList P ops Q (⟨dst, .load t x, ty, pos, after, g⟩ :: rest) a w := h
theorem at_store (t : TypeId) (x y : Operand) (h : wpList P ops Q (⟨dst, .store t x y, ty, pos, after, g⟩ :: rest) a w) : wpList P ops Q (⟨dst, .store t x y, ty, pos, after, g⟩ :: rest) a w := h
theorem at_bslice (t : TypeId) (x : Operand) (h : wpList P ops Q (⟨dst, .buildSlice t 1 #[(0, x)], ty, pos, after, g⟩ :: rest) a w) : wpList P ops Q (⟨dst, .buildSlice t 1 #[(0, x)], ty, pos, after, g⟩ :: rest) a w := h
end
theorem foldl_set (off : Nat) : ∀ (cs : List Value) (s : Nat) (cells : Array Value), off + s + cs.length ≤ cells.size →
  (cs.zipIdx s).foldl (fun (a : Array Value) (p : Value × Nat) => a.setIfInBounds (off + p.2) p.1) cells = (cells.toList.take (off + s) ++ cs ++ cells.toList.drop (off + s + cs.length)).toArray
 | [], s, cells, _ => by simp
 | c :: cs, s, cells, h => by
  have hl : off + s + (cs.length + 1) ≤ cells.toList.length := by simpa using h
  rw [List.zipIdx_cons, List.foldl_cons, foldl_set off cs (s + 1) _ (by simp at h ⊢; omega)]
  have e := list_seg_step cells.toList (off + s) c cs hl
  simp only [Array.toList_setIfInBounds]
  rw [show off + (s + 1) = off + s + 1 by omega, e]
  rfl
theorem fill_cons (place : Nat → Option (Nat × Nat)) (cells : Array Value) (i : Nat) (v : Value) (rest : List (Nat × Value)) (off size : Nat) (hp : place i = some (off, size)) (hv : v.cells.size = size) (hf : off + size ≤ cells.size) :
  Instr.fill place cells ((i, v) :: rest) = Instr.fill place (splice cells.toList off v.cells.toList).toArray rest := by
 have h0 : (v.cells.zipIdx.foldl (fun cs (x : Value × Nat) => cs.setIfInBounds (off + x.2) x.1) cells) = (splice cells.toList off v.cells.toList).toArray := by
  rw [← Array.foldl_toList, Array.toList_zipIdx]
  have := foldl_set off v.cells.toList 0 cells (by simp [hv]; omega)
  simp only [Nat.add_zero] at this
  rw [this]
  simp [splice]
 simp only [Instr.fill, hp]
 rw [if_neg (by simp [hv]; omega)]
 exact congrArg (fun a => Instr.fill place a rest) h0
theorem splice_whole (cur cs : List Value) (h : cur.length = cs.length) : splice cur 0 cs = cs := by
 unfold splice
 rw [List.take_zero, List.drop_eq_nil_of_le (by omega)]
 simp
theorem run_buildSlice1 (P : Program) (w : World) (t elem : TypeId) (k : Nat) (Z : Array Value) (ht : P.underlying t = some (.slice elem)) (hz : ∀ w, (Go.sizeOf elem).run P w = .ok k w) (hv : ∀ w, (zeroValue elem).run P w = .ok (.agg Z) w) (hk : 0 < k) (hk2 : k ≤ 1000) (cs : List Value) (hl : cs.length = k) :
  (Instr.buildSlice t 1 #[(0, .agg cs.toArray)]).run P w = .ok (.slice (some ⟨w.heap.size, 0, none⟩) 1 1) (w.alloc (.cells cs.toArray elem)) := by
 have hfill : Instr.fill (fun i => some (i * k, k)) ((Array.range (1 * k)).map (Z[· % Z.size]!)) [(0, .agg cs.toArray)] = some cs.toArray := by
  rw [fill_cons _ _ 0 _ _ (0 * k) k rfl (by simpa [Value.cells] using hl) (by simp)]
  simp only [Instr.fill, Nat.zero_mul]
  rw [splice_whole _ _ (by simp [Value.cells, hl])]
  simp [Value.cells]
 have h1 : ¬ (1 * k > 2 ^ 24) := by omega
 have h2 : ¬ (1 * k = 0) := by omega
 simp only [Instr.buildSlice, Sem.run_bind, run_underlying ht, Result.andThen_ok, hz, h1, h2, if_false, Sem.run_pure, hv, Value.cells]
 rw [hfill]
 simp [newRow, newObj]
 rfl
theorem execOp_buildSlice (P : Program) (w : World) (t : TypeId) (x : Operand) (o : Oper) (ho : o.op = .buildSlice t 1 #[(0, x)]) (a : Act) (v : Value) (hx : a.eval x = v) (r : Value) (w' : World) (hr : (Instr.buildSlice t 1 #[(0, v)]).run P w = .ok r w') : (execOp a.eval o).run P w = .ok (.value r) w' := by
 unfold execOp
 simp only [ho, Sem.run_bind]
 simp [hx, hr]
theorem wpList_buildSlice1 {P : Program} {w : World} {ops : Array Oper} {rest : List Oper} {o : Oper} {a : Act} {Q : Exit → Act → World → Prop} (hgd : o.guard = none) (t : TypeId) (x : Operand) (ho : o.op = .buildSlice t 1 #[(0, x)]) (v : Value) (hx : a.eval x = v) (r : Value) (w' : World)
  (hr : (Instr.buildSlice t 1 #[(0, v)]).run P w = .ok r w') (h : wpList P ops Q rest (a.put o.dst r) w') : wpList P ops Q (o :: rest) a w :=
 wpList_plain hgd fun K hK => by
  unfold Oper.wp
  rw [execOp_buildSlice P w t x o ho a v hx r w' hr]
  exact hK _ _ h
theorem buildK (w : World) (k : Key) : (Instr.buildSlice 41 1 #[(0, .agg (encK k).toArray)]).run Tryz.prog w = .ok (.slice (some ⟨w.heap.size, 0, none⟩) 1 1) (w.alloc (.cells (encK k).toArray 34)) :=
 run_buildSlice1 Tryz.prog w 41 34 32 _ Tryz.underlying41 Tryz.sizeOf34 Tryz.zeroValue34 (by decide) (by decide) _ (encK_len k)
theorem buildD (w : World) (d : Dev) : (Instr.buildSlice 40 1 #[(0, .agg (encD d).toArray)]).run Tryz.prog w = .ok (.slice (some ⟨w.heap.size, 0, none⟩) 1 1) (w.alloc (.cells (encD d).toArray 46)) :=
 run_buildSlice1 Tryz.prog w 40 46 35 _ Tryz.underlying40 Tryz.sizeOf46 Tryz.zeroValue46 (by decide) (by decide) _ (encD_len d)
end Go.Proofs.YthnpiimiimiijaaGreatDoor.Dir
/- spend: a key goes among those that are spent. -/
namespace Go.Proofs.YthnpiimiimiijaaGreatDoor.Dir
open Go Go.RowKit Go.Proofs Go.Proofs.YthnpiimiimiijaaGreatDoorW.PrintWords Go.Proofs.YthnpiimiimiijaaGreatDoorW.PrintLast Go.Proofs.YthnpiimiimiijaaGreatDoorW.PrintMore
set_option linter.unusedVariables false
set_option linter.unusedSimpArgs false
theorem run_storeAt1 (P : Program) (w : World) (t : TypeId) (hz : ∀ w, (Go.sizeOf t).run P w = .ok 1 w) (g o : Nat) (v : Value) (hv : v.cells = #[v]) (h1 : v.oneCell' = true) (old : Value) (hc : w.cell? ⟨g, o, none⟩ = some old) (hf : w.frozen? ⟨g, o, none⟩ = false) :
  (Instr.storeAt t (.pointer (some ⟨g, o, none⟩)) v).run P w = .ok () (w.setCell ⟨g, o, none⟩ v) := by
 simp only [Instr.storeAt, Instr.sureAddr, storeVar, Sem.run_bind, Sem.run_pure, Result.andThen_ok, hz, hv]
 have e : (⟨g, o, none⟩ : Addr).add 0 = ⟨g, o, none⟩ := by rw [add_at]; rfl
 simp [storeCells, run_store P w _ v _ h1, e, hc, hf]
theorem flat_insert {α : Type} (f : α → List Value) (k : Nat) (hk : ∀ x, (f x).length = k) (l : List α) (i : Nat) (x : α) (hi : i ≤ l.length) : (insertAt l i x).flatMap f = (l.flatMap f).take (i * k) ++ f x ++ (l.flatMap f).drop (i * k) := by
 have hlen : ∀ l : List α, (l.flatMap f).length = l.length * k := fun l => by
  induction l with
  | nil => simp
  | cons a l ih => rw [List.flatMap_cons, List.length_append, hk, ih, List.length_cons, Nat.add_mul]; omega
 have e : l.flatMap f = (l.take i).flatMap f ++ (l.drop i).flatMap f := by rw [← List.flatMap_append, List.take_append_drop]
 have hl : ((l.take i).flatMap f).length = i * k := by rw [hlen, List.length_take, Nat.min_eq_left hi]
 unfold insertAt
 rw [List.flatMap_append, List.flatMap_cons, e, List.take_append_of_le_length (Nat.le_of_eq hl.symm), List.take_of_length_le (Nat.le_of_eq hl), List.drop_append, List.drop_eq_nil_of_le (Nat.le_of_eq hl), hl, Nat.sub_self, List.drop_zero, List.nil_append, List.append_assoc]
theorem own_apart {w : World} {b1 b2 s1 s2 n1 n2 : Nat} {e1 e2 : TypeId} {v1 v2 : Value} {x1 x2 : List Value} (h1 : w.ownsRow b1 e1 s1 v1 n1 x1) (h2 : w.ownsRow b2 e2 s2 v2 n2 x2) (he : e1 ≠ e2) : ∀ k, v1.ownBlock = some k → v2.ownBlock ≠ some k := fun k hk hk2 => by
 rcases h2.2 with ⟨rfl, _⟩ | ⟨g, cap, cur, rfl, _, hg, _⟩
 ·cases hk2
 ·have : g = k := by simpa [Value.ownBlock] using hk2
  subst this
  exact own_ne h1 hg he hk.symm
structure OnBook (w W : World) (base q : Nat) (B : Book) (A1 : Option Addr) (c1 : Nat) (A2 : Option Addr) (c2 bx : Nat) (cs : List Value) (T : TypeId) : Prop where
 nx : NextIs W base q B A1 c1 A2 c2
 bx : W.heap[bx]? = some (.cells cs.toArray T (0, 0))
 all : Below w.heap.size w W
 le : base ≤ w.heap.size
section
variable {w W W' : World} {base q : Nat} {B : Book} {A1 : Option Addr} {c1 : Nat} {A2 : Option Addr} {c2 bx : Nat} {cs : List Value} {T : TypeId}
theorem OnBook.fr (h : OnBook w W base q B A1 c1 A2 c2 bx cs T) : Below base w W := h.all.mono h.le
theorem OnBook.base_le (h : OnBook w W base q B A1 c1 A2 c2 bx cs T) : base ≤ W.heap.size := Nat.le_trans h.le h.all.size
theorem OnBook.later (h : OnBook w W base q B A1 c1 A2 c2 bx cs T) (hb : Below W.heap.size W W') : OnBook w W' base q B A1 c1 A2 c2 bx cs T :=
 ⟨h.nx.below hb, (hb.block _ (Array.getElem?_eq_some_iff.1 h.bx).1).trans h.bx, below_step h.all hb, h.le⟩
theorem OnBook.drew (h : OnBook w W base q B A1 c1 A2 c2 bx cs T) : OnBook w W.drew base q B A1 c1 A2 c2 bx cs T := h.later (Below.refl _ W).drew
theorem OnBook.keep (h : OnBook w W base q B A1 c1 A2 c2 bx cs T) (hg : W.grownBy W' (Value.slice A2 B.spent.length c2).ownBlock) :
  W'.heap[q]? = some (.cells (bookCells B A1 c1 A2 c2).toArray 43 (0, 0)) ∧ W'.cell? ⟨q, 3, none⟩ = some (.slice A2 B.spent.length c2) ∧ W'.frozen? ⟨q, 3, none⟩ = false := by
 have hq : W'.heap[q]? = some (.cells (bookCells B A1 c1 A2 c2).toArray 43 (0, 0)) := (hg.block q h.nx.lt (fun e => own_ne h.nx.lists.2.1 h.nx.box (by decide) e)).trans h.nx.box
 refine ⟨hq, ?_, ?_⟩
 ·rw [cell_of_heap hq]; rfl
 ·exact frozen_of_heap hq
end
theorem ownsRow_setCell_other {w : World} {base : Nat} {e : TypeId} {size n : Nat} {v : Value} {xs : List Value} (h : w.ownsRow base e size v n xs) {a : Addr} (ha : ∀ k, v.ownBlock = some k → k ≠ a.block) (u : Value) : (w.setCell a u).ownsRow base e size v n xs := by
 obtain ⟨h1, h2⟩ := h
 refine ⟨h1, ?_⟩
 rcases h2 with h2 | ⟨g, cap, cur, hv, hg, hh, r⟩
 ·exact Or.inl h2
 ·exact Or.inr ⟨g, cap, cur, hv, hg, by rw [Below.heap_setCell _ _ _ _ (ha g (by rw [hv]; rfl))]; exact hh, r⟩
theorem next_spent {W : World} {base q : Nat} {B B' : Book} {A1 : Option Addr} {c1 : Nat} {A2 A2' : Option Addr} {c2 c2' : Nat} (hq : W.heap[q]? = some (.cells (bookCells B A1 c1 A2 c2).toArray 43 (0, 0))) (hd : W.ownsRow base 46 35 (.slice A1 B.devs.length c1) B.devs.length (flatD B.devs)) (hs : W.ownsRow base 34 32 (.slice A2' B'.spent.length c2') B'.spent.length (flatK B'.spent))
  (hlow : base ≤ q) (e1 : B'.ver = B.ver) (e2 : B'.clock = B.clock) (e3 : B'.devs = B.devs) (e4 : B'.acl = B.acl) : NextIs (W.setCell ⟨q, 3, none⟩ (.slice A2' B'.spent.length c2')) base q B' A1 c1 A2' c2' := by
 have n1 : ∀ k, (Value.slice A1 B.devs.length c1).ownBlock = some k → k ≠ q := fun k hk e => own_ne hd hq (by decide) (by rw [hk, e])
 have n2 : ∀ k, (Value.slice A2' B'.spent.length c2').ownBlock = some k → k ≠ q := fun k hk e => own_ne hs hq (by decide) (by rw [hk, e])
 have hd' := ownsRow_setCell_other hd (a := ⟨q, 3, none⟩) n1 (.slice A2' B'.spent.length c2')
 have hs' := ownsRow_setCell_other hs (a := ⟨q, 3, none⟩) n2 (.slice A2' B'.spent.length c2')
 refine ⟨?_, ⟨?_, hs', own_apart (by rw [e3]; exact hd') hs' (by decide)⟩, hlow, ?_, n2⟩
 ·rw [heap_setCell_same W q 3 _ _ _ hq]
  simp only [bookCells, e1, e2, e3, e4]
  rfl
 ·rw [e3]; exact hd'
 ·rw [e3]; exact n1
theorem pos_plain {l : List Key} (hs : l.Pairwise (fun a b => ltK a b = true)) {k : Key} {i : Nat} (hi : i ≤ l.length) (hp : Parts (fun d : Key => cmpK d k) l i i) : i = posK l k := by
 obtain ⟨q1, q2⟩ := hp (fun a b x y hab hx hy hlt => by
  rcases Nat.lt_or_eq_of_le hab with h | h
  ·obtain ⟨ha, rfl⟩ := List.getElem?_eq_some_iff.1 hx
   obtain ⟨hb, rfl⟩ := List.getElem?_eq_some_iff.1 hy
   have h1 := List.pairwise_iff_getElem.1 hs a b ha hb h
   have h2 : ltK l[b] k = true := decide_eq_true hlt
   exact of_decide_eq_true (ltK_trans h1 h2)
  ·subst h; rw [hx] at hy; cases hy; exact hlt)
 exact (countP_parts _ l i hi (fun t x ht hx => decide_eq_true (q1 t x ht hx)) (fun t x ht hx => decide_eq_false (by have := q2 t x ht hx; omega))).symm
set_option maxHeartbeats 4000000 in
set_option maxRecDepth 100000 in
theorem spend_any (w : World) (base q : Nat) (B : Book) (A1 : Option Addr) (c1 : Nat) (A2 : Option Addr) (c2 : Nat) (k : Key) (h : NextIs w base q B A1 c1 A2 c2) (hs : B.spent.Pairwise (fun a b => ltK a b = true)) (hf : B.spent.length ≤ 64) (hb : base ≤ w.heap.size) :
  Calls Tryz.prog 118 #[.pointer (some ⟨q, 0, none⟩), .agg (encK k).toArray] w fun e w' => e = .returned (.tuple #[]) ∧ (∃ A2' c2', NextIs w' base q (spendOf B k) A1 c1 A2' c2') ∧ Below base w w' ∧ w.heap.size ≤ w'.heap.size ∧ (∀ j, j < w.heap.size → j ≠ q → some j ≠ (Value.slice A2 B.spent.length c2).ownBlock → w'.heap[j]? = w.heap[j]?) := by
 obtain ⟨W0, hW0⟩ : ∃ W0, W0 = w.alloc (.cells (encK k).toArray 34) := ⟨_, rfl⟩
 have HS : Aside0 (OnBook w W0 base q B A1 c1 A2 c2 w.heap.size (encK k) 34) := ⟨by
  rw [hW0]
  exact ⟨h.below ((Below.refl _ w).alloc (Nat.le_refl _) _), heap_alloc_new w _, (Below.refl _ w).alloc (Nat.le_refl _) _, hb⟩⟩
 have HF := Aside0.mk hf
 have HSO := Aside0.mk hs
 have HSZ := Aside0.mk (show w.heap.size ≤ W0.heap.size by rw [hW0]; simp)
 have hNE : ∀ W, OnBook w W base q B A1 c1 A2 c2 w.heap.size (encK k) 34 → True := fun _ _ => trivial
 clear h hs hf hNE
 go_enter Tryz.func118, Tryz.ntmps118
 go_upto_region 1 with fail
 rw [← hW0]
 clear hW0
 refine start_ (n := 11) (S := fun W => OnBook w W base q B A1 c1 A2 c2 w.heap.size (encK k) 34) (ds := []) #[false, false, false, false, false, false, false, false, false, false, false] (by kernel_rfl) rfl rfl (HS.out.drew) (fun hHeld => ?_)
 generalize World.drew _ = w5 at hHeld ⊢
 refine pure_ (i := 0) (N := (some 7)) (v := ?_) (a' := ?_) #[true, false, false, false, false, false, false, false, false, false, false] rfl rfl (by kernel_rfl) (fun _ _ _ h => h) (Or.inl ⟨by rfl, ?_⟩) ?_ ?_
 rotate_left
 ·intro w'
  go_simp
  with_reducible rfl
 rotate_left
 ·simp only [Act.put, List.setIfInBounds_toArray, List.set_cons_zero, List.set_cons_succ, i64_w, i32_w]
  rfl
 refine pure_ (i := 1) (N := (some 8)) (v := ?_) (a' := ?_) #[true, true, false, false, false, false, false, false, false, false, false] rfl rfl (by kernel_rfl) (fun _ _ _ h => h) (Or.inl ⟨by rfl, ?_⟩) ?_ ?_
 rotate_left
 ·intro w'
  go_simp
  with_reducible rfl
 rotate_left
 ·simp only [Act.put, List.setIfInBounds_toArray, List.set_cons_zero, List.set_cons_succ, i64_w, i32_w]
  rfl
 refine pure_ (i := 2) (N := (some 9)) (v := ?_) (a' := ?_) #[true, true, true, false, false, false, false, false, false, false, false] rfl rfl (by kernel_rfl) (fun _ _ _ h => h) (Or.inl ⟨by rfl, ?_⟩) ?_ ?_
 rotate_left
 ·intro w'
  go_simp
  with_reducible rfl
 rotate_left
 ·simp only [Act.put, List.setIfInBounds_toArray, List.set_cons_zero, List.set_cons_succ, i64_w, i32_w]
  rfl
 refine take_ (i := 3) (N := (some 10)) (v := ?_) (a' := ?_) #[true, true, true, true, false, false, false, false, false, false, false] rfl rfl (by kernel_rfl) (fun _ _ _ h => h) (Or.inl ⟨by rfl, ?_⟩) hHeld ?_ ?_
 rotate_left
 ·rintro w' hs
  obtain ⟨s0, s1, s2, s3, s4, sf⟩ := hs.nx.cells
  go_simp
  with_reducible rfl
 rotate_left
 ·simp only [Act.put, List.setIfInBounds_toArray, List.set_cons_zero, List.set_cons_succ, i64_w, i32_w]
  rfl
 refine take_ (i := 4) (N := (some 11)) (v := _) (a' := ?_) #[true, true, true, true, true, false, false, false, false, false, false] rfl rfl (by kernel_rfl) (fun _ _ _ h => h) (Or.inl ⟨by rfl, fun w' hs => yields_load 34 (.tmp 3) _ rfl _ _ rfl _ (run_loadAtK Tryz.prog w' 34 32 Tryz.isAgg34 Tryz.sizeOf34 w.heap.size 0 (encK k) (encK_len _) (cells_of_heap hs.bx))⟩) hHeld ?_ ?_
 rotate_left
 ·simp only [Act.put, List.setIfInBounds_toArray, List.set_cons_zero, List.set_cons_succ, i64_w, i32_w]
  rfl
 refine one_ (i := 5) (N := (some 12)) #[true, true, true, true, true, true, false, false, false, false, false] rfl rfl (by kernel_rfl) (by decide) (fun K hK => ?_)
 refine goes_ Tryz.func149 (by kernel_rfl) rfl #[.slice A2 B.spent.length c2, .agg (encK k).toArray, .func (.func 50) #[] #[]] (by rfl) rfl rfl (by (try simp only [List.map_toArray, List.map_cons, List.map_nil]); first | done | rfl) ?_
 refine (search_key B.spent k A2 c2 base _ hHeld.nx.lists.2.1 HF.out).mono ?_
 rintro e w5c ⟨⟨i, hi, rfl, hp⟩, hb⟩
 refine ⟨_, rfl, ?_⟩
 have hS_ := hHeld.later hb
 have HI := Aside0.mk (And.intro hi hp)
 clear hb hi hp
 refine hK.out _ _ hS_ (fun hHeld => ?_)
 clear hK K
 refine norm_ (a' := ?_) ?_ ?_
 rotate_left
 ·show Act.put _ (some 12) _ = _
  simp only [Act.put, List.setIfInBounds_toArray, List.set_cons_zero, List.set_cons_succ, i64_w, i32_w]
  rfl
 refine pure_ (i := 6) (N := (some 6)) (v := ?_) (a' := ?_) #[true, true, true, true, true, true, true, false, false, false, false] rfl rfl (by kernel_rfl) (fun _ _ _ h => h) (Or.inl ⟨by rfl, ?_⟩) ?_ ?_
 rotate_left
 ·intro w'
  go_simp
  with_reducible rfl
 rotate_left
 ·simp only [Act.put, List.setIfInBounds_toArray, List.set_cons_zero, List.set_cons_succ, i64_w, i32_w]
  rfl
 refine pure_ (i := 7) (N := (some 13)) (v := ?_) (a' := ?_) #[true, true, true, true, true, true, true, true, false, false, false] rfl rfl (by kernel_rfl) (fun _ _ _ h => h) (Or.inl ⟨by rfl, ?_⟩) ?_ ?_
 rotate_left
 ·intro w'
  go_simp
  with_reducible rfl
 rotate_left
 ·simp only [Act.put, List.setIfInBounds_toArray, List.set_cons_zero, List.set_cons_succ, i64_w, i32_w]
  rfl
 refine pure_ (i := 9) (N := (some 4)) (v := ?_) (a' := ?_) #[true, true, true, true, true, true, true, true, false, true, false] rfl rfl (by kernel_rfl) (fun _ _ _ h => h) (Or.inl ⟨by rfl, ?_⟩) ?_ ?_
 rotate_left
 ·intro w'
  go_simp
  with_reducible rfl
 rotate_left
 ·simp only [Act.put, List.setIfInBounds_toArray, List.set_cons_zero, List.set_cons_succ, i64_w, i32_w]
  rfl
 refine pure_ (i := 8) (N := (some 14)) (v := ?_) (a' := ?_) #[true, true, true, true, true, true, true, true, true, true, false] rfl rfl (by kernel_rfl) (fun _ _ _ h => h) (Or.inl ⟨by rfl, ?_⟩) ?_ ?_
 rotate_left
 ·intro w'
  go_simp
  with_reducible rfl
 rotate_left
 ·simp only [Act.put, List.setIfInBounds_toArray, List.set_cons_zero, List.set_cons_succ, i64_w, i32_w]
  rfl
 refine pure_ (i := 10) (N := (some 5)) (v := ?_) (a' := ?_) #[true, true, true, true, true, true, true, true, true, true, true] rfl rfl (by kernel_rfl) (fun _ _ _ h => h) (Or.inl ⟨by rfl, ?_⟩) ?_ ?_
 rotate_left
 ·intro w'
  go_simp
  with_reducible rfl
 rotate_left
 ·simp only [Act.put, List.setIfInBounds_toArray, List.set_cons_zero, List.set_cons_succ, i64_w, i32_w]
  rfl
 refine done_ (by kernel_rfl) ?_
 have HT := Aside0.mk hHeld
 clear hHeld
 go_upto_region 2 with fail
 refine start_ (n := 12) (S := fun W => OnBook w W base q B A1 c1 A2 c2 w.heap.size (encK k) 34) (ds := [8, 11]) #[false, false, false, false, false, false, false, false, false, false, false, false] (by kernel_rfl) rfl rfl (HT.out.drew) (fun hHeld => ?_)
 generalize World.drew _ = w6 at hHeld ⊢
 refine pure_ (i := 0) (N := (some 15)) (v := ?_) (a' := ?_) #[true, false, false, false, false, false, false, false, false, false, false, false] rfl rfl (by kernel_rfl) (fun _ _ _ h => h) (Or.inl ⟨by rfl, ?_⟩) ?_ ?_
 rotate_left
 ·intro w'
  go_simp
  with_reducible rfl
 rotate_left
 ·simp only [Act.put, List.setIfInBounds_toArray, List.set_cons_zero, List.set_cons_succ, i64_w, i32_w]
  rfl
 refine pure_ (i := 1) (N := (some 16)) (v := ?_) (a' := ?_) #[true, true, false, false, false, false, false, false, false, false, false, false] rfl rfl (by kernel_rfl) (fun _ _ _ h => h) (Or.inl ⟨by rfl, ?_⟩) ?_ ?_
 rotate_left
 ·intro w'
  go_simp
  with_reducible rfl
 rotate_left
 ·simp only [Act.put, List.setIfInBounds_toArray, List.set_cons_zero, List.set_cons_succ, i64_w, i32_w]
  rfl
 refine pure_ (i := 2) (N := (some 17)) (v := ?_) (a' := ?_) #[true, true, true, false, false, false, false, false, false, false, false, false] rfl rfl (by kernel_rfl) (fun _ _ _ h => h) (Or.inl ⟨by rfl, ?_⟩) ?_ ?_
 rotate_left
 ·intro w'
  go_simp
  with_reducible rfl
 rotate_left
 ·simp only [Act.put, List.setIfInBounds_toArray, List.set_cons_zero, List.set_cons_succ, i64_w, i32_w]
  rfl
 refine pure_ (i := 3) (N := (some 18)) (v := ?_) (a' := ?_) #[true, true, true, true, false, false, false, false, false, false, false, false] rfl rfl (by kernel_rfl) (fun _ _ _ h => h) (Or.inl ⟨by rfl, ?_⟩) ?_ ?_
 rotate_left
 ·intro w'
  go_simp
  with_reducible rfl
 rotate_left
 ·simp only [Act.put, List.setIfInBounds_toArray, List.set_cons_zero, List.set_cons_succ, i64_w, i32_w]
  rfl
 refine pure_ (i := 5) (N := (some 20)) (v := ?_) (a' := ?_) #[true, true, true, true, false, true, false, false, false, false, false, false] rfl rfl (by kernel_rfl) (fun _ _ _ h => h) (Or.inl ⟨by rfl, ?_⟩) ?_ ?_
 rotate_left
 ·intro w'
  go_simp
  with_reducible rfl
 rotate_left
 ·simp only [Act.put, List.setIfInBounds_toArray, List.set_cons_zero, List.set_cons_succ, i64_w, i32_w]
  rfl
 refine take_ (i := 4) (N := (some 19)) (v := ?_) (a' := ?_) #[true, true, true, true, true, true, false, false, false, false, false, false] rfl rfl (by kernel_rfl) (fun _ _ _ h => h) (Or.inl ⟨by rfl, ?_⟩) hHeld ?_ ?_
 rotate_left
 ·rintro w' hs
  obtain ⟨s0, s1, s2, s3, s4, sf⟩ := hs.nx.cells
  go_simp
  with_reducible rfl
 rotate_left
 ·simp only [Act.put, List.setIfInBounds_toArray, List.set_cons_zero, List.set_cons_succ, i64_w, i32_w]
  rfl
 refine take_ (i := 6) (N := (some 21)) (v := _) (a' := ?_) #[true, true, true, true, true, true, true, false, false, false, false, false] rfl rfl (by kernel_rfl) (fun _ _ _ h => h) (Or.inl ⟨by rfl, fun w' hs => yields_load 34 (.tmp 3) _ rfl _ _ rfl _ (run_loadAtK Tryz.prog w' 34 32 Tryz.isAgg34 Tryz.sizeOf34 w.heap.size 0 (encK k) (encK_len _) (cells_of_heap hs.bx))⟩) hHeld ?_ ?_
 rotate_left
 ·simp only [Act.put, List.setIfInBounds_toArray, List.set_cons_zero, List.set_cons_succ, i64_w, i32_w]
  rfl
 refine one_ (i := 7) (N := (some 22)) #[true, true, true, true, true, true, true, true, false, false, false, false] rfl rfl (by kernel_rfl) (by decide) (fun K hK => ?_)
 refine value_ (v := .slice (some ⟨w6.heap.size, 0, none⟩) 1 1) (w1 := w6.alloc (.cells (encK k).toArray 34)) (by rfl) rfl ?_ ?_
 ·exact execOp_buildSlice _ _ 41 (.tmp 21) _ rfl _ _ rfl _ _ (buildK w6 k)
 have HLT := Aside0.mk (fun (k : Nat) (hk : (Value.slice A2 B.spent.length c2).ownBlock = some k) => own_lt hHeld.nx.lists.2.1 k hk)
 have HV := Aside0.mk (heap_alloc_new w6 (.cells (encK k).toArray 34))
 have hS_ := hHeld.later (hb := (Below.refl _ w6).alloc (Nat.le_refl _) (.cells (encK k).toArray 34))
 obtain ⟨W7, hW7⟩ : ∃ W7, W7 = w6.alloc (.cells (encK k).toArray 34) := ⟨_, rfl⟩
 rw [← hW7] at HV hS_ ⊢
 clear hW7
 refine hK.out _ _ hS_ (fun hHeld => ?_)
 clear hK K
 refine norm_ (a' := ?_) ?_ ?_
 rotate_left
 ·show Act.put _ (some 22) _ = _
  simp only [Act.put, List.setIfInBounds_toArray, List.set_cons_zero, List.set_cons_succ, i64_w, i32_w]
  rfl
 refine last_ (i := 8) (N := (some 23)) #[true, true, true, true, true, true, true, true, true, false, false, false] rfl rfl (by kernel_rfl) (by decide) (fun K hK => ?_)
 refine goes_ Tryz.func150 (by kernel_rfl) rfl #[.slice A2 B.spent.length c2, .int .i64 i, .slice (some ⟨w6.heap.size, 0, none⟩) 1 1] (by rfl) rfl rfl (by (try simp only [List.map_toArray, List.map_cons, List.map_nil]); first | done | rfl) ?_
 refine (insert150 W7 base A2 c2 B.spent.length i (flatK B.spent) (encK k) w6.heap.size hHeld.nx.lists.2.1 HI.out.1 (by have := HF.out; omega) HV.out (encK_len k) (flatK_one _) (encK_one k) (fun k hk e => by have := HLT.out k hk; omega) hHeld.base_le).mono ?_
 rintro e w6c ⟨A2', c2', rfl, hown, hgr⟩
 refine ⟨_, rfl, ?_⟩
 have HO := Aside0.mk (And.intro hown hgr)
 have HH := Aside0.mk hHeld
 clear hown hgr hHeld hS_
 refine hK.out _ _ ?_
 clear hK K
 refine norm_ (a' := ?_) ?_ ?_
 rotate_left
 ·show Act.put _ (some 23) _ = _
  simp only [Act.put, List.setIfInBounds_toArray, List.set_cons_zero, List.set_cons_succ, i64_w, i32_w]
  rfl
 refine pure_ (i := 9) (N := (some 24)) (v := ?_) (a' := ?_) #[true, true, true, true, true, true, true, true, true, true, false, false] rfl rfl (by kernel_rfl) (fun _ _ _ h => h) (Or.inl ⟨by rfl, ?_⟩) ?_ ?_
 rotate_left
 ·intro w'
  go_simp
  with_reducible rfl
 rotate_left
 ·simp only [Act.put, List.setIfInBounds_toArray, List.set_cons_zero, List.set_cons_succ, i64_w, i32_w]
  rfl
 refine pure_ (i := 10) (N := (some 25)) (v := ?_) (a' := ?_) #[true, true, true, true, true, true, true, true, true, true, true, false] rfl rfl (by kernel_rfl) (fun _ _ _ h => h) (Or.inl ⟨by rfl, ?_⟩) ?_ ?_
 rotate_left
 ·intro w'
  go_simp
  with_reducible rfl
 rotate_left
 ·simp only [Act.put, List.setIfInBounds_toArray, List.set_cons_zero, List.set_cons_succ, i64_w, i32_w]
  rfl
 refine last_ (i := 11) (N := none) #[true, true, true, true, true, true, true, true, true, true, true, true] rfl rfl (by kernel_rfl) (by decide) (fun K hK => ?_)
 refine store_ (w1 := w6c.setCell ⟨q, 3, none⟩ (.slice A2' (B.spent.length + 1) c2')) (by rfl) rfl ?_ ?_
 ·exact runs_store 41 (.tmp 25) (.tmp 23) _ rfl _ _ _ rfl rfl _ (run_storeAt1 Tryz.prog w6c 41 Tryz.sizeOf41 q 3 _ rfl rfl _ (HH.out.keep HO.out.2).2.1 (HH.out.keep HO.out.2).2.2)
 skip
 refine hK.out _ _ ?_
 clear hK K
 refine norm_ (a' := ?_) ?_ ?_
 rotate_left
 ·show Act.put _ none _ = _
  simp only [Act.put, List.setIfInBounds_toArray, List.set_cons_zero, List.set_cons_succ, i64_w, i32_w]
  rfl
 refine done_ (by kernel_rfl) ?_
 go_wp2
 go_end0
 obtain ⟨hq, -, -⟩ := HH.out.keep HO.out.2
 have hi := pos_plain HSO.out HI.out.1 HI.out.2
 have hrow := HO.out.1
 have hfl : flatK (insertAt B.spent i k) = (flatK B.spent).take (i * 32) ++ encK k ++ (flatK B.spent).drop (i * 32) := flat_insert encK 32 encK_len B.spent i k HI.out.1
 rw [← hfl, hi] at hrow
 have hlen : (spendOf B k).spent.length = B.spent.length + 1 := len_insertAt _ _ _
 have hd : w6c.ownsRow base 46 35 (.slice A1 B.devs.length c1) B.devs.length (flatD B.devs) := HH.out.nx.lists.1.kept HO.out.2 (by
  cases hk : (Value.slice A1 B.devs.length c1).ownBlock with
  | none => exact .inl rfl
  | some k => exact .inr (fun e => HH.out.nx.lists.2.2 k hk e.symm))
 have hfr : Below base W7 w6c := ⟨HO.out.2.os, HO.out.2.tape, HO.out.2.output, HO.out.2.size, fun j hj => HO.out.2.block j (Nat.lt_of_lt_of_le hj HH.out.base_le) (fun e => by have := own_base HH.out.nx.lists.2.1 j e.symm; omega)⟩
 refine ⟨rfl, ⟨A2', c2', ?_⟩, (HH.out.fr.trans hfr).setCell HH.out.nx.low _, ?_, fun j h1 h2 h3 => ?_⟩
 ·rw [← hlen]
  exact next_spent (B' := spendOf B k) hq hd (by rw [hlen]; exact hrow) HH.out.nx.low rfl rfl rfl rfl
 ·have := (HH.out.fr.trans hfr).size
  simpa using this
 ·rw [Below.heap_setCell _ _ _ _ h2, HO.out.2.block j (Nat.lt_of_lt_of_le h1 HH.out.all.size) h3]
  exact HH.out.all.block j h1
end Go.Proofs.YthnpiimiimiijaaGreatDoor.Dir
end
