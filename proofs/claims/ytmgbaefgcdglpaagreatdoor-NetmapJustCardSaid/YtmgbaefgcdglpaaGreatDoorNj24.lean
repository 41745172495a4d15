/- slices.BinarySearchFunc at devices and at keys; at. slices.Insert at devices and at keys, one value, the row of the call's own. Values that are built: a slice of one value of many cells, a device. taken: all keys of a book. A part of a device of a row is written. -/
import Derived.Test.YtmgbaefgcdglpaaGreatDoorNj23
import Derived.Deep.RegionLaw
import Derived.BigRegion
section
namespace Go.Proofs.YtmgbaefgcdglpaaGreatDoor.Dir
open Go Go.RowKit Go.Proofs Go.Proofs.YtmgbaefgcdglpaaGreatDoorW.PrintWords Go.Proofs.YtmgbaefgcdglpaaGreatDoorW.PrintLast Go.Proofs.YtmgbaefgcdglpaaGreatDoorW.PrintMore
set_option linter.unusedVariables false
set_option linter.unusedSimpArgs false
def Parts {α : Type} (f : α → Int) (l : List α) (lo hi : Nat) : Prop :=
 (∀ (a b : Nat) x y, a ≤ b → l[a]? = some x → l[b]? = some y → f y < 0 → f x < 0) →
  (∀ t x, t < lo → l[t]? = some x → f x < 0) ∧ (∀ t x, hi ≤ t → l[t]? = some x → 0 ≤ f x)
theorem Parts.start {α : Type} (f : α → Int) (l : List α) : Parts f l 0 l.length := fun _ => ⟨fun t x h => absurd h (Nat.not_lt_zero _), fun t x h hx => absurd (List.getElem?_eq_some_iff.1 hx).1 (by omega)⟩
theorem Parts.up {α : Type} {f : α → Int} {l : List α} {lo hi m : Nat} {x : α} (h : Parts f l lo hi) (hm : l[m]? = some x) (hx : f x < 0) : Parts f l (m + 1) hi := fun M =>
 ⟨fun t y ht hy => M t m y x (by omega) hy hm hx, (h M).2⟩
end Go.Proofs.YtmgbaefgcdglpaaGreatDoor.Dir
/- at and live: where a node's device is. -/
namespace Go.Proofs.YtmgbaefgcdglpaaGreatDoor.Dir
open Go Go.RowKit Go.Proofs Go.Proofs.YtmgbaefgcdglpaaGreatDoorW.PrintWords Go.Proofs.YtmgbaefgcdglpaaGreatDoorW.PrintLast Go.Proofs.YtmgbaefgcdglpaaGreatDoorW.PrintMore
set_option linter.unusedVariables false
set_option linter.unusedSimpArgs false
structure NextIs (w : World) (base q : Nat) (B : Book) (A1 : Option Addr) (c1 : Nat) (A2 : Option Addr) (c2 : Nat) : Prop where
 box : w.heap[q]? = some (.cells (bookCells B A1 c1 A2 c2).toArray 25 (0, 0))
 lists : Lists w base B A1 c1 A2 c2
 low : base ≤ q
 ne1 : ∀ k, (Value.slice A1 B.devs.length c1).ownBlock = some k → k ≠ q
 ne2 : ∀ k, (Value.slice A2 B.spent.length c2).ownBlock = some k → k ≠ q
def NextAt (w : World) (base q : Nat) (B : Book) : Prop := ∃ A1 c1 A2 c2, NextIs w base q B A1 c1 A2 c2
section
variable {w w' : World} {base q : Nat} {B : Book} {A1 : Option Addr} {c1 : Nat} {A2 : Option Addr} {c2 : Nat}
theorem NextIs.lt (h : NextIs w base q B A1 c1 A2 c2) : q < w.heap.size := (Array.getElem?_eq_some_iff.1 h.box).1
theorem NextIs.below (h : NextIs w base q B A1 c1 A2 c2) (hb : Below w.heap.size w w') : NextIs w' base q B A1 c1 A2 c2 :=
 ⟨(hb.block _ h.lt).trans h.box, h.lists.below hb, h.low, h.ne1, h.ne2⟩
theorem NextIs.cells (h : NextIs w base q B A1 c1 A2 c2) : w.cell? ⟨q, 0, none⟩ = some (.int .i64 B.ver) ∧ w.cell? ⟨q, 1, none⟩ = some (.int .i64 B.clock) ∧ w.cell? ⟨q, 2, none⟩ = some (.slice A1 B.devs.length c1) ∧ w.cell? ⟨q, 3, none⟩ = some (.slice A2 B.spent.length c2) ∧ w.cell? ⟨q, 4, none⟩ = some (.string (str B.acl)) ∧ (∀ j, w.frozen? ⟨q, j, none⟩ = false) := by
 have hk := h.box
 simp [World.cell?, World.frozen?, hk, bookCells]
theorem NextAt.below (h : NextAt w base q B) (hb : Below w.heap.size w w') : NextAt w' base q B := by
 obtain ⟨A1, c1, A2, c2, h⟩ := h
 exact ⟨A1, c1, A2, c2, h.below hb⟩
end
theorem owned_at {w : World} {base : Nat} {e : TypeId} {size n c : Nat} {A : Option Addr} {xs : List Value} (h : w.ownsRow base e size (.slice A n c) n xs) (hn : n ≠ 0) : ∃ g, A = some ⟨g, 0, none⟩ := by
 rcases h.2 with ⟨e, e2⟩ | ⟨g, _, _, e, _⟩
 ·omega
 ·injection e with e; exact ⟨g, e⟩
end Go.Proofs.YtmgbaefgcdglpaaGreatDoor.Dir
end
section
namespace Go.Proofs.YtmgbaefgcdglpaaGreatDoor.Dir
open Go Go.RowKit Go.Proofs Go.Proofs.YtmgbaefgcdglpaaGreatDoorW.PrintWords Go.Proofs.YtmgbaefgcdglpaaGreatDoorW.PrintLast Go.Proofs.YtmgbaefgcdglpaaGreatDoorW.PrintMore
set_option linter.unusedVariables false
set_option linter.unusedSimpArgs false
end Go.Proofs.YtmgbaefgcdglpaaGreatDoor.Dir
end
section
namespace Go.Proofs.YtmgbaefgcdglpaaGreatDoor.Dir
open Go Go.RowKit Go.Proofs Go.Proofs.YtmgbaefgcdglpaaGreatDoorW.PrintWords Go.Proofs.YtmgbaefgcdglpaaGreatDoorW.PrintLast Go.Proofs.YtmgbaefgcdglpaaGreatDoorW.PrintMore
set_option linter.unusedVariables false
set_option linter.unusedSimpArgs false
section
variable {P : Program} {ops : Array Oper} {Q : Exit → Act → World → Prop} {rest : List Oper} {a : Act} {w : World} {dst : Option Tmp} {ty : TypeId} {pos : String} {after : Array Edge} {g : Option (Nat × Bool)}
theorem at_load (t : TypeId) (x : Operand) (h : wpList P ops Q (⟨dst, .load t x, ty, pos, after, g⟩ :: rest) a w) : wpList P ops Q (⟨dst, .load t x, ty, pos, after, g⟩ :: rest) a w := h
theorem at_store (t : TypeId) (x y : Operand) (h : wpList P ops Q (⟨dst, .store t x y, ty, pos, after, g⟩ :: rest) a w) : wpList P ops Q (⟨dst, .store t x y, ty, pos, after, g⟩ :: rest) a w := h
theorem at_bslice (t : TypeId) (x : Operand) (h : wpList P ops Q (⟨dst, .buildSlice t 1 #[(0, x)], ty, pos, after, g⟩ :: rest) a w) : wpList P ops Q (⟨dst, .buildSlice t 1 #[(0, x)], ty, pos, after, g⟩ :: rest) a w := h
end
theorem foldl_set (off : Nat) : ∀ (cs : List Value) (s : Nat) (cells : Array Value), off + s + cs.length ≤ cells.size →
  (cs.zipIdx s).foldl (fun (a : Array Value) (p : Value × Nat) => a.setIfInBounds (off + p.2) p.1) cells = (cells.toList.take (off + s) ++ cs ++ cells.toList.drop (off + s + cs.length)).toArray
 | [], s, cells, _ => by simp
 | c :: cs, s, cells, h => by
  have hl : off + s + (cs.length + 1) ≤ cells.toList.length := by simpa using h
  rw [List.zipIdx_cons, List.foldl_cons, foldl_set off cs (s + 1) _ (by simp at h ⊢; omega)]
  have e := list_seg_step cells.toList (off + s) c cs hl
  simp only [Array.toList_setIfInBounds]
  rw [show off + (s + 1) = off + s + 1 by omega, e]
  rfl
theorem fill_cons (place : Nat → Option (Nat × Nat)) (cells : Array Value) (i : Nat) (v : Value) (rest : List (Nat × Value)) (off size : Nat) (hp : place i = some (off, size)) (hv : v.cells.size = size) (hf : off + size ≤ cells.size) :
  Instr.fill place cells ((i, v) :: rest) = Instr.fill place (splice cells.toList off v.cells.toList).toArray rest := by
 have h0 : (v.cells.zipIdx.foldl (fun cs (x : Value × Nat) => cs.setIfInBounds (off + x.2) x.1) cells) = (splice cells.toList off v.cells.toList).toArray := by
  rw [← Array.foldl_toList, Array.toList_zipIdx]
  have := foldl_set off v.cells.toList 0 cells (by simp [hv]; omega)
  simp only [Nat.add_zero] at this
  rw [this]
  simp [splice]
 simp only [Instr.fill, hp]
 rw [if_neg (by simp [hv]; omega)]
 exact congrArg (fun a => Instr.fill place a rest) h0
theorem splice_whole (cur cs : List Value) (h : cur.length = cs.length) : splice cur 0 cs = cs := by
 unfold splice
 rw [List.take_zero, List.drop_eq_nil_of_le (by omega)]
 simp
theorem run_buildSlice1 (P : Program) (w : World) (t elem : TypeId) (k : Nat) (Z : Array Value) (ht : P.underlying t = some (.slice elem)) (hz : ∀ w, (Go.sizeOf elem).run P w = .ok k w) (hv : ∀ w, (zeroValue elem).run P w = .ok (.agg Z) w) (hk : 0 < k) (hk2 : k ≤ 1000) (cs : List Value) (hl : cs.length = k) :
  (Instr.buildSlice t 1 #[(0, .agg cs.toArray)]).run P w = .ok (.slice (some ⟨w.heap.size, 0, none⟩) 1 1) (w.alloc (.cells cs.toArray elem)) := by
 have hfill : Instr.fill (fun i => some (i * k, k)) ((Array.range (1 * k)).map (Z[· % Z.size]!)) [(0, .agg cs.toArray)] = some cs.toArray := by
  rw [fill_cons _ _ 0 _ _ (0 * k) k rfl (by simpa [Value.cells] using hl) (by simp)]
  simp only [Instr.fill, Nat.zero_mul]
  rw [splice_whole _ _ (by simp [Value.cells, hl])]
  simp [Value.cells]
 have h1 : ¬ (1 * k > 2 ^ 24) := by omega
 have h2 : ¬ (1 * k = 0) := by omega
 simp only [Instr.buildSlice, Sem.run_bind, run_underlying ht, Result.andThen_ok, hz, h1, h2, if_false, Sem.run_pure, hv, Value.cells]
 rw [hfill]
 simp [newRow, newObj]
 rfl
theorem execOp_buildSlice (P : Program) (w : World) (t : TypeId) (x : Operand) (o : Oper) (ho : o.op = .buildSlice t 1 #[(0, x)]) (a : Act) (v : Value) (hx : a.eval x = v) (r : Value) (w' : World) (hr : (Instr.buildSlice t 1 #[(0, v)]).run P w = .ok r w') : (execOp a.eval o).run P w = .ok (.value r) w' := by
 unfold execOp
 simp only [ho, Sem.run_bind]
 simp [hx, hr]
theorem wpList_buildSlice1 {P : Program} {w : World} {ops : Array Oper} {rest : List Oper} {o : Oper} {a : Act} {Q : Exit → Act → World → Prop} (hgd : o.guard = none) (t : TypeId) (x : Operand) (ho : o.op = .buildSlice t 1 #[(0, x)]) (v : Value) (hx : a.eval x = v) (r : Value) (w' : World)
  (hr : (Instr.buildSlice t 1 #[(0, v)]).run P w = .ok r w') (h : wpList P ops Q rest (a.put o.dst r) w') : wpList P ops Q (o :: rest) a w :=
 wpList_plain hgd fun K hK => by
  unfold Oper.wp
  rw [execOp_buildSlice P w t x o ho a v hx r w' hr]
  exact hK _ _ h
theorem buildK (w : World) (k : Key) : (Instr.buildSlice 23 1 #[(0, .agg (encK k).toArray)]).run Tryz.prog w = .ok (.slice (some ⟨w.heap.size, 0, none⟩) 1 1) (w.alloc (.cells (encK k).toArray 28)) :=
 run_buildSlice1 Tryz.prog w 23 28 32 _ Tryz.underlying23 Tryz.sizeOf28 Tryz.zeroValue28 (by decide) (by decide) _ (encK_len k)
end Go.Proofs.YtmgbaefgcdglpaaGreatDoor.Dir
/- spend: a key goes among those that are spent. -/
namespace Go.Proofs.YtmgbaefgcdglpaaGreatDoor.Dir
open Go Go.RowKit Go.Proofs Go.Proofs.YtmgbaefgcdglpaaGreatDoorW.PrintWords Go.Proofs.YtmgbaefgcdglpaaGreatDoorW.PrintLast Go.Proofs.YtmgbaefgcdglpaaGreatDoorW.PrintMore
set_option linter.unusedVariables false
set_option linter.unusedSimpArgs false
theorem run_storeAt1 (P : Program) (w : World) (t : TypeId) (hz : ∀ w, (Go.sizeOf t).run P w = .ok 1 w) (g o : Nat) (v : Value) (hv : v.cells = #[v]) (h1 : v.oneCell' = true) (old : Value) (hc : w.cell? ⟨g, o, none⟩ = some old) (hf : w.frozen? ⟨g, o, none⟩ = false) :
  (Instr.storeAt t (.pointer (some ⟨g, o, none⟩)) v).run P w = .ok () (w.setCell ⟨g, o, none⟩ v) := by
 simp only [Instr.storeAt, Instr.sureAddr, storeVar, Sem.run_bind, Sem.run_pure, Result.andThen_ok, hz, hv]
 have e : (⟨g, o, none⟩ : Addr).add 0 = ⟨g, o, none⟩ := by rw [add_at]; rfl
 simp [storeCells, run_store P w _ v _ h1, e, hc, hf]
structure OnBook (w W : World) (base q : Nat) (B : Book) (A1 : Option Addr) (c1 : Nat) (A2 : Option Addr) (c2 bx : Nat) (cs : List Value) (T : TypeId) : Prop where
 nx : NextIs W base q B A1 c1 A2 c2
 bx : W.heap[bx]? = some (.cells cs.toArray T (0, 0))
 all : Below w.heap.size w W
 le : base ≤ w.heap.size
section
variable {w W W' : World} {base q : Nat} {B : Book} {A1 : Option Addr} {c1 : Nat} {A2 : Option Addr} {c2 bx : Nat} {cs : List Value} {T : TypeId}
theorem OnBook.fr (h : OnBook w W base q B A1 c1 A2 c2 bx cs T) : Below base w W := h.all.mono h.le
theorem OnBook.later (h : OnBook w W base q B A1 c1 A2 c2 bx cs T) (hb : Below W.heap.size W W') : OnBook w W' base q B A1 c1 A2 c2 bx cs T :=
 ⟨h.nx.below hb, (hb.block _ (Array.getElem?_eq_some_iff.1 h.bx).1).trans h.bx, below_step h.all hb, h.le⟩
theorem OnBook.drew (h : OnBook w W base q B A1 c1 A2 c2 bx cs T) : OnBook w W.drew base q B A1 c1 A2 c2 bx cs T := h.later (Below.refl _ W).drew
theorem OnBook.keep (h : OnBook w W base q B A1 c1 A2 c2 bx cs T) (hg : W.grownBy W' (Value.slice A2 B.spent.length c2).ownBlock) :
  W'.heap[q]? = some (.cells (bookCells B A1 c1 A2 c2).toArray 25 (0, 0)) ∧ W'.cell? ⟨q, 3, none⟩ = some (.slice A2 B.spent.length c2) ∧ W'.frozen? ⟨q, 3, none⟩ = false := by
 have hq : W'.heap[q]? = some (.cells (bookCells B A1 c1 A2 c2).toArray 25 (0, 0)) := (hg.block q h.nx.lt (fun e => own_ne h.nx.lists.2.1 h.nx.box (by decide) e)).trans h.nx.box
 refine ⟨hq, ?_, ?_⟩
 ·rw [cell_of_heap hq]; rfl
 ·exact frozen_of_heap hq
end
theorem ownsRow_setCell_other {w : World} {base : Nat} {e : TypeId} {size n : Nat} {v : Value} {xs : List Value} (h : w.ownsRow base e size v n xs) {a : Addr} (ha : ∀ k, v.ownBlock = some k → k ≠ a.block) (u : Value) : (w.setCell a u).ownsRow base e size v n xs := by
 obtain ⟨h1, h2⟩ := h
 refine ⟨h1, ?_⟩
 rcases h2 with h2 | ⟨g, cap, cur, hv, hg, hh, r⟩
 ·exact Or.inl h2
 ·exact Or.inr ⟨g, cap, cur, hv, hg, by rw [Below.heap_setCell _ _ _ _ (ha g (by rw [hv]; rfl))]; exact hh, r⟩
end Go.Proofs.YtmgbaefgcdglpaaGreatDoor.Dir
end
section
namespace Go.Proofs.YtmgbaefgcdglpaaGreatDoor.Dir
open Go Go.RowKit Go.Proofs Go.Proofs.YtmgbaefgcdglpaaGreatDoorW.PrintWords Go.Proofs.YtmgbaefgcdglpaaGreatDoorW.PrintLast Go.Proofs.YtmgbaefgcdglpaaGreatDoorW.PrintMore
set_option linter.unusedVariables false
set_option linter.unusedSimpArgs false
theorem src_cell {w W : World} {g o n size : Nat} {xs : List Value} (h : SrcAt w (some ⟨g, o, none⟩) n size xs) (hb : Below w.heap.size w W) {j : Nat} {v : Value} (hj : xs[j]? = some v) : W.cell? ⟨g, o + j, none⟩ = some v := by
 have h' := h.2.2 _ rfl j v hj
 rw [add_at] at h'
 rw [hb.cell (World.block_lt_of_cell? w _ h')]
 exact h'
theorem load_devS {w W : World} {g o n : Nat} {l : List Dev} (h : SrcAt w (some ⟨g, o, none⟩) n 35 (flatD l)) (hb : Below w.heap.size w W) {j : Nat} {d : Dev} (hj : l[j]? = some d) :
  (Instr.loadAt 85 (.pointer (some ⟨g, o + j * 35, none⟩))).run Tryz.prog W = .ok (.agg (encD d).toArray) W :=
 run_loadAtK Tryz.prog W 85 35 Tryz.isAgg85 Tryz.sizeOf85 g (o + j * 35) (encD d) (encD_len _) (fun i v hv => by rw [Nat.add_assoc]; exact src_cell h hb (flatMap_at encD 35 encD_len l j d hj i v hv))
def Bare (A : Option Addr) : Prop := ∀ a, A = some a → ∃ g o, a = ⟨g, o, none⟩
theorem flatK_one_more (l : List Key) (k : Key) : flatK (l ++ [k]) = flatK l ++ encK k := by unfold flatK; rw [List.flatMap_append]; simp
theorem flatK_append (a b : List Key) : flatK (a ++ b) = flatK a ++ flatK b := List.flatMap_append
end Go.Proofs.YtmgbaefgcdglpaaGreatDoor.Dir
/- slices.Contains at keys. -/
namespace Go.Proofs.YtmgbaefgcdglpaaGreatDoor.Dir
open Go Go.RowKit Go.Proofs Go.Proofs.YtmgbaefgcdglpaaGreatDoorW.PrintWords Go.Proofs.YtmgbaefgcdglpaaGreatDoorW.PrintLast Go.Proofs.YtmgbaefgcdglpaaGreatDoorW.PrintMore
set_option linter.unusedVariables false
set_option linter.unusedSimpArgs false
end Go.Proofs.YtmgbaefgcdglpaaGreatDoor.Dir
/- fresh: what is wrong with an op's key and expiry. -/
namespace Go.Proofs.YtmgbaefgcdglpaaGreatDoor.Dir
open Go Go.RowKit Go.Proofs Go.Proofs.YtmgbaefgcdglpaaGreatDoorW.PrintWords Go.Proofs.YtmgbaefgcdglpaaGreatDoorW.PrintLast Go.Proofs.YtmgbaefgcdglpaaGreatDoorW.PrintMore
set_option linter.unusedVariables false
set_option linter.unusedSimpArgs false
theorem tailOfO (o : Op) (j : Nat) : (encO o)[34 + j]? = ([.int .i64 o.exp, .string ⟨o.text.toArray⟩, .int .i64 o.at_] : List Value)[j]? := by
 show (Value.int .i64 o.kind :: .int .i64 o.node :: (encK o.key ++ _))[34 + j]? = _
 rw [show 34 + j = (32 + j + 1) + 1 by omega, List.getElem?_cons_succ, List.getElem?_cons_succ, List.getElem?_append_right (by rw [encK_len]; omega), encK_len, show 32 + j - 32 = j by omega]
theorem OnBook.op {w W : World} {base q : Nat} {B : Book} {A1 : Option Addr} {c1 : Nat} {A2 : Option Addr} {c2 bx : Nat} {o : Op} (h : OnBook w W base q B A1 c1 A2 c2 bx (encO o) 36) :
  W.cell? ⟨bx, 0, none⟩ = some (.int .i64 o.kind) ∧ W.cell? ⟨bx, 1, none⟩ = some (.int .i64 o.node) ∧ W.cell? ⟨bx, 34, none⟩ = some (.int .i64 o.exp) ∧ W.cell? ⟨bx, 35, none⟩ = some (.string ⟨o.text.toArray⟩) ∧ W.cell? ⟨bx, 36, none⟩ = some (.int .i64 o.at_) := by
 refine ⟨?_, ?_, ?_, ?_, ?_⟩
 ·rw [cell_of_heap h.bx]; rfl
 ·rw [cell_of_heap h.bx]; rfl
 ·rw [cell_of_heap h.bx]; exact tailOfO o 0
 ·rw [cell_of_heap h.bx]; exact tailOfO o 1
 ·rw [cell_of_heap h.bx]; exact tailOfO o 2
theorem OnBook.start (w : World) {base q : Nat} {B : Book} {A1 : Option Addr} {c1 : Nat} {A2 : Option Addr} {c2 : Nat} (h : NextIs w base q B A1 c1 A2 c2) (hb : base ≤ w.heap.size) (cs : List Value) (T : TypeId) : OnBook w (w.alloc (.cells cs.toArray T)) base q B A1 c1 A2 c2 w.heap.size cs T :=
 ⟨h.below ((Below.refl _ w).alloc (Nat.le_refl _) _), heap_alloc_new w _, (Below.refl _ w).alloc (Nat.le_refl _) _, hb⟩
def zeroKey : Array Value := #[.int .u8 0, .int .u8 0, .int .u8 0, .int .u8 0, .int .u8 0, .int .u8 0, .int .u8 0, .int .u8 0, .int .u8 0, .int .u8 0, .int .u8 0, .int .u8 0, .int .u8 0, .int .u8 0, .int .u8 0, .int .u8 0, .int .u8 0, .int .u8 0, .int .u8 0, .int .u8 0, .int .u8 0, .int .u8 0, .int .u8 0, .int .u8 0, .int .u8 0, .int .u8 0, .int .u8 0, .int .u8 0, .int .u8 0, .int .u8 0, .int .u8 0, .int .u8 0]
theorem zeroKey_eq : (encK key0).toArray = zeroKey := rfl
theorem taken_len (B : Book) (h : Few B) : (takenB B).length ≤ 100 := by
 unfold takenB
 rw [List.length_append, List.length_map]
 have h1 := h.1; have h2 := h.2
 omega
end Go.Proofs.YtmgbaefgcdglpaaGreatDoor.Dir
end
section
namespace Go.Proofs.YtmgbaefgcdglpaaGreatDoor.Dir
open Go Go.RowKit Go.Proofs Go.Proofs.YtmgbaefgcdglpaaGreatDoorW.PrintWords Go.Proofs.YtmgbaefgcdglpaaGreatDoorW.PrintLast Go.Proofs.YtmgbaefgcdglpaaGreatDoorW.PrintMore
set_option linter.unusedVariables false
set_option linter.unusedSimpArgs false
theorem splice_mid {α : Type} (T M D cs : List α) (off : Nat) (h : off + cs.length ≤ M.length) : splice (T ++ (M ++ D)) (T.length + off) cs = T ++ (splice M off cs ++ D) := by
 unfold splice
 rw [List.take_append, List.take_of_length_le (by omega), show T.length + off - T.length = off by omega, List.take_append_of_le_length (by omega),
  List.drop_append, List.drop_eq_nil_of_le (by omega), List.nil_append, show T.length + off + cs.length - T.length = off + cs.length by omega, List.drop_append_of_le_length (by omega)]
 simp only [List.append_assoc]
theorem splice_front {α : Type} (M D cs : List α) (off : Nat) (h : off + cs.length ≤ M.length) : splice (M ++ D) off cs = splice M off cs ++ D := by
 have := splice_mid [] M D cs off h
 simpa using this
theorem flat_parts {α : Type} (f : α → List Value) (k : Nat) (hk : ∀ x, (f x).length = k) (l : List α) (i : Nat) (d : α) (hd : l[i]? = some d) : l.flatMap f = (l.take i).flatMap f ++ (f d ++ (l.drop (i + 1)).flatMap f) ∧ ((l.take i).flatMap f).length = i * k := by
 have hlen : ∀ l : List α, (l.flatMap f).length = l.length * k := fun l => by
  induction l with
  | nil => simp
  | cons a l ih => rw [List.flatMap_cons, List.length_append, hk, ih, List.length_cons, Nat.add_mul]; omega
 obtain ⟨hlt, rfl⟩ := List.getElem?_eq_some_iff.1 hd
 refine ⟨?_, by rw [hlen, List.length_take, Nat.min_eq_left (Nat.le_of_lt hlt)]⟩
 conv => lhs; rw [← List.take_append_drop i l, List.drop_eq_getElem_cons hlt]
 rw [List.flatMap_append, List.flatMap_cons]
theorem flat_set {α : Type} (f : α → List Value) (k : Nat) (hk : ∀ x, (f x).length = k) (l : List α) (i : Nat) (d d' : α) (hd : l[i]? = some d) (off : Nat) (cs : List Value) (ho : off + cs.length ≤ k) (he : f d' = splice (f d) off cs) :
  (l.set i d').flatMap f = splice (l.flatMap f) (i * k + off) cs := by
 obtain ⟨e1, e2⟩ := flat_parts f k hk l i d hd
 have hlt := (List.getElem?_eq_some_iff.1 hd).1
 obtain ⟨e3, e4⟩ := flat_parts f k hk (l.set i d') i d' (by rw [List.getElem?_set, if_pos rfl, if_pos hlt])
 rw [e1, ← e2, splice_mid _ _ _ _ _ (by rw [hk]; omega), ← he, e3]
 rw [List.take_set_of_le (Nat.le_refl i), List.drop_set_of_lt (Nat.lt_succ_self i)]
end Go.Proofs.YtmgbaefgcdglpaaGreatDoor.Dir
end
