/- The document's directory, word by word: what its functions read and write. -/
import Derived.Test.YthnpiimiimiijaaGreatDoorDirLoad
namespace Go.Proofs.YthnpiimiimiijaaGreatDoor.Dir
open Go Go.RowKit Go.Proofs Go.Proofs.YthnpiimiimiijaaGreatDoorW.PrintWords Go.Proofs.YthnpiimiimiijaaGreatDoorW.PrintLast Go.Proofs.YthnpiimiimiijaaGreatDoorW.PrintMore
set_option linter.unusedVariables false
set_option linter.unusedSimpArgs false
/-- A book in the block b, in worlds behind w. -/
structure InB (w W : World) (b : Nat) (B : Book) (A1 : Option Addr) (c1 : Nat) (A2 : Option Addr) (c2 : Nat) : Prop where
 fr : Below w.heap.size w W
 bx : W.heap[b]? = some (.cells (bookCells B A1 c1 A2 c2).toArray 43 (0, 0))
 src : SrcB W B A1 A2
section
variable {w W W' : World} {b : Nat} {B : Book} {A1 : Option Addr} {c1 : Nat} {A2 : Option Addr} {c2 : Nat}
theorem InB.start (h : SrcB w B A1 A2) : InB w (w.alloc (.cells (bookCells B A1 c1 A2 c2).toArray 43)) w.heap.size B A1 c1 A2 c2 :=
 ⟨(Below.refl _ w).alloc (Nat.le_refl _) _, heap_alloc_new w _, h.later ((Below.refl _ w).alloc (Nat.le_refl _) _)⟩
theorem InB.later (h : InB w W b B A1 c1 A2 c2) (hb : Below W.heap.size W W') : InB w W' b B A1 c1 A2 c2 :=
 ⟨below_step h.fr hb, (hb.block _ (Array.getElem?_eq_some_iff.1 h.bx).1).trans h.bx, h.src.later hb⟩
theorem InB.base {V : World} (h : InB w W b B A1 c1 A2 c2) (h0 : Below V.heap.size V W) (h1 : Below V.heap.size W W') (hV : InB w V b B A1 c1 A2 c2) : InB w W' b B A1 c1 A2 c2 := hV.later (h0.trans h1)
theorem InB.lt (h : InB w W b B A1 c1 A2 c2) : b < W.heap.size := (Array.getElem?_eq_some_iff.1 h.bx).1
theorem InB.cells (h : InB w W b B A1 c1 A2 c2) : W.cell? ⟨b, 0, none⟩ = some (.int .i64 B.ver) ∧ W.cell? ⟨b, 1, none⟩ = some (.int .i64 B.clock) ∧ W.cell? ⟨b, 2, none⟩ = some (.slice A1 B.devs.length c1) ∧ W.cell? ⟨b, 3, none⟩ = some (.slice A2 B.spent.length c2) ∧ W.cell? ⟨b, 4, none⟩ = some (.string (str B.acl)) := by
 have hq := h.bx
 refine ⟨?_, ?_, ?_, ?_, ?_⟩ <;> (rw [cell_of_heap hq]; rfl)
theorem InB.load (h : InB w W b B A1 c1 A2 c2) : (Instr.loadAt 43 (.pointer (some ⟨b, 0, none⟩))).run Tryz.prog W = .ok (.agg (bookCells B A1 c1 A2 c2).toArray) W :=
 run_loadAtK Tryz.prog W 43 5 Tryz.isAgg43 Tryz.sizeOf43 b 0 (bookCells B A1 c1 A2 c2) rfl (cells_of_heap h.bx)
theorem SrcB.devc (h : SrcB w B A1 A2) {j : Nat} {d : Dev} (hd : B.devs[j]? = some d) : ∃ g o, A1 = some ⟨g, o, none⟩ ∧ ∀ W, Below w.heap.size w W → ∀ i v, (encD d)[i]? = some v → W.cell? ⟨g, o + j * 35 + i, none⟩ = some v := by
 obtain ⟨g, o, rfl, -⟩ := h.dev hd
 exact ⟨g, o, rfl, fun W hb i v hv => by rw [Nat.add_assoc]; exact src_cell h.devs hb (flatMap_at encD 35 encD_len B.devs j d hd i v hv)⟩
end
theorem bdn {B : Nat} {a w : World} (h : Below B a w) (n : Nat) : Below B a (w.drewN n) := h.trans ⟨rfl, rfl, rfl, Nat.le_refl _, fun _ _ => rfl⟩
/-- Keys, or devices, in memory of the call's own. -/
def OwnK (w : World) (base : Nat) (A : Option Addr) (c : Nat) (l : List Key) : Prop := w.ownsRow base 34 32 (.slice A l.length c) l.length (flatK l)
def OwnD (w : World) (base : Nat) (A : Option Addr) (c : Nat) (l : List Dev) : Prop := w.ownsRow base 46 35 (.slice A l.length c) l.length (flatD l)
theorem ownK_nil (w : World) (base : Nat) : OwnK w base none 0 [] := World.ownsRow_nil _ _ _ _
theorem ownD_nil (w : World) (base : Nat) : OwnD w base none 0 [] := World.ownsRow_nil _ _ _ _
theorem OwnK.below {w W : World} {base : Nat} {A : Option Addr} {c : Nat} {l : List Key} (h : OwnK w base A c l) (hb : Below w.heap.size w W) : OwnK W base A c l := pw_own_below h hb
theorem OwnD.below {w W : World} {base : Nat} {A : Option Addr} {c : Nat} {l : List Dev} (h : OwnD w base A c l) (hb : Below w.heap.size w W) : OwnD W base A c l := pw_own_below h hb
theorem OwnK.src {w : World} {base : Nat} {A : Option Addr} {c : Nat} {l : List Key} (h : OwnK w base A c l) : SrcAt w A l.length 32 (flatK l) := by
 obtain ⟨A', c', e, hs, -⟩ := src_owns h
 cases e
 exact hs
theorem OwnD.src {w : World} {base : Nat} {A : Option Addr} {c : Nat} {l : List Dev} (h : OwnD w base A c l) : SrcAt w A l.length 35 (flatD l) := by
 obtain ⟨A', c', e, hs, -⟩ := src_owns h
 cases e
 exact hs
theorem below_own {w w' : World} {base : Nat} {e : TypeId} {size n : Nat} {v : Value} {xs : List Value} (h : w.ownsRow base e size v n xs) (hg : w.grownBy w' v.ownBlock) (hb : base ≤ w.heap.size) : Below base w w' :=
 (Below.refl base w).grown hg hb (fun k hk => own_base h k hk)
/-- What append needs of a type of slices. -/
def AppT (t e : TypeId) (size bytes : Nat) : Prop := Tryz.prog.underlying t = some (.slice e) ∧ ∃ i z, Tryz.prog.info? e = some i ∧ i.zero = some z ∧ i.size = size ∧ i.bytes = bytes ∧ z.cells.size = size ∧ 0 < size
theorem appT_of {t e : TypeId} {size bytes : Nat} (ht : Tryz.prog.underlying t = some (.slice e)) (hi : (Tryz.prog.info? e).map (fun i => (i.size, i.bytes)) = some (size, bytes)) (hz : ∃ z, ((Tryz.prog.info? e).bind (·.zero)) = some z ∧ z.cells.size = size) (hp : 0 < size) : AppT t e size bytes := by
 obtain ⟨z, hz, hzs⟩ := hz
 obtain ⟨i0, hi0⟩ : ∃ i0, Tryz.prog.info? e = some i0 := by
  cases h : Tryz.prog.info? e with
  | some i => exact ⟨i, rfl⟩
  | none => rw [h] at hi; cases hi
 rw [hi0] at hi hz
 simp only [Option.map_some, Option.some.injEq, Prod.mk.injEq, Option.bind_some] at hi hz
 exact ⟨ht, i0, z, hi0, hz, hi.1, hi.2, hzs, hp⟩
theorem appK : AppT 41 34 32 32 := appT_of Tryz.underlying41 info34 zero34 (by decide)
theorem appD : AppT 40 46 35 56 := appT_of Tryz.underlying40 info46 zero46 (by decide)
theorem run_app {t e : TypeId} {size bytes : Nat} (T : AppT t e size bytes) (w : World) (ty : TypeId) (base n c m c2 : Nat) (A A2 : Option Addr) (xs ys : List Value) (hown : w.ownsRow base e size (.slice A n c) n xs) (hs : SrcAt w A2 m size ys) (h1 : ∀ u ∈ ys, u.oneCell' = true) (hsz : (n + m) * bytes ≤ 140737488355328) (hmx : n + m ≤ maxLen) (hb : base ≤ w.heap.size) :
  ∃ A' c' w', (Builtin.append_ #[t, t] ty #[.slice A n c, .slice A2 m c2]).run Tryz.prog w = .ok (.slice A' (n + m) c') w' ∧ w'.ownsRow base e size (.slice A' (n + m) c') (n + m) (xs ++ ys) ∧ w.grownBy w' (Value.slice A n c).ownBlock := by
 obtain ⟨ht, i, z, hi, hz, e1, e2, e3, e4⟩ := T
 cases A2 with
 | some a =>
  obtain ⟨v', w', hr, h2, h3, -⟩ := run_append_own (P := Tryz.prog) w base t ty e i z size bytes ht hi hz e1 e2 e3 e4 (.slice A n c) n xs hown a m c2 ys hs.1 (hs.2.2 a rfl) h1 hmx hsz hb
  obtain ⟨A', c', rfl, -, -⟩ := src_owns h2
  exact ⟨A', c', w', hr, h2, h3⟩
 | none =>
  obtain rfl := hs.2.1 rfl
  have : ys = [] := List.eq_nil_of_length_eq_zero (by simpa using hs.1)
  subst this
  refine ⟨A, c, w, ?_, by simpa using hown, grownBy_refl _ _⟩
  rcases hown.2 with ⟨he, _⟩ | ⟨g, cap, cur, he, _, _, hnc, _⟩
  ·cases he
   simp [Builtin.append_, run_underlying ht, sizeOf, typeInfo, hi, Builtin.lenOf, Builtin.firstCells]
  ·cases he
   simp [Builtin.append_, run_underlying ht, sizeOf, typeInfo, hi, Builtin.lenOf, Builtin.firstCells, hnc, storeCells]
theorem exec_app {t e : TypeId} {size bytes : Nat} (T : AppT t e size bytes) (w : World) (base n c m c2 : Nat) (A A2 : Option Addr) (xs ys : List Value) (hown : w.ownsRow base e size (.slice A n c) n xs) (hs : SrcAt w A2 m size ys) (h1 : ∀ u ∈ ys, u.oneCell' = true) (hsz : (n + m) * bytes ≤ 140737488355328) (hmx : n + m ≤ maxLen) (hb : base ≤ w.heap.size)
  (o : Oper) (s x : Operand) (a : Act) (ho : o.op = .call { callee := .builtin .append, args := #[s, x], argTypes := #[t, t] }) (es : a.eval s = .slice A n c) (ex : a.eval x = .slice A2 m c2) :
  ∃ A' c' w', (execOp a.eval o).run Tryz.prog w = .ok (.value (.slice A' (n + m) c')) w' ∧ w'.ownsRow base e size (.slice A' (n + m) c') (n + m) (xs ++ ys) ∧ w.grownBy w' (Value.slice A n c).ownBlock := by
 obtain ⟨A', c', w', hr, h2, h3⟩ := run_app T w o.type base n c m c2 A A2 xs ys hown hs h1 hsz hmx hb
 refine ⟨A', c', w', ?_, h2, h3⟩
 unfold execOp
 simp only [ho, resolve, invoke, builtin, Sem.run_bind, Sem.run_pure, Result.andThen_ok, List.map_toArray, List.map_cons, List.map_nil, es, ex, hr]
section
variable {w : World} {ops : Array Oper} {rest : List Oper} {o : Oper} {a : Act} {Q : Exit → Act → World → Prop}
theorem wpList_app (hgd : o.guard = none) (s x : Operand) {t e : TypeId} {size bytes : Nat} (T : AppT t e size bytes) (ho : o.op = .call { callee := .builtin .append, args := #[s, x], argTypes := #[t, t] })
  (base n c m c2 : Nat) (A A2 : Option Addr) (xs ys : List Value) (es : a.eval s = .slice A n c) (hown : w.ownsRow base e size (.slice A n c) n xs) (ex : a.eval x = .slice A2 m c2) (hs : SrcAt w A2 m size ys) (h1 : ∀ u ∈ ys, u.oneCell' = true) (hsz : (n + m) * bytes ≤ 140737488355328) (hmx : n + m ≤ maxLen) (hb : base ≤ w.heap.size)
  (h : ∀ A' c' w', w'.ownsRow base e size (.slice A' (n + m) c') (n + m) (xs ++ ys) → w.grownBy w' (Value.slice A n c).ownBlock → wpList Tryz.prog ops Q rest (a.put o.dst (.slice A' (n + m) c')) w') : wpList Tryz.prog ops Q (o :: rest) a w := by
 refine wpList_plain hgd fun K hK => ?_
 obtain ⟨A', c', w', hr, h2, h3⟩ := exec_app T w base n c m c2 A A2 xs ys hown hs h1 hsz hmx hb o s x a ho es ex
 unfold Oper.wp
 rw [hr]
 exact hK _ _ (h A' c' w' h2 h3)
/-- A list behind a list of the call's own. -/
theorem wpList_appK (hgd : o.guard = none) (s x : Operand) (ho : o.op = .call { callee := .builtin .append, args := #[s, x], argTypes := #[41, 41] })
  (base : Nat) (A : Option Addr) (c : Nat) (l : List Key) (es : a.eval s = .slice A l.length c) (hown : OwnK w base A c l) (A2 : Option Addr) (c2 : Nat) (l2 : List Key) (ex : a.eval x = .slice A2 l2.length c2) (hs : SrcAt w A2 l2.length 32 (flatK l2)) (hl : l.length + l2.length ≤ 4398046511104) (hb : base ≤ w.heap.size)
  (h : ∀ A' c' w', OwnK w' base A' c' (l ++ l2) → Below base w w' → w.heap.size ≤ w'.heap.size → wpList Tryz.prog ops Q rest (a.put o.dst (.slice A' (l ++ l2).length c')) w') : wpList Tryz.prog ops Q (o :: rest) a w :=
 wpList_app hgd s x appK ho base l.length c l2.length c2 A A2 (flatK l) (flatK l2) es hown ex hs (flatK_one _) (by omega) (by unfold maxLen; omega) hb fun A' c' w' h2 h3 => by
  have hk : OwnK w' base A' c' (l ++ l2) := by unfold OwnK; rw [flatK_append, List.length_append]; exact h2
  have := h A' c' w' hk (below_own hown h3 hb) h3.size
  rwa [List.length_append] at this
theorem flatD_append (a b : List Dev) : flatD (a ++ b) = flatD a ++ flatD b := List.flatMap_append
theorem flatD_one' (l : List Dev) : ∀ u ∈ flatD l, u.oneCell' = true := fun u hu => by
 obtain ⟨d, -, hd⟩ := List.mem_flatMap.1 hu
 exact encD_one d u hd
theorem wpList_appD (hgd : o.guard = none) (s x : Operand) (ho : o.op = .call { callee := .builtin .append, args := #[s, x], argTypes := #[40, 40] })
  (base : Nat) (A : Option Addr) (c : Nat) (l : List Dev) (es : a.eval s = .slice A l.length c) (hown : OwnD w base A c l) (A2 : Option Addr) (c2 : Nat) (l2 : List Dev) (ex : a.eval x = .slice A2 l2.length c2) (hs : SrcAt w A2 l2.length 35 (flatD l2)) (hl : l.length + l2.length ≤ 2513169434916) (hb : base ≤ w.heap.size)
  (h : ∀ A' c' w', OwnD w' base A' c' (l ++ l2) → Below base w w' → w.heap.size ≤ w'.heap.size → wpList Tryz.prog ops Q rest (a.put o.dst (.slice A' (l ++ l2).length c')) w') : wpList Tryz.prog ops Q (o :: rest) a w :=
 wpList_app hgd s x appD ho base l.length c l2.length c2 A A2 (flatD l) (flatD l2) es hown ex hs (flatD_one' _) (by omega) (by unfold maxLen; omega) hb fun A' c' w' h2 h3 => by
  have hk : OwnD w' base A' c' (l ++ l2) := by unfold OwnD; rw [flatD_append, List.length_append]; exact h2
  have := h A' c' w' hk (below_own hown h3 hb) h3.size
  rwa [List.length_append] at this
theorem src_new {T : TypeId} {size : Nat} {cs : List Value} {b : Nat} (h : w.heap[b]? = some (.cells cs.toArray T (0, 0))) (hl : cs.length = size) : SrcAt w (some ⟨b, 0, none⟩) 1 size cs :=
 ⟨by omega, fun e => (by cases e), fun a ha j u hj => (by cases ha; rw [add_at, Nat.zero_add, cell_of_heap h]; exact hj)⟩
end
/-- A key more, a device more: the literal of one, and append. -/
theorem wpList_pushK {w : World} {ops : Array Oper} {rest : List Oper} {o o2 : Oper} {a : Act} {Q : Exit → Act → World → Prop} (hgd : o.guard = none) (hgd2 : o2.guard = none) (x s y : Operand) (ho : o.op = .buildSlice 41 1 #[(0, x)]) (ho2 : o2.op = .call { callee := .builtin .append, args := #[s, y], argTypes := #[41, 41] })
  (k : Key) (ex : a.eval x = .agg (encK k).toArray) (base : Nat) (A : Option Addr) (c n : Nat) (l : List Key) (hown : OwnK w base A c l) (es : (a.put o.dst (.slice (some ⟨w.heap.size, 0, none⟩) 1 1)).eval s = .slice A n c) (hn : l.length = n) (ey : (a.put o.dst (.slice (some ⟨w.heap.size, 0, none⟩) 1 1)).eval y = .slice (some ⟨w.heap.size, 0, none⟩) 1 1) (hl : l.length ≤ 100000000000) (hb : base ≤ w.heap.size)
  (h : ∀ A' c' w', OwnK w' base A' c' (l ++ [k]) → Below base w w' → w.heap.size ≤ w'.heap.size → wpList Tryz.prog ops Q rest ((a.put o.dst (.slice (some ⟨w.heap.size, 0, none⟩) 1 1)).put o2.dst (.slice A' (l ++ [k]).length c')) w') : wpList Tryz.prog ops Q (o :: o2 :: rest) a w := by
 subst hn
 refine wpList_buildSlice1 hgd 41 x ho _ ex _ _ (buildK w k) ?_
 have hbw := (Below.refl w.heap.size w).alloc (Nat.le_refl _) (.cells (encK k).toArray 34)
 refine wpList_appK hgd2 s y ho2 base A c l es (hown.below hbw) (some ⟨w.heap.size, 0, none⟩) 1 [k] ey ?_ (by simp; omega) (Nat.le_trans hb hbw.size) fun A' c' w' h1 h2 h3 => h A' c' w' h1 ((hbw.mono hb).trans h2) (Nat.le_trans hbw.size h3)
 rw [show flatK [k] = encK k by unfold flatK; simp]
 exact src_new (heap_alloc_new w _) (encK_len k)
theorem wpList_pushD {w : World} {ops : Array Oper} {rest : List Oper} {o o2 : Oper} {a : Act} {Q : Exit → Act → World → Prop} (hgd : o.guard = none) (hgd2 : o2.guard = none) (x s y : Operand) (ho : o.op = .buildSlice 40 1 #[(0, x)]) (ho2 : o2.op = .call { callee := .builtin .append, args := #[s, y], argTypes := #[40, 40] })
  (k : Dev) (ex : a.eval x = .agg (encD k).toArray) (base : Nat) (A : Option Addr) (c n : Nat) (l : List Dev) (hown : OwnD w base A c l) (es : (a.put o.dst (.slice (some ⟨w.heap.size, 0, none⟩) 1 1)).eval s = .slice A n c) (hn : l.length = n) (ey : (a.put o.dst (.slice (some ⟨w.heap.size, 0, none⟩) 1 1)).eval y = .slice (some ⟨w.heap.size, 0, none⟩) 1 1) (hl : l.length ≤ 100000000000) (hb : base ≤ w.heap.size)
  (h : ∀ A' c' w', OwnD w' base A' c' (l ++ [k]) → Below base w w' → w.heap.size ≤ w'.heap.size → wpList Tryz.prog ops Q rest ((a.put o.dst (.slice (some ⟨w.heap.size, 0, none⟩) 1 1)).put o2.dst (.slice A' (l ++ [k]).length c')) w') : wpList Tryz.prog ops Q (o :: o2 :: rest) a w := by
 subst hn
 refine wpList_buildSlice1 hgd 40 x ho _ ex _ _ (buildD w k) ?_
 have hbw := (Below.refl w.heap.size w).alloc (Nat.le_refl _) (.cells (encD k).toArray 46)
 refine wpList_appD hgd2 s y ho2 base A c l es (hown.below hbw) (some ⟨w.heap.size, 0, none⟩) 1 [k] ey ?_ (by simp; omega) (Nat.le_trans hb hbw.size) fun A' c' w' h1 h2 h3 => h A' c' w' h1 ((hbw.mono hb).trans h2) (Nat.le_trans hbw.size h3)
 rw [show flatD [k] = encD k by unfold flatD; simp]
 exact src_new (heap_alloc_new w _) (encD_len k)
/-- A wide load in a region that draws its order and only reads. -/
theorem wpQuiet_loadK {P : Program} {ops : Array Oper} {C : World → Prop} {Q : Act → Prop} {rest : List Oper} {o : Oper} {a : Act} (t : TypeId) (x : Operand) (ho : o.op = .load t x) (p : Value) (hx : a.eval x = p) (v : Value) (hw : Region.wanted o (yielded ops a.tmps) = true)
  (hr : ∀ w, C w → (Instr.loadAt t p).run P w = .ok v w) (h : wpQuiet P ops C Q rest (a.put o.dst v)) : wpQuiet P ops C Q (o :: rest) a :=
 BigFrame.wpQuiet_want hw fun K hK => ⟨v, fun w hc => by unfold Oper.quietAt; rw [execOp_load t x o ho, hx, hr w hc]; exact ⟨rfl, rfl⟩, hK _ h⟩
/-- A call in one, that makes memory at most. -/
theorem wpQuiet_callK {P : Program} {ops : Array Oper} {C : World → Prop} {Q : Act → Prop} {rest : List Oper} {o : Oper} {a : Act} {f : FuncId} {fn : Func} {os : Array Operand} {ts : Array TypeId} (hf : P.funcs[f]? = some fn) (hname : (fn.name == "runtime.NumGoroutine") = false) (hb : fn.body.isSome = true) (args : Array Value)
  (hop : o.op = .call { callee := .value (.func f), args := os, argTypes := ts }) (hargs : os.map a.eval = args) (v : Value) (hw : Region.wanted o (yielded ops a.tmps) = true)
  (hr : ∀ w, C w → Calls P f args w fun e w' => e = .returned v ∧ C w') (h : wpQuiet P ops C Q rest (a.put o.dst v)) : wpQuiet P ops C Q (o :: rest) a :=
 BigFrame.wpQuiet_want hw fun K hK => ⟨v, fun w hc => by
  unfold Oper.quietAt
  have he := enters_ hf hname hb args w
  have hx : (execOp a.eval o).run P w = .ok (.enter f args) w := by
   unfold execOp
   simp [hop, resolve, Deferred.ofValue, invoke, Act.eval, hargs, he]
  rw [hx]
  exact ⟨rfl, hr w hc⟩, hK _ h⟩
theorem at_ql {P : Program} {ops : Array Oper} {C : World → Prop} {Q : Act → Prop} {rest : List Oper} {dst : Option Tmp} {ty : TypeId} {pos : String} {after : Array Edge} {g : Option (Nat × Bool)} {a : Act} (t : TypeId) (x : Operand) (h : wpQuiet P ops C Q (⟨dst, .load t x, ty, pos, after, g⟩ :: rest) a) : wpQuiet P ops C Q (⟨dst, .load t x, ty, pos, after, g⟩ :: rest) a := h
theorem at_qc {P : Program} {ops : Array Oper} {C : World → Prop} {Q : Act → Prop} {rest : List Oper} {dst : Option Tmp} {ty : TypeId} {pos : String} {after : Array Edge} {g : Option (Nat × Bool)} {a : Act} (f : FuncId) {os : Array Operand} {ts : Array TypeId} (h : wpQuiet P ops C Q (⟨dst, .call { callee := .value (.func f), args := os, argTypes := ts }, ty, pos, after, g⟩ :: rest) a) : wpQuiet P ops C Q (⟨dst, .call { callee := .value (.func f), args := os, argTypes := ts }, ty, pos, after, g⟩ :: rest) a := h
/-- What holds of all worlds behind one holds where it drew. -/
theorem behind_drew {w : World} {R : World → Prop} (h : ∀ W, Below w.heap.size w W → R W) : ∀ W, (∃ n, W = w.drewN n) → R W := fun W hw => by
 obtain ⟨n, rfl⟩ := hw
 exact h _ (bdn (Below.refl _ _) n)
theorem run_load1 {P : Program} {W : World} (t : TypeId) (hA : ∀ w, (isAgg t).run P w = .ok false w) {b o : Nat} {v : Value} (h : W.cell? ⟨b, o, none⟩ = some v) : (Instr.loadAt t (.pointer (some ⟨b, o, none⟩))).run P W = .ok v W := by
 simp [Instr.loadAt, hA, Instr.sureAddr, h, go_sem]
theorem region_quietC {P : Program} {C : World → Prop} {id : Nat} {Q : Exit → Act → World → Prop} {a : Act} {w : World} {l : List Oper} (hm : P.follows .mixedOrders = true) (hB : Region.lexB .any l.toArray = true) (hC : C w.drew)
  (h : wpQuiet P l.toArray C (fun a' => ∀ w', C w' → Q .normal a' w') l a) : (Code.region id l.toArray true).wp P Q a w :=
 wp_region_quiet hm hB hC (by simpa using h)
end Go.Proofs.YthnpiimiimiijaaGreatDoor.Dir
