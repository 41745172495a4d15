/- The document's Parse. -/
import Derived.Test.YthnpiimiimiijaaGreatDoorKp24
section
namespace Go.Proofs.YthnpiimiimiijaaGreatDoor.Dir
open Go Go.RowKit Go.Proofs Go.Proofs.YthnpiimiimiijaaGreatDoorW.PrintWords Go.Proofs.YthnpiimiimiijaaGreatDoorW.PrintLast Go.Proofs.YthnpiimiimiijaaGreatDoorW.PrintMore
set_option linter.unusedVariables false
set_option linter.unusedSimpArgs false
/-- A book on its way, of the document's reader. -/
structure BkR (w W : World) (p q xr : Nat) (B : Book) (A1 : Option Addr) (c1 : Nat) (A2 : Option Addr) (c2 : Nat) (st : St2) : Prop where
 pz : W.heap[p]? = some (.cells (bookCells book0 none 0 none 0).toArray 43 (0, 0))
 bx : W.heap[q]? = some (.cells (bookCells B A1 c1 A2 c2).toArray 43 (0, 0))
 d : OwnD W w.heap.size A1 c1 B.devs
 k : OwnK W w.heap.size A2 c2 B.spent
 rs : RSt W w.heap.size xr st
 b : Below w.heap.size w W
 lo : w.heap.size ≤ q
 lp : w.heap.size ≤ p
 ne : p ≠ q
section
variable {w W W' : World} {p q xr : Nat} {B : Book} {A1 : Option Addr} {c1 : Nat} {A2 : Option Addr} {c2 : Nat} {st st' : St2}
theorem BkR.step (h : BkR w W p q xr B A1 c1 A2 c2 st) (hb : Below w.heap.size W W') (hk : KeptT [119, 162] W W') (hr : RSt W' w.heap.size xr st') : BkR w W' p q xr B A1 c1 A2 c2 st' :=
 ⟨hk _ _ _ _ h.pz (by decide), hk _ _ _ _ h.bx (by decide), own_keptT h.d hk (by decide), own_keptT h.k hk (by decide), hr, h.b.trans hb, h.lo, h.lp, h.ne⟩
theorem BkR.later (h : BkR w W p q xr B A1 c1 A2 c2 st) (hb : Below W.heap.size W W') : BkR w W' p q xr B A1 c1 A2 c2 st :=
 h.step (hb.mono h.b.size) (KeptT.below hb) (h.rs.below hb)
theorem BkR.set (h : BkR w W p q xr B A1 c1 A2 c2 st) (j : Nat) (u : Value) {B' : Book} {A1' : Option Addr} {c1' : Nat} {A2' : Option Addr} {c2' : Nat} (he : (bookCells B A1 c1 A2 c2).set j u = bookCells B' A1' c1' A2' c2')
  (hd : OwnD W w.heap.size A1' c1' B'.devs) (hk : OwnK W w.heap.size A2' c2' B'.spent) : BkR w (W.setCell ⟨q, j, none⟩ u) p q xr B' A1' c1' A2' c2' st := by
 have k1 := KeptT.setCell (j := j) h.bx (by decide : (43 : Nat) ∈ [43]) u
 refine ⟨(Below.heap_setCell _ _ _ _ (fun e => by first | exact h.ne e | exact h.ne e.symm)).trans h.pz, ?_, own_keptT hd k1 (by decide), own_keptT hk k1 (by decide), h.rs.kept k1 (by decide) (by decide) (by decide), h.b.setCell h.lo _, h.lo, h.lp, h.ne⟩
 rw [heap_setCell_same W q j _ _ _ h.bx, ← he]
 simp
theorem BkR.cells (h : BkR w W p q xr B A1 c1 A2 c2 st) : W.cell? ⟨q, 0, none⟩ = some (.int .i64 B.ver) ∧ W.cell? ⟨q, 1, none⟩ = some (.int .i64 B.clock) ∧ W.cell? ⟨q, 2, none⟩ = some (.slice A1 B.devs.length c1) ∧ W.cell? ⟨q, 3, none⟩ = some (.slice A2 B.spent.length c2) ∧ W.cell? ⟨q, 4, none⟩ = some (.string (str B.acl)) := by
 have hq := h.bx
 refine ⟨?_, ?_, ?_, ?_, ?_⟩ <;> (rw [cell_of_heap hq]; rfl)
theorem BkR.frz (h : BkR w W p q xr B A1 c1 A2 c2 st) (j : Nat) : W.frozen? ⟨q, j, none⟩ = false := frozen_of_heap h.bx
theorem BkR.pushD (h : BkR w W p q xr B A1 c1 A2 c2 st) {A' : Option Addr} {c' : Nat} {d : Dev} (ho : OwnD W' w.heap.size A' c' (B.devs ++ [d])) (hb : Below w.heap.size W W') (hk : KeptT [46] W W') :
  BkR w (W'.setCell ⟨q, 2, none⟩ (.slice A' (B.devs.length + 1) c')) p q xr { B with devs := B.devs ++ [d] } A' c' A2 c2 st := by
 have g2 := hk _ _ _ _ h.bx (by decide)
 have k1 := KeptT.setCell (j := 2) g2 (by decide : (43 : Nat) ∈ [43]) (.slice A' (B.devs.length + 1) c')
 refine ⟨(Below.heap_setCell _ _ _ _ (fun e => by first | exact h.ne e | exact h.ne e.symm)).trans (hk _ _ _ _ h.pz (by decide)), ?_, own_keptT ho k1 (by decide), own_keptT (own_keptT h.k hk (by decide)) k1 (by decide), (h.rs.kept hk (by decide) (by decide) (by decide)).kept k1 (by decide) (by decide) (by decide), (h.b.trans hb).setCell h.lo _, h.lo, h.lp, h.ne⟩
 rw [heap_setCell_same W' q 2 _ _ _ g2]
 unfold bookCells
 simp
theorem BkR.pushK (h : BkR w W p q xr B A1 c1 A2 c2 st) {A' : Option Addr} {c' : Nat} {d : Key} (ho : OwnK W' w.heap.size A' c' (B.spent ++ [d])) (hb : Below w.heap.size W W') (hk : KeptT [34] W W') :
  BkR w (W'.setCell ⟨q, 3, none⟩ (.slice A' (B.spent.length + 1) c')) p q xr { B with spent := B.spent ++ [d] } A1 c1 A' c' st := by
 have g2 := hk _ _ _ _ h.bx (by decide)
 have k1 := KeptT.setCell (j := 3) g2 (by decide : (43 : Nat) ∈ [43]) (.slice A' (B.spent.length + 1) c')
 refine ⟨(Below.heap_setCell _ _ _ _ (fun e => by first | exact h.ne e | exact h.ne e.symm)).trans (hk _ _ _ _ h.pz (by decide)), ?_, own_keptT (own_keptT h.d hk (by decide)) k1 (by decide), own_keptT ho k1 (by decide), (h.rs.kept hk (by decide) (by decide) (by decide)).kept k1 (by decide) (by decide) (by decide), (h.b.trans hb).setCell h.lo _, h.lo, h.lp, h.ne⟩
 rw [heap_setCell_same W' q 3 _ _ _ g2]
 unfold bookCells
 simp
end
def RNewEnd (w w' : World) (l : List UInt8) (e : Ending) : Prop := ∃ br, e = .returned (.pointer (some ⟨br, 0, none⟩)) ∧ RR w' w.heap.size br l ∧ Below w.heap.size w w'
set_option maxHeartbeats 4000000 in
theorem new73 (l : List UInt8) (n : Nat) (hn : n = l.length) (A : Option Addr) (c : Nat) (w : World) (h : SrcAt w A l.length 1 (l.map byteV)) (hl : l.length ≤ 140737488355328) :
  Calls Tryz.prog 73 #[.slice A n c] w fun e w' => RNewEnd w w' l e := by
 have H := Aside0.mk (And.intro h hn)
 have HL := Aside0.mk hl
 clear h hl hn
 go_enter Tryz.func73, Tryz.ntmps73
 go_wp2_with (at_builtin; refine wpList_app rfl (.const (.slice none 0 0)) (.tmp 3) appB rfl w.heap.size 0 0 n c none A [] (l.map byteV) rfl (World.ownsRow_nil _ _ _ _) rfl (by rw [H.out.2]; exact H.out.1) (bytes_one _) (by have := HL.out; have := H.out.2; omega) (by have := HL.out; have := H.out.2; unfold maxLen; omega) (Nat.le_refl _) ?_; intro A' c' w5 h1 h2)
 have HO := Aside0.mk (show OwnB w5 w.heap.size A' c' l by
  have := h1
  rw [Nat.zero_add, H.out.2, List.nil_append] at this
  exact this)
 have HB := Aside0.mk (below_grownBy h2)
 clear h1 h2
 try go_wp2_with fail
 go_ret
 have q1 := heap_alloc_new w5 (.cells #[.slice A' n c', .int .i64 0] 162)
 have hb3 := (Below.refl w5.heap.size w5).alloc (Nat.le_refl _) (.cells #[.slice A' n c', .int .i64 0] 162)
 exact ⟨_, rfl, ⟨A', c', l, 0, by rw [← H.out.2]; exact q1, OwnB.below HO.out hb3, Nat.zero_le _, rfl, HL.out, HB.out.size⟩, below_step HB.out hb3⟩
theorem fillDev4 (n e : Int) (k : Key) (b : Bool) : Instr.fill (#[(0, 1), (1, 32), (33, 1), (34, 1)][·]?) zeroDev [(0, .int .i64 n), (1, .agg (encK k).toArray), (2, .int .i64 e), (3, .bool b)] = some (encD ⟨n, k, e, b⟩).toArray := by
 have hz : zeroDev.toList = encD ⟨0, key0, 0, false⟩ := rfl
 have s1 : splice zeroDev.toList 0 [.int .i64 n] = encD ⟨n, key0, 0, false⟩ := rfl
 rw [fill_cons _ _ 0 _ _ 0 1 rfl rfl (by decide)]
 rw [show (Value.int .i64 n).cells.toList = [.int .i64 n] from rfl, s1]
 rw [fill_cons _ _ 1 _ _ 1 32 rfl (by simpa [Value.cells] using encK_len k) (by simp [encD_len])]
 have s2 : splice (encD ⟨n, key0, 0, false⟩) 1 (encK k) = encD ⟨n, k, 0, false⟩ := by
  unfold splice encD
  rw [encK_len]
  simp only [List.take_succ_cons, List.take_zero, Nat.reduceAdd, List.drop_succ_cons]
  rw [List.drop_append, List.drop_eq_nil_of_le (by rw [encK_len]; omega), encK_len]
  rfl
 have s2' : splice (encD ⟨n, key0, 0, false⟩).toArray.toList 1 (Value.agg (encK k).toArray).cells.toList = encD ⟨n, k, 0, false⟩ := by
  simpa [Value.cells] using s2
 rw [s2']
 rw [fill_cons _ _ 2 _ _ 33 1 rfl rfl (by simp [encD_len])]
 have s3 : splice (encD ⟨n, k, 0, false⟩) 33 [.int .i64 e] = encD ⟨n, k, e, false⟩ := by
  unfold splice encD
  simp only [List.take_succ_cons, List.length_cons, List.length_nil, Nat.reduceAdd, List.drop_succ_cons]
  rw [List.take_append_of_le_length (by rw [encK_len]; omega), List.take_of_length_le (by rw [encK_len]; omega), List.drop_append, List.drop_eq_nil_of_le (by rw [encK_len]; omega), encK_len]
  rfl
 have s3' : splice (encD ⟨n, k, 0, false⟩).toArray.toList 33 (Value.int .i64 e).cells.toList = encD ⟨n, k, e, false⟩ := by
  simpa [Value.cells] using s3
 rw [s3']
 rw [fill_cons _ _ 3 _ _ 34 1 rfl rfl (by simp [encD_len])]
 have s4 : splice (encD ⟨n, k, e, false⟩) 34 [.bool b] = encD ⟨n, k, e, b⟩ := by
  unfold splice encD
  simp only [List.take_succ_cons, List.length_cons, List.length_nil, Nat.reduceAdd, List.drop_succ_cons]
  rw [List.take_append, List.take_of_length_le (by rw [encK_len]; omega), encK_len, List.drop_append, List.drop_eq_nil_of_le (by rw [encK_len]; omega), encK_len]
  simp
 have s4' : splice (encD ⟨n, k, e, false⟩).toArray.toList 34 (Value.bool b).cells.toList = encD ⟨n, k, e, b⟩ := by
  simpa [Value.cells] using s4
 rw [s4']
 rfl
set_option maxRecDepth 100000 in
theorem run_buildDev4 (w : World) (n e : Int) (k : Key) (b : Bool) : (Instr.build 46 #[(0, .int .i64 n), (1, .agg (encK k).toArray), (2, .int .i64 e), (3, .bool b)]).run Tryz.prog w = .ok (.agg (encD ⟨n, k, e, b⟩).toArray) w := by
 have hf := fillDev4 n e k b
 have hz : (zeroValue 46).run Tryz.prog w = .ok (.agg zeroDev) w := Tryz.zeroValue46 w
 generalize zeroDev = Z at hf hz
 simp only [Instr.build, Sem.run_bind, hz, Result.andThen_ok, run_underlying Tryz.underlying46, Value.cells]
 simp only [List.mapM_toArray, List.mapM_cons, List.mapM_nil, Sem.run_bind, Sem.run_map, Sem.run_pure, Result.andThen_ok, Tryz.sizeOf3, Tryz.sizeOf34, Tryz.sizeOf4, Functor.map]
 have hb : ∀ {α β : Type} (x : Sem α) (f : α → Sem β), Sem.bind x f = x >>= f := fun _ _ => rfl
 simp only [hb, Sem.run_bind, Sem.run_pure, Result.andThen_ok, Tryz.sizeOf3, Tryz.sizeOf34, Tryz.sizeOf4, Function.comp]
 change ((Result.ok (#[(0, 1), (1, 32), (33, 1), (34, 1)] : Array (Nat × Nat)) w).andThen fun a w' => _) = _
 simp only [Result.andThen_ok]
 rw [hf]
 rfl
end Go.Proofs.YthnpiimiimiijaaGreatDoor.Dir
end
