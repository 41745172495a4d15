/- The document's Parse. The document's Parse: the walk. The law DirectParses. Bytes and Parse are each other's inverse. Taken, Check and Bytes at lists that lie anywhere. The law DirectBack. -/
import Derived.Test.YthnpiimiimiijaaGreatDoorKk21
section
namespace Go.Proofs.YthnpiimiimiijaaGreatDoor.Dir
open Go Go.RowKit Go.Proofs Go.Proofs.YthnpiimiimiijaaGreatDoorW.PrintWords Go.Proofs.YthnpiimiimiijaaGreatDoorW.PrintLast Go.Proofs.YthnpiimiimiijaaGreatDoorW.PrintMore
set_option linter.unusedVariables false
set_option linter.unusedSimpArgs false
structure BkR (w W : World) (p q xr : Nat) (B : Book) (A1 : Option Addr) (c1 : Nat) (A2 : Option Addr) (c2 : Nat) (st : St2) : Prop where
 pz : W.heap[p]? = some (.cells (bookCells book0 none 0 none 0).toArray 43 (0, 0))
 bx : W.heap[q]? = some (.cells (bookCells B A1 c1 A2 c2).toArray 43 (0, 0))
 d : OwnD W w.heap.size A1 c1 B.devs
 k : OwnK W w.heap.size A2 c2 B.spent
 rs : RSt W w.heap.size xr st
 b : Below w.heap.size w W
 lo : w.heap.size ≤ q
 lp : w.heap.size ≤ p
 ne : p ≠ q
section
variable {w W W' : World} {p q xr : Nat} {B : Book} {A1 : Option Addr} {c1 : Nat} {A2 : Option Addr} {c2 : Nat} {st st' : St2}
theorem BkR.step (h : BkR w W p q xr B A1 c1 A2 c2 st) (hb : Below w.heap.size W W') (hk : KeptT [119, 162] W W') (hr : RSt W' w.heap.size xr st') : BkR w W' p q xr B A1 c1 A2 c2 st' :=
 ⟨hk _ _ _ _ h.pz (by decide), hk _ _ _ _ h.bx (by decide), own_keptT h.d hk (by decide), own_keptT h.k hk (by decide), hr, h.b.trans hb, h.lo, h.lp, h.ne⟩
theorem BkR.later (h : BkR w W p q xr B A1 c1 A2 c2 st) (hb : Below W.heap.size W W') : BkR w W' p q xr B A1 c1 A2 c2 st :=
 h.step (hb.mono h.b.size) (KeptT.below hb) (h.rs.below hb)
theorem BkR.set (h : BkR w W p q xr B A1 c1 A2 c2 st) (j : Nat) (u : Value) {B' : Book} {A1' : Option Addr} {c1' : Nat} {A2' : Option Addr} {c2' : Nat} (he : (bookCells B A1 c1 A2 c2).set j u = bookCells B' A1' c1' A2' c2')
  (hd : OwnD W w.heap.size A1' c1' B'.devs) (hk : OwnK W w.heap.size A2' c2' B'.spent) : BkR w (W.setCell ⟨q, j, none⟩ u) p q xr B' A1' c1' A2' c2' st := by
 have k1 := KeptT.setCell (j := j) h.bx (by decide : (43 : Nat) ∈ [43]) u
 refine ⟨(Below.heap_setCell _ _ _ _ (fun e => by first | exact h.ne e | exact h.ne e.symm)).trans h.pz, ?_, own_keptT hd k1 (by decide), own_keptT hk k1 (by decide), h.rs.kept k1 (by decide) (by decide) (by decide), h.b.setCell h.lo _, h.lo, h.lp, h.ne⟩
 rw [heap_setCell_same W q j _ _ _ h.bx, ← he]
 simp
theorem BkR.cells (h : BkR w W p q xr B A1 c1 A2 c2 st) : W.cell? ⟨q, 0, none⟩ = some (.int .i64 B.ver) ∧ W.cell? ⟨q, 1, none⟩ = some (.int .i64 B.clock) ∧ W.cell? ⟨q, 2, none⟩ = some (.slice A1 B.devs.length c1) ∧ W.cell? ⟨q, 3, none⟩ = some (.slice A2 B.spent.length c2) ∧ W.cell? ⟨q, 4, none⟩ = some (.string (str B.acl)) := by
 have hq := h.bx
 refine ⟨?_, ?_, ?_, ?_, ?_⟩ <;> (rw [cell_of_heap hq]; rfl)
theorem BkR.frz (h : BkR w W p q xr B A1 c1 A2 c2 st) (j : Nat) : W.frozen? ⟨q, j, none⟩ = false := frozen_of_heap h.bx
theorem BkR.pushD (h : BkR w W p q xr B A1 c1 A2 c2 st) {A' : Option Addr} {c' : Nat} {d : Dev} (ho : OwnD W' w.heap.size A' c' (B.devs ++ [d])) (hb : Below w.heap.size W W') (hk : KeptT [46] W W') :
  BkR w (W'.setCell ⟨q, 2, none⟩ (.slice A' (B.devs.length + 1) c')) p q xr { B with devs := B.devs ++ [d] } A' c' A2 c2 st := by
 have g2 := hk _ _ _ _ h.bx (by decide)
 have k1 := KeptT.setCell (j := 2) g2 (by decide : (43 : Nat) ∈ [43]) (.slice A' (B.devs.length + 1) c')
 refine ⟨(Below.heap_setCell _ _ _ _ (fun e => by first | exact h.ne e | exact h.ne e.symm)).trans (hk _ _ _ _ h.pz (by decide)), ?_, own_keptT ho k1 (by decide), own_keptT (own_keptT h.k hk (by decide)) k1 (by decide), (h.rs.kept hk (by decide) (by decide) (by decide)).kept k1 (by decide) (by decide) (by decide), (h.b.trans hb).setCell h.lo _, h.lo, h.lp, h.ne⟩
 rw [heap_setCell_same W' q 2 _ _ _ g2]
 unfold bookCells
 simp
theorem BkR.pushK (h : BkR w W p q xr B A1 c1 A2 c2 st) {A' : Option Addr} {c' : Nat} {d : Key} (ho : OwnK W' w.heap.size A' c' (B.spent ++ [d])) (hb : Below w.heap.size W W') (hk : KeptT [34] W W') :
  BkR w (W'.setCell ⟨q, 3, none⟩ (.slice A' (B.spent.length + 1) c')) p q xr { B with spent := B.spent ++ [d] } A1 c1 A' c' st := by
 have g2 := hk _ _ _ _ h.bx (by decide)
 have k1 := KeptT.setCell (j := 3) g2 (by decide : (43 : Nat) ∈ [43]) (.slice A' (B.spent.length + 1) c')
 refine ⟨(Below.heap_setCell _ _ _ _ (fun e => by first | exact h.ne e | exact h.ne e.symm)).trans (hk _ _ _ _ h.pz (by decide)), ?_, own_keptT (own_keptT h.d hk (by decide)) k1 (by decide), own_keptT ho k1 (by decide), (h.rs.kept hk (by decide) (by decide) (by decide)).kept k1 (by decide) (by decide) (by decide), (h.b.trans hb).setCell h.lo _, h.lo, h.lp, h.ne⟩
 rw [heap_setCell_same W' q 3 _ _ _ g2]
 unfold bookCells
 simp
end
end Go.Proofs.YthnpiimiimiijaaGreatDoor.Dir
end
section
namespace Go.Proofs.YthnpiimiimiijaaGreatDoor.Dir
open Go Go.RowKit Go.Proofs Go.Proofs.YthnpiimiimiijaaGreatDoorW.PrintWords Go.Proofs.YthnpiimiimiijaaGreatDoorW.PrintLast Go.Proofs.YthnpiimiimiijaaGreatDoorW.PrintMore
set_option linter.unusedVariables false
set_option linter.unusedSimpArgs false
theorem wpList_build0 {P : Program} {w : World} {ops : Array Oper} {rest : List Oper} {o : Oper} {a : Act} {Q : Exit → Act → World → Prop} (hgd : o.guard = none) (t : TypeId) (ho : o.op = .build t #[]) (r : Value) (w' : World)
  (hr : (Instr.build t #[]).run P w = .ok r w') (h : wpList P ops Q rest (a.put o.dst r) w') : wpList P ops Q (o :: rest) a w :=
 wpList_plain hgd fun K hK => by
  unfold Oper.wp
  have : (execOp a.eval o).run P w = .ok (.value r) w' := by
   unfold execOp
   simp only [ho, Sem.run_bind]
   simp [hr]
  rw [this]
  exact hK _ _ h
theorem run_build43 (w : World) : (Instr.build 43 #[]).run Tryz.prog w = .ok (.agg (bookCells book0 none 0 none 0).toArray) w := by
 simp [Instr.build, run_underlying Tryz.underlying43, Tryz.zeroValue43, Instr.fill]
 rfl
end Go.Proofs.YthnpiimiimiijaaGreatDoor.Dir
end
section
namespace Go.Proofs.YthnpiimiimiijaaGreatDoor.Dir
open Go Go.RowKit Go.Proofs Go.Proofs.YthnpiimiimiijaaGreatDoorW.PrintWords Go.Proofs.YthnpiimiimiijaaGreatDoorW.PrintLast Go.Proofs.YthnpiimiimiijaaGreatDoorW.PrintMore
set_option linter.unusedVariables false
set_option linter.unusedSimpArgs false
theorem said_two {l : List UInt8} {x y : Except Int Book} (hx : bookSaid l x) (hy : bookSaid l y) : x = y := by
 unfold bookSaid at hx hy
 split at hx
 ·rename_i c h
  rw [h] at hy
  exact hx.trans hy.symm
 ·rename_i B r h
  rw [h] at hy
  rcases hx with ⟨a1, a2, rfl⟩ | ⟨a1, rfl⟩ <;> rcases hy with ⟨b1, b2, rfl⟩ | ⟨b1, rfl⟩
  ·rfl
  ·exact absurd ⟨a1, a2⟩ b1
  ·exact absurd ⟨b1, b2⟩ a1
  ·rfl
theorem said_may {l : List UInt8} {B : Book} (h : bookSaid l (.ok B)) : MayB B := by
 unfold bookSaid at h
 split at h
 ·cases h
 ·rcases h with ⟨-, a2, e⟩ | ⟨-, e⟩
  ·cases e; exact a2
  ·cases e
def PSaid (l : List UInt8) (B : Book) (ev : Int) : Prop := (ev ≠ 0 ∧ bookSaid l (.error ev) ∧ B = book0) ∨ (ev = 0 ∧ bookSaid l (.ok B))
theorem PSaid.two {l : List UInt8} {B B' : Book} {ev ev' : Int} (h : PSaid l B ev) (k : PSaid l B' ev') : B' = B ∧ ev' = ev := by
 rcases h with ⟨a, b, rfl⟩ | ⟨rfl, b⟩ <;> rcases k with ⟨a', b', rfl⟩ | ⟨rfl, b'⟩
 ·cases said_two b b'; exact ⟨rfl, rfl⟩
 ·cases said_two b b'
 ·cases said_two b b'
 ·cases said_two b b'; exact ⟨rfl, rfl⟩
theorem PSaid.few {l : List UInt8} {B : Book} {ev : Int} (h : PSaid l B ev) : B.devs.length ≤ 8 ∧ B.spent.length ≤ 64 := by
 rcases h with ⟨a, b, rfl⟩ | ⟨rfl, b⟩
 ·exact ⟨by simp [book0], by simp [book0]⟩
 ·have := (said_may b).1.few
  exact ⟨this.1, this.2⟩
theorem ParseEnd.psaid {w w' : World} {l : List UInt8} {e : Ending} (h : ParseEnd w w' l e) : ∃ B ev A1 c1 A2 c2, PSaid l B ev ∧ e = .returned (.tuple #[.agg (bookCells B A1 c1 A2 c2).toArray, .int .i64 ev]) ∧ OwnD w' w.heap.size A1 c1 B.devs ∧ OwnK w' w.heap.size A2 c2 B.spent := by
 rcases h with ⟨c, hc, hs, rfl⟩ | ⟨B, A1, c1, A2, c2, hs, rfl, h1, h2⟩
 ·exact ⟨book0, c, none, 0, none, 0, .inl ⟨hc, hs, rfl⟩, rfl, ownD_nil _ _, ownK_nil _ _⟩
 ·exact ⟨B, 0, A1, c1, A2, c2, .inr ⟨rfl, hs⟩, rfl, h1, h2⟩
theorem ParseEnd.again {w w' : World} {l : List UInt8} {e : Ending} {B : Book} {ev : Int} (s : PSaid l B ev) (h : ParseEnd w w' l e) : ∃ A1 c1 A2 c2, e = .returned (.tuple #[.agg (bookCells B A1 c1 A2 c2).toArray, .int .i64 ev]) ∧ OwnD w' w.heap.size A1 c1 B.devs ∧ OwnK w' w.heap.size A2 c2 B.spent := by
 obtain ⟨B', ev', A1, c1, A2, c2, s', rfl, h1, h2⟩ := h.psaid
 obtain ⟨rfl, rfl⟩ := s.two s'
 exact ⟨A1, c1, A2, c2, rfl, h1, h2⟩
theorem ButW.setCell {g0 : Nat} {W W' : World} (h : ButW g0 W W') (j : Nat) (u : Value) : ButW g0 W (W'.setCell ⟨g0, j, none⟩ u) :=
 ⟨by simpa using h.size, fun g hg hn => (Below.heap_setCell _ _ _ _ (fun e => by first | exact hn e | exact hn e.symm)).trans (h.block g hg hn)⟩
def Over (w W : World) (top n : Nat) (X : Option Addr) : Prop := n = 0 ∨ ∃ g cur, X = some ⟨g, 0, none⟩ ∧ W.heap[g]? = some (.cells cur 5 (0, 0)) ∧ n ≤ cur.size ∧ w.heap.size ≤ g ∧ g < top
theorem Over.below {w W W' : World} {top n : Nat} {X : Option Addr} (h : Over w W top n X) (hb : Below W.heap.size W W') : Over w W' top n X := by
 rcases h with h | ⟨g, cur, h1, h2, h3⟩
 ·exact .inl h
 ·exact .inr ⟨g, cur, h1, room_at h2 hb, h3⟩
end Go.Proofs.YthnpiimiimiijaaGreatDoor.Dir
end
section
namespace Go.Proofs.YthnpiimiimiijaaGreatDoor.Dir
open Go Go.RowKit Go.Proofs
set_option linter.unusedVariables false
set_option linter.unusedSimpArgs false
end Go.Proofs.YthnpiimiimiijaaGreatDoor.Dir
end
section
namespace Go.Proofs.YthnpiimiimiijaaGreatDoor.Dir
open Go Go.RowKit Go.Proofs Go.Proofs.YthnpiimiimiijaaGreatDoorW.PrintWords Go.Proofs.YthnpiimiimiijaaGreatDoorW.PrintLast Go.Proofs.YthnpiimiimiijaaGreatDoorW.PrintMore
set_option linter.unusedVariables false
set_option linter.unusedSimpArgs false
theorem bare_src {w : World} {A : Option Addr} {n size : Nat} {xs : List Value} (h : SrcAt w A n size xs) (hn : 0 < n) (hs : 0 < size) : Bare A := fun a ha => by
 have hl : 0 < xs.length := by rw [h.1]; exact Nat.mul_pos hn hs
 have h0 := h.2.2 a ha 0 xs[0] (List.getElem?_eq_getElem hl)
 obtain ⟨g, o, sp⟩ := a
 cases sp with
 | none => exact ⟨g, o, rfl⟩
 | some s =>
  have hn : w.cell? ((⟨g, o, some s⟩ : Addr).add 0) = none := by unfold World.cell?; split <;> rfl
  rw [hn] at h0
  cases h0
set_option maxHeartbeats 4000000 in
set_option maxRecDepth 100000 in
theorem taken_src (B : Book) (A1 A2 : Option Addr) (c1 c2 : Nat) (w : World) (h1 : SrcAt w A1 B.devs.length 35 (flatD B.devs)) (h2 : SrcAt w A2 B.spent.length 32 (flatK B.spent)) (hf : Few B) :
  Calls Tryz.prog 48 #[.agg (bookCells B A1 c1 A2 c2).toArray] w fun e w' => ∃ A c, e = .returned (.slice A (takenB B).length c) ∧ w'.ownsRow w.heap.size 34 32 (.slice A (takenB B).length c) (takenB B).length (flatK (takenB B)) ∧ Below w.heap.size w w' := by
 obtain ⟨W0, hW0⟩ : ∃ W0, W0 = w.alloc (.cells (bookCells B A1 c1 A2 c2).toArray 43) := ⟨_, rfl⟩
 have hb0 : Below w.heap.size w W0 := by rw [hW0]; exact (Below.refl _ w).alloc (Nat.le_refl _) _
 have q1 : W0.heap[w.heap.size]? = some (.cells (bookCells B A1 c1 A2 c2).toArray 43 (0, 0)) := by rw [hW0]; exact heap_alloc_new w _
 have k2 : W0.cell? ⟨w.heap.size, 2, none⟩ = some (.slice A1 B.devs.length c1) := by rw [cell_of_heap q1]; rfl
 have k3 : W0.cell? ⟨w.heap.size, 3, none⟩ = some (.slice A2 B.spent.length c2) := by rw [cell_of_heap q1]; rfl
 have HC := Aside0.mk (cloned54 A2 B.spent.length c2 (flatK B.spent) W0 (h2.grown hb0) (by have := hf.2; omega) (flatK_one _))
 have H1 := Aside0.mk h1
 have HB := Aside0.mk hb0
 have HF := Aside0.mk hf
 have Q1 := Aside0.mk (World.block_lt_of_cell? W0 _ k2)
 have KK2 := Aside0.mk k2
 obtain ⟨z, hz, hzs⟩ := zero34
 have hi := info34
 obtain ⟨i0, hi0⟩ : ∃ i0, Tryz.prog.info? 34 = some i0 := by
  cases h : Tryz.prog.info? 34 with
  | some i => exact ⟨i, rfl⟩
  | none => rw [h] at hi; cases hi
 rw [hi0] at hi hz
 simp only [Option.map_some, Option.some.injEq, Prod.mk.injEq, Option.bind_some] at hi hz
 have HI := Aside0.mk (show Tryz.prog.info? 34 = some i0 ∧ i0.zero = some z ∧ i0.size = 32 ∧ i0.bytes = 32 ∧ z.cells.size = 32 from ⟨hi0, hz, hi.1, hi.2, hzs⟩)
 have t41 := Tryz.underlying41
 clear h1 h2 hf hb0 q1 k2 hi0 hz hzs hi
 go_enter Tryz.func48, Tryz.ntmps48
 go_upto_region 1 with fail
 rw [← hW0]
 clear hW0
 go_wp2_with fail
 refine HC.out.mono ?_
 rintro e w1 ⟨A3, c3, rfl, ho, -, hb1⟩
 have k2 := (hb1.cell (p := ⟨w.heap.size, 2, none⟩) Q1.out).trans KK2.out
 have HO := Aside0.mk (own_weaken ho HB.out.size)
 have HB1 := Aside0.mk hb1
 have HB2 := Aside0.mk (below_step HB.out hb1)
 clear ho hb1 k3
 go_wp2_with fail
 go_loopg [3, 5, 12] B.devs.length (fun kx s3 s5 s12 wr => ∃ (kk : Nat) (A : Option Addr) (c : Nat), kk ≤ B.devs.length ∧ B.devs.length - kk ≤ kx ∧ s12 = .int .i64 kk ∧ s3 = .slice A (B.spent.length + kk) c ∧ Aside0 (Below w.heap.size w wr) ∧ Aside0 (wr.ownsRow w.heap.size 34 32 (.slice A (B.spent.length + kk) c) (B.spent.length + kk) (flatK (B.spent ++ (B.devs.take kk).map (·.key)))))
 case atStart => exact ⟨0, A3, c3, Nat.zero_le _, by omega, rfl, rfl, ⟨HB2.out⟩, ⟨by simpa using HO.out⟩⟩
 case round =>
  obtain ⟨kk, A, c, hkk, hg, rfl, rfl, BW, OW⟩ := hrel
  have hf1 := HF.out.1
  have hf2 := HF.out.2
  by_cases hlt : kk < B.devs.length
  ·have hltz : (kk : Int) < (B.devs.length : Int) := by omega
   obtain ⟨a, hA⟩ : ∃ a, A1 = some a := by
    cases hA : A1 with
    | some a => exact ⟨a, rfl⟩
    | none => exact absurd (H1.out.2.1 hA) (by omega)
   obtain ⟨g, o, rfl⟩ := bare_src H1.out (by omega) (by decide) a hA
   subst hA
   obtain ⟨d, hd⟩ : ∃ d, B.devs[kk]? = some d := ⟨_, List.getElem?_eq_getElem hlt⟩
   have l1 := Aside0.mk (load_devS H1.out BW.out hd)
   have st := Aside0.mk (fun (c : Array Value) (hc : c.size = 35) => run_storeNew Tryz.prog wr 46 35 sizeD c (encD d).toArray hc (by simpa using encD_len d) (by simpa using encD_one d))
   have hd3 : (wr.alloc (.cells (encD d).toArray 46)).heap[wr.heap.size]? = some (.cells (encD d).toArray 46 (0, 0)) := heap_alloc_new wr _
   have l2 := Aside0.mk (run_loadAtK Tryz.prog (wr.alloc (.cells (encD d).toArray 46)) 34 32 Tryz.isAgg34 Tryz.sizeOf34 wr.heap.size 1 (encK d.key) (encK_len _) (fun j v hj => by rw [cell_of_heap hd3]; exact keyOfD d j v hj))
   have b3 := Aside0.mk (buildK (wr.alloc (.cells (encD d).toArray 46)) d.key)
   have ow4 := Aside0.mk (pw_own_below (pw_own_below OW.out ((Below.refl _ wr).alloc (Nat.le_refl _) (.cells (encD d).toArray 46))) ((Below.refl _ _).alloc (Nat.le_refl _) (.cells (encK d.key).toArray 34)))
   have sr4 := Aside0.mk (cells_of_heap (heap_alloc_new (wr.alloc (.cells (encD d).toArray 46)) (.cells (encK d.key).toArray 34)))
   have HD := Aside0.mk hd
   have B4 := Aside0.mk ((BW.out.alloc BW.out.size (.cells (encD d).toArray 46)).alloc (Nat.le_trans BW.out.size (by simp)) (.cells (encK d.key).toArray 34))
   obtain ⟨DA, hDA⟩ : ∃ DA, DA = (encD d).toArray := ⟨_, rfl⟩
   obtain ⟨KA, hKA⟩ : ∃ KA, KA = (encK d.key).toArray := ⟨_, rfl⟩
   have K1 := Aside0.mk (And.intro (encK_len d.key) (encK_one d.key))
   rw [← hDA] at l1 st l2 b3 ow4 sr4 B4
   rw [← hKA] at l2 b3 ow4 sr4 B4
   clear hDA hKA
   clear hd hd3 OW
   go_wp2_with (first | ((with_reducible refine at_load 46 (.tmp 14) ?_); refine wpList_loadK rfl 46 (.tmp 14) rfl _ rfl _ l1.out ?_) | ((with_reducible refine at_store 46 (.tmp 5) (.tmp 15) ?_); refine wpList_storeK rfl 46 (.tmp 5) (.tmp 15) rfl rfl _ _ rfl rfl _ (st.out _ rfl) ?_) | ((with_reducible refine at_load 34 (.tmp 17) ?_); refine wpList_loadK rfl 34 (.tmp 17) rfl _ rfl _ l2.out ?_) | ((with_reducible refine at_bslice 41 (.tmp 18) ?_); refine wpList_buildSlice1 rfl 41 (.tmp 18) rfl _ rfl _ _ b3.out ?_) | (at_builtin; refine wpList_append_own _ rfl _ _ 41 rfl w.heap.size 34 i0 z 32 32 t41 HI.out.1 HI.out.2.1 HI.out.2.2.1 HI.out.2.2.2.1 HI.out.2.2.2.2 (by decide) _ _ _ rfl ow4.out ⟨(wr.alloc (.cells DA 46)).heap.size, 0, none⟩ 1 1 (encK d.key) rfl ?qc1 ?qc2 ?qc3 ?qc4 ?qc5 ?qc6 ?_))
   case qc1 => exact K1.out.1
   case qc2 => intro j u hj; rw [add_at]; exact sr4.out j u hj
   case qc3 => exact K1.out.2
   case qc4 => unfold maxLen; omega
   case qc5 => omega
   case qc6 => exact B4.out.size
   intro v' w5 hown hgrow hnil
   obtain ⟨A', c', rfl, -, -⟩ := src_owns hown
   have HO2 := Aside0.mk (And.intro hown hgrow)
   clear hown hgrow hnil
   go_wp2
   go_roundg (B.devs.length - (kk + 1))
   case measure => omega
   case rel =>
    refine ⟨kk + 1, A', c', by omega, by omega, by go_num, rfl, ⟨B4.out.grown HO2.out.2 B4.out.size (fun j hj => own_base ow4.out j hj)⟩, ⟨?_⟩⟩
    have h3 := HO2.out.1
    rw [← flatK_one_more] at h3
    have e : B.spent ++ (B.devs.take (kk + 1)).map (·.key) = (B.spent ++ (B.devs.take kk).map (·.key)) ++ [d.key] := by
     rw [List.take_add_one, HD.out, List.map_append, List.append_assoc]; rfl
    rw [e]
    simpa [List.map_take, Nat.add_assoc] using h3
  ·have hltz : ¬ (kk : Int) < (B.devs.length : Int) := by omega
   have : kk = B.devs.length := by omega
   subst this
   go_wp2
   go_ret
   have e : (takenB B).length = B.spent.length + B.devs.length := by unfold takenB; rw [List.length_append, List.length_map]
   refine ⟨A, c, by rw [e]; rfl, ?_, BW.out⟩
   rw [e]
   have h3 := OW.out
   rw [List.take_length] at h3
   exact h3
set_option maxHeartbeats 8000000 in
set_option maxRecDepth 100000 in
theorem check_src (B : Book) (A1 : Option Addr) (c1 : Nat) (A2 : Option Addr) (c2 : Nat) (w : World) (h1 : SrcAt w A1 B.devs.length 35 (flatD B.devs)) (h2 : SrcAt w A2 B.spent.length 32 (flatK B.spent)) (hl1 : B.devs.length ≤ 4611686018427387904) (hl2 : B.spent.length ≤ 4611686018427387904) (hx : PA.LaidW w) :
  Calls Tryz.prog 21 #[.agg (bookCells B A1 c1 A2 c2).toArray] w fun e w' => CheckEnd B e ∧ Below w.heap.size w w' := by
 obtain ⟨W0, hW0⟩ : ∃ W0, W0 = w.alloc (.cells (bookCells B A1 c1 A2 c2).toArray 43) := ⟨_, rfl⟩
 obtain ⟨b0, hb0⟩ : ∃ b0, b0 = w.heap.size := ⟨_, rfl⟩
 have q1 : W0.heap[b0]? = some (.cells (bookCells B A1 c1 A2 c2).toArray 43 (0, 0)) := by rw [hW0, hb0]; exact heap_alloc_new w _
 have k0 : W0.cell? ⟨b0, 0, none⟩ = some (.int .i64 B.ver) := by rw [cell_of_heap q1]; rfl
 have k1 : W0.cell? ⟨b0, 1, none⟩ = some (.int .i64 B.clock) := by rw [cell_of_heap q1]; rfl
 have k2 : W0.cell? ⟨b0, 2, none⟩ = some (.slice A1 B.devs.length c1) := by rw [cell_of_heap q1]; rfl
 have k3 : W0.cell? ⟨b0, 3, none⟩ = some (.slice A2 B.spent.length c2) := by rw [cell_of_heap q1]; rfl
 have HB0 := Aside0.mk (show Below w.heap.size w W0 by rw [hW0]; exact (Below.refl _ w).alloc (Nat.le_refl _) _)
 have Q1 := Aside0.mk q1
 have H1 := Aside0.mk (h1.grown HB0.out)
 have H2 := Aside0.mk (h2.grown HB0.out)
 have HX := Aside0.mk (hx.below HB0.out)
 clear h1 h2 hx q1
 have hnum := fun n W => number_any n W
 go_enter Tryz.func21, Tryz.ntmps21
 go_upto_region 1 with fail
 rw [← hW0, ← hb0]
 have HEQ := Aside0.mk (And.intro hW0 hb0)
 clear hW0 hb0
 obtain ⟨n1, hn1⟩ : ∃ n1, n1 = number B.ver := ⟨_, rfl⟩
 obtain ⟨n2, hn2⟩ : ∃ n2, n2 = number B.clock := ⟨_, rfl⟩
 have HN := Aside0.mk (And.intro hn1 hn2)
 have hv : ∀ W, Calls Tryz.prog 47 #[.int .i64 B.ver] W fun e w' => e = .returned (.bool n1) ∧ w' = W := fun W => by rw [hn1]; exact number_any _ _
 have hc : ∀ W, Calls Tryz.prog 47 #[.int .i64 B.clock] W fun e w' => e = .returned (.bool n2) ∧ w' = W := fun W => by rw [hn2]; exact number_any _ _
 have HV := Aside0.mk hv
 have HC := Aside0.mk hc
 clear hn1 hn2 hv hc hnum
 cases n1
 ·go_wp2_with (go_at_call 47; refine (HV.out _).mono ?_; rintro e w' ⟨rfl, hw⟩; obtain rfl := hw.symm)
  go_ret
  exact ⟨.inr ⟨rfl, fun h => by have h3 := h.ver; rw [← HN.out.1] at h3; cases h3⟩, HB0.out⟩
 cases n2
 ·go_wp2_with fail
  refine (HV.out _).mono ?_
  rintro e w' ⟨rfl, hw⟩
  obtain rfl := hw.symm
  clear hw
  go_wp2_with fail
  refine (HC.out _).mono ?_
  rintro e w' ⟨rfl, hw⟩
  obtain rfl := hw.symm
  clear hw
  go_wp2_with fail
  go_ret
  exact ⟨.inr ⟨rfl, fun h => by have h3 := h.clock; rw [← HN.out.2] at h3; cases h3⟩, HB0.out⟩
 by_cases g1 : 8 < B.devs.length
 ·have g1z : (8 : Int) < (B.devs.length : Int) := by omega
  go_wp2_with fail
  refine (HV.out _).mono ?_
  rintro e w' ⟨rfl, hw⟩
  obtain rfl := hw.symm
  clear hw
  go_wp2_with fail
  refine (HC.out _).mono ?_
  rintro e w' ⟨rfl, hw⟩
  obtain rfl := hw.symm
  clear hw
  go_wp2_with fail
  go_ret
  exact ⟨.inr ⟨rfl, fun h => by have h3 := h.few; omega⟩, HB0.out⟩
 by_cases g2 : 64 < B.spent.length
 ·have g1z : ¬ (8 : Int) < (B.devs.length : Int) := by omega
  have g2z : (64 : Int) < (B.spent.length : Int) := by omega
  go_wp2_with fail
  refine (HV.out _).mono ?_
  rintro e w' ⟨rfl, hw⟩
  obtain rfl := hw.symm
  clear hw
  go_wp2_with fail
  refine (HC.out _).mono ?_
  rintro e w' ⟨rfl, hw⟩
  obtain rfl := hw.symm
  clear hw
  go_wp2_with fail
  go_ret
  exact ⟨.inr ⟨rfl, fun h => by have h3 := h.len; omega⟩, HB0.out⟩
 have g1z : ¬ (8 : Int) < (B.devs.length : Int) := by omega
 have g2z : ¬ (64 : Int) < (B.spent.length : Int) := by omega
 have HF : Aside0 (Few B) := ⟨by omega, by omega⟩
 clear hl1 hl2
 go_wp2_with fail
 refine (HV.out _).mono ?_
 rintro e w' ⟨rfl, hw⟩
 obtain rfl := hw.symm
 clear hw
 go_wp2_with fail
 refine (HC.out _).mono ?_
 rintro e w' ⟨rfl, hw⟩
 obtain rfl := hw.symm
 clear hw
 go_upto_region 5 with fail
 clear k0 k1 g1 g2
 go_loopg [3, 34] B.devs.length (fun kx s3 s34 wr => ∃ (kk : Nat) (last : Int), s34 = .int .i64 kk ∧ s3 = .int .i64 last ∧ kk + kx = B.devs.length ∧ Aside0 (Below W0.heap.size W0 wr) ∧ Aside0 (devsOk 0 B.devs = devsOk last (B.devs.drop kk)))
 case atStart => exact ⟨0, 0, rfl, rfl, by omega, ⟨Below.refl _ _⟩, ⟨rfl⟩⟩
 case round =>
  obtain ⟨kk, last, rfl, rfl, hkk, BW, AL⟩ := hrel
  by_cases hlt : kk < B.devs.length
  ·have hltz : (kk : Int) < (B.devs.length : Int) := by omega
   obtain ⟨a, hA⟩ : ∃ a, A1 = some a := by
    cases hA : A1 with
    | some a => exact ⟨a, rfl⟩
    | none => exact absurd (H1.out.2.1 hA) (by omega)
   obtain ⟨g, o, rfl⟩ := bare_src H1.out (by omega) (by decide) a hA
   subst hA
   obtain ⟨d, hd⟩ : ∃ d, B.devs[kk]? = some d := ⟨_, List.getElem?_eq_getElem hlt⟩
   have l1 := Aside0.mk (load_devS H1.out BW.out hd)
   have st := Aside0.mk (fun (c : Array Value) (hc : c.size = 35) => run_storeNew Tryz.prog wr 46 35 sizeD c (encD d).toArray hc (by simpa using encD_len d) (by simpa using encD_one d))
   have HNX := Aside0.mk (devsOk_next (last := last) hd)
   obtain ⟨w6, hw6⟩ : ∃ w6, w6 = wr.alloc (.cells (encD d).toArray 46) := ⟨_, rfl⟩
   obtain ⟨nb, hnb⟩ : ∃ nb, nb = wr.heap.size := ⟨_, rfl⟩
   have hd3 : w6.heap[nb]? = some (.cells (encD d).toArray 46 (0, 0)) := by rw [hw6, hnb]; exact heap_alloc_new wr _
   have c0 : w6.cell? ⟨nb, 0, none⟩ = some (.int .i64 d.node) := by rw [cell_of_heap hd3]; rfl
   have c3 : w6.cell? ⟨nb, 33, none⟩ = some (.int .i64 d.exp) := by rw [cell_of_heap hd3]; simp [encD, encK_len]
   have B6 := Aside0.mk (show Below W0.heap.size W0 w6 by rw [hw6]; exact BW.out.alloc BW.out.size _)
   obtain ⟨DA, hDA⟩ : ∃ DA, DA = (encD d).toArray := ⟨_, rfl⟩
   rw [← hDA] at l1 st hw6
   clear hd hd3 hDA
   go_upto_region 7 with (first | ((with_reducible refine at_load 46 (.tmp 36) ?_); refine wpList_loadK rfl 46 (.tmp 36) rfl _ rfl _ l1.out ?_) | ((with_reducible refine at_store 46 (.tmp 5) (.tmp 37) ?_); refine wpList_storeK rfl 46 (.tmp 5) (.tmp 37) rfl rfl _ _ rfl rfl _ (st.out _ rfl) ?_))
   rw [← hw6, ← hnb]
   clear hw6 hnb l1 st
   obtain ⟨dn, hdn⟩ : ∃ dn, dn = d.node := ⟨_, rfl⟩
   obtain ⟨de, hde⟩ : ∃ de, de = d.exp := ⟨_, rfl⟩
   obtain ⟨n3, hn3⟩ : ∃ n3, n3 = number de := ⟨_, rfl⟩
   rw [← hdn, ← hde] at HNX
   rw [← hdn] at c0
   rw [← hde] at c3
   rw [← hn3] at HNX
   have HE : Aside0 (∀ W, Calls Tryz.prog 47 #[.int .i64 de] W fun e w' => e = .returned (.bool n3) ∧ w' = W) := ⟨fun W => by rw [hn3]; exact number_any _ _⟩
   clear hdn hde hn3
   have hbad : devsOk last (B.devs.drop kk) = false → ¬ OkB B := fun h ho => by
    have := ho.devs
    rw [AL.out, h] at this
    cases this
   have HBAD := Aside0.mk hbad
   clear hbad
   by_cases e1 : dn ≤ last
   ·have e1d : decide (dn ≤ last) = true := decide_eq_true e1
    have hf := HBAD.out (by rw [HNX.out, show decide (last < dn) = false from decide_eq_false (by omega)]; rfl)
    have HFF := Aside0.mk hf
    clear hf
    go_wp2_with fail
    go_ret
    exact ⟨.inr ⟨rfl, HFF.out⟩, below_step HB0.out B6.out⟩
   by_cases e2 : 8 < dn
   ·have e1d : decide (dn ≤ last) = false := decide_eq_false e1
    have e2d : decide (8 < dn) = true := decide_eq_true e2
    have hf := HBAD.out (by rw [HNX.out, show decide (dn ≤ 8) = false from decide_eq_false (by omega)]; simp)
    have HFF := Aside0.mk hf
    clear hf
    go_wp2_with fail
    go_ret
    exact ⟨.inr ⟨rfl, HFF.out⟩, below_step HB0.out B6.out⟩
   by_cases e3 : de < 1
   ·have e1d : decide (dn ≤ last) = false := decide_eq_false e1
    have e2d : decide (8 < dn) = false := decide_eq_false e2
    have e3d : decide (de < 1) = true := decide_eq_true e3
    have hf := HBAD.out (by rw [HNX.out, show decide (1 ≤ de) = false from decide_eq_false (by omega)]; simp)
    have HFF := Aside0.mk hf
    clear hf
    go_wp2_with fail
    go_ret
    exact ⟨.inr ⟨rfl, HFF.out⟩, below_step HB0.out B6.out⟩
   have e1d : decide (dn ≤ last) = false := decide_eq_false e1
   have e2d : decide (8 < dn) = false := decide_eq_false e2
   have e3d : decide (de < 1) = false := decide_eq_false e3
   cases n3
   ·have hf := HBAD.out (by rw [HNX.out]; simp)
    have HFF := Aside0.mk hf
    clear hf
    go_wp2_with (go_at_call 47; refine (HE.out _).mono ?_; rintro e w' ⟨rfl, hw⟩; obtain rfl := hw.symm)
    go_ret
    exact ⟨.inr ⟨rfl, HFF.out⟩, below_step HB0.out B6.out⟩
   ·have hst := HNX.out
    rw [show decide (last < dn) = true from decide_eq_true (by omega), show decide (dn ≤ 8) = true from decide_eq_true (by omega), show decide (1 ≤ de) = true from decide_eq_true (by omega)] at hst
    simp only [Bool.true_and] at hst
    have HST := Aside0.mk hst
    clear hst
    go_wp2_with (go_at_call 47; refine (HE.out _).mono ?_; rintro e w' ⟨rfl, hw⟩; obtain rfl := hw.symm)
    obtain ⟨kq, rfl⟩ : ∃ kq, gk = kq + 1 := ⟨gk - 1, by omega⟩
    go_roundg kq
    case measure => omega
    case rel => exact ⟨kk + 1, dn, by go_num, rfl, by omega, ⟨B6.out⟩, ⟨AL.out.trans HST.out⟩⟩
  ·have hltz : ¬ (kk : Int) < (B.devs.length : Int) := by omega
   have : kk = B.devs.length := by omega
   subst this
   have HDV : Aside0 (devsOk 0 B.devs = true) := ⟨by rw [AL.out, List.drop_length]; rfl⟩
   clear hkk
   go_upto_region 11 with fail
   clear hltz k2
   have hLB := run_loadAtK Tryz.prog wr 43 5 Tryz.isAgg43 Tryz.sizeOf43 b0 0 (bookCells B A1 c1 A2 c2) rfl (cells_of_heap ((BW.out.block _ (Array.getElem?_eq_some_iff.1 Q1.out).1).trans Q1.out))
   have hTK := taken_src B A1 A2 c1 c2 wr (H1.out.grown BW.out) (H2.out.grown BW.out) HF.out
   have k3w : ∀ W, Below W0.heap.size W0 W → W.cell? ⟨b0, 3, none⟩ = some (.slice A2 B.spent.length c2) := fun W hb => by rw [cell_of_heap ((hb.block _ (Array.getElem?_eq_some_iff.1 Q1.out).1).trans Q1.out)]; rfl
   have k4w : ∀ W, Below W0.heap.size W0 W → W.cell? ⟨b0, 4, none⟩ = some (.string (str B.acl)) := fun W hb => by rw [cell_of_heap ((hb.block _ (Array.getElem?_eq_some_iff.1 Q1.out).1).trans Q1.out)]; rfl
   obtain ⟨BA, hBA⟩ : ∃ BA, BA = (bookCells B A1 c1 A2 c2).toArray := ⟨_, rfl⟩
   rw [← hBA] at hLB hTK
   have LB := Aside0.mk hLB
   have HTK := Aside0.mk hTK
   have K3 := Aside0.mk k3w
   have K4 := Aside0.mk k4w
   clear hLB hTK hBA k3w k4w k3
   go_wp2_with ((with_reducible refine at_load 43 (.tmp 1) ?_); refine wpList_loadK rfl 43 (.tmp 1) rfl _ rfl _ LB.out ?_)
   refine HTK.out.mono ?_
   rintro e w7 ⟨A3, c3, rfl, ho, hb7⟩
   have HO := Aside0.mk ho
   have HB7 := Aside0.mk (below_step BW.out hb7)
   have HWR := Aside0.mk BW.out.size
   clear ho hb7
   go_wp2_with fail
   refine (sort_any (takenB B) A3 c3 _ w7 HO.out (taken_len B HF.out)).mono ?_
   rintro e w8 ⟨rfl, ho8, hg8⟩
   have HO8 := Aside0.mk ho8
   have HB8 := Aside0.mk (HB7.out.grown hg8 HB7.out.size (fun k hk => Nat.le_trans HWR.out (HO.out.lt k hk).1))
   have k4 := K4.out w8 HB8.out
   clear ho8 hg8
   go_wp2_with fail
   refine (Acl.parse_any B.acl w8 (HX.out.below HB8.out)).mono ?_
   rintro e w9 ⟨hb9, v0, rfl, -⟩
   have HB9 := Aside0.mk (below_step HB8.out hb9)
   have HO9 := Aside0.mk (pw_own_below HO8.out hb9)
   have HB0A := Aside0.mk (below_step HB0.out (show Below W0.heap.size W0 w9 from HB9.out))
   obtain ⟨pe, hpe⟩ : ∃ pe, pe = (Acl.parseOf B.acl).2 := ⟨_, rfl⟩
   rw [← hpe]
   have HPE := Aside0.mk (show rulesOf B.acl = pe from hpe.symm)
   clear hb9 hpe k4
   by_cases hz : pe = 0
   ·subst hz
    have k3 := K3.out w9 HB9.out
    go_wp2_with fail
    refine (sorted_any B.spent A2 c2 w9 (H2.out.grown HB9.out) (by have := HF.out.2; omega)).mono ?_
    rintro e w10 ⟨⟨bs, rfl, hbs⟩, hb10⟩
    have HBS := Aside0.mk hbs
    have HB10 := Aside0.mk (below_step HB9.out hb10)
    have HO10 := Aside0.mk (pw_own_below HO9.out hb10)
    clear hbs hb10 k3
    cases bs
    ·go_wp2_with fail
     go_ret
     exact ⟨.inr ⟨rfl, fun h => by have h3 := HBS.out.2 h.sorted; cases h3⟩, below_step HB0.out HB10.out⟩
    ·go_wp2_with fail
     obtain ⟨A4, c4, hA4, hs4, hn4⟩ := src_owns HO10.out
     cases hA4
     refine (cloned54 A3 (takenB B).length c3 (flatK (sortL (takenB B))) w10 hs4 (by have := taken_len B HF.out; omega) (flatK_one _)).mono ?_
     rintro e w11 ⟨A5, c5, rfl, ho5, -, hb11⟩
     have HB11 := Aside0.mk (below_step HB10.out hb11)
     have HO11 := Aside0.mk (pw_own_below HO10.out hb11)
     have HO5 := Aside0.mk ho5
     have HLT := Aside0.mk HB10.out.size
     clear hs4 hn4 ho5 hb11
     go_wp2_with fail
     have hcm := compact_any (sortL (takenB B)) A5 c5 w10.heap.size w11 (by rw [sortL_len]; exact HO5.out) (by rw [sortL_len]; exact taken_len B HF.out)
     rw [sortL_len] at hcm
     refine hcm.mono ?_
     rintro e w12 ⟨hce, hg12⟩
     have HB12 := Aside0.mk (HB11.out.grown hg12 HB11.out.size (fun k hk => Nat.le_trans HLT.out (HO5.out.lt k hk).1))
     have HO12 : Aside0 (w12.ownsRow wr.heap.size 34 32 (.slice A3 (takenB B).length c3) (takenB B).length (flatK (sortL (takenB B)))) := ⟨HO11.out.kept hg12 (by
      cases h3 : (Value.slice A3 (takenB B).length c3).ownBlock with
      | none => exact .inl rfl
      | some k => exact .inr (fun e => by
       have h5 := (HO5.out.lt k e.symm).1
       have h6 := (HO10.out.lt k h3).2
       omega))⟩
     clear hcm hg12
     rcases hce with ⟨he0, hap⟩ | ⟨m, c6, hm, hna, rfl⟩
     ·rw [sortL_len] at he0
      subst he0
      have HAP := Aside0.mk hap
      clear hap
      by_cases hn0 : (takenB B).length = 0
      ·have hnil : takenB B = [] := List.length_eq_zero_iff.1 hn0
       have HOK : Aside0 (OkB B) := ⟨⟨HN.out.1.symm, HN.out.2.symm, HF.out.1, HF.out.2, HDV.out, HPE.out, HBS.out.1 (by first | rfl | trivial), HAP.out, by rw [hnil]; simp⟩⟩
       rw [hn0]
       go_wp2_with fail
       go_ret
       exact ⟨.inl ⟨rfl, HOK.out⟩, below_step HB0.out HB12.out⟩
      ·have hn1 : (0 : Int) < ((takenB B).length : Int) := by omega
       have hn1d : decide ((0 : Int) < ((takenB B).length : Int)) = true := decide_eq_true hn1
       obtain ⟨g, rfl⟩ := owned_at HO12.out hn0
       obtain ⟨x, hx⟩ : ∃ x, (sortL (takenB B))[0]? = some x := ⟨_, List.getElem?_eq_getElem (by rw [sortL_len]; omega)⟩
       have hfz := first_zero (takenB B) hx
       have hlx := load_key HO12.out (Below.refl _ w12) hx
       rw [Nat.zero_mul] at hlx
       have he := eqlK x key0
       have hgd := fun op a b w => guardK op a b x key0 w
       obtain ⟨XA, hXA⟩ : ∃ XA, XA = (encK x).toArray := ⟨_, rfl⟩
       rw [← hXA] at hlx he hgd
       rw [zeroKey_eq] at he hgd
       simp only [zeroKey] at he hgd
       have HLX := Aside0.mk hlx
       have HFZ := Aside0.mk hfz
       clear hlx hfz hXA hx
       by_cases hq : x = key0
       ·have HQ := Aside0.mk hq
        rw [show decide (x = key0) = true from decide_eq_true hq] at he
        clear hq
        go_wp2_with ((with_reducible refine at_load 34 (.tmp 91) ?_); refine wpList_loadW (by rfl) 34 (.tmp 91) rfl _ rfl _ HLX.out ?_)
        go_ret
        exact ⟨.inr ⟨rfl, fun h => h.nonzero (HFZ.out.1 HQ.out)⟩, below_step HB0.out HB12.out⟩
       ·have HOK : Aside0 (OkB B) := ⟨⟨HN.out.1.symm, HN.out.2.symm, HF.out.1, HF.out.2, HDV.out, HPE.out, HBS.out.1 (by first | rfl | trivial), HAP.out, fun h => hq (HFZ.out.2 h)⟩⟩
        rw [show decide (x = key0) = false from decide_eq_false hq] at he
        clear hq
        go_wp2_with ((with_reducible refine at_load 34 (.tmp 91) ?_); refine wpList_loadW (by rfl) 34 (.tmp 91) rfl _ rfl _ HLX.out ?_)
        go_ret
        exact ⟨.inl ⟨rfl, HOK.out⟩, below_step HB0.out HB12.out⟩
     ·have HNA := Aside0.mk hna
      have hmz : (m : Int) < ((takenB B).length : Int) := by rw [sortL_len] at hm; omega
      clear hna
      go_wp2_with fail
      go_ret
      exact ⟨.inr ⟨rfl, fun h => HNA.out h.apart⟩, below_step HB0.out HB12.out⟩
   ·have hz2 : (pe == 0) = false := beq_eq_false_iff_ne.2 hz
    have HZ := Aside0.mk hz
    go_wp2_with fail
    go_ret
    exact ⟨.inr ⟨rfl, fun h => HZ.out (HPE.out.symm.trans h.acl)⟩, HB0A.out⟩
set_option maxHeartbeats 8000000 in
set_option maxRecDepth 100000 in
theorem bytes_src (B : Book) (A1 : Option Addr) (c1 : Nat) (A2 : Option Addr) (c2 : Nat) (w : World) (h : SrcB w B A1 A2) (hx : PA.LaidW w) :
  Calls Tryz.prog 29 #[.agg (bookCells B A1 c1 A2 c2).toArray] w fun e w' => BytesEnd w w' B e ∧ Below w.heap.size w w' := by
 have hI := InB.start (c1 := c1) (c2 := c2) h
 obtain ⟨W0, hW0⟩ : ∃ W0, W0 = w.alloc (.cells (bookCells B A1 c1 A2 c2).toArray 43) := ⟨_, rfl⟩
 obtain ⟨p, hp⟩ : ∃ p, p = w.heap.size := ⟨_, rfl⟩
 rw [← hW0, ← hp] at hI
 have HI := Aside0.mk hI
 have hck := Aside0.mk (check_src B A1 c1 A2 c2 W0 hI.src.devs hI.src.spent hI.src.few hI.src.len (hx.below hI.fr))
 have L1 := Aside0.mk hI.load
 obtain ⟨BA, hBA⟩ : ∃ BA, BA = (bookCells B A1 c1 A2 c2).toArray := ⟨_, rfl⟩
 rw [← hBA] at hW0 hck L1 ⊢
 clear hI h hx hBA
 go_enter Tryz.func29, Tryz.ntmps29
 go_upto_region 1 with fail
 rw [← hW0, ← hp]
 have HEQ := Aside0.mk (And.intro hW0 hp)
 clear hW0 hp
 go_wp2_with ((with_reducible refine at_load 43 (.tmp 1) ?_); refine wpList_loadK rfl 43 (.tmp 1) rfl _ rfl _ L1.out ?_)
 refine hck.out.mono ?_
 rintro e w1 ⟨hce, hb1⟩
 have HB1 := Aside0.mk hb1
 clear hb1 hck L1
 rcases hce with ⟨rfl, hok⟩ | ⟨rfl, hno⟩
 case inr =>
  have HNO := Aside0.mk hno
  clear hno
  go_wp2_with fail
  go_ret2
  exact ⟨.inr ⟨rfl, fun h => HNO.out ((may_ok B).2 h)⟩, below_step HI.out.fr HB1.out⟩
 case inl =>
  have hwf := wf_of_ok hok
  have HM := Aside0.mk ((may_ok B).1 hok)
  have HL := Aside0.mk (And.intro hok.few hok.len)
  have HWF := Aside0.mk hwf
  have HA := Aside0.mk (acl_short hok.acl)
  obtain ⟨vn, hvn⟩ : ∃ vn : Nat, B.ver = vn := ⟨B.ver.toNat, by have := hwf.ver.1; omega⟩
  obtain ⟨cn, hcn⟩ : ∃ cn : Nat, B.clock = cn := ⟨B.clock.toNat, by have := hwf.clock.1; omega⟩
  have HVN := Aside0.mk (show vn ≤ 9007199254740991 ∧ cn ≤ 9007199254740991 by have h1 := hwf.ver.2; have h2 := hwf.clock.2; unfold maxN at h1 h2; omega)
  have HVC := Aside0.mk (And.intro hvn hcn)
  clear hok hwf
  go_upto_region 5 with (go_at_call 56; refine (write56 w1).mono ?_; rintro e w2 ⟨bw, rfl, hw, hb⟩)
  obtain ⟨base, hbase⟩ : ∃ base, base = w1.heap.size := ⟨_, rfl⟩
  rw [← hbase] at hw hb
  have HBS := Aside0.mk (show W0.heap.size ≤ base by rw [hbase]; exact HB1.out.size)
  have B2 := Aside0.mk (HB1.out.trans (hb.mono HBS.out))
  have hk := (HI.out.later B2.out).cells
  obtain ⟨k0, -, -, -, -⟩ := hk
  rw [hvn] at k0
  have hp := Aside0.mk (put57 base bw _ vn 7 w2 hw (by have := HVN.out; omega) (by decide) (by decide) (by have := HVN.out; omega) (by simp))
  clear hw hb hvn hcn
  go_upto_region 6 with (go_at_call 57; refine hp.out.mono ?_; rintro e w3 ⟨rfl, h3, hb3, -, -⟩)
  clear k0 hp
  have B3 := Aside0.mk (B2.out.trans (hb3.mono HBS.out))
  have hk := (HI.out.later B3.out).cells
  obtain ⟨-, k1, -, -, -⟩ := hk
  rw [HVC.out.2] at k1
  have hp := Aside0.mk (put57 base bw _ cn 7 w3 h3 (by have := HVN.out; omega) (by decide) (by decide) (by have := HVN.out; omega) (by simp [beN_len]))
  clear h3 hb3
  go_upto_region 7 with (go_at_call 57; refine hp.out.mono ?_; rintro e w4 ⟨rfl, h4, hb4, -, -⟩)
  clear k1 hp
  have B4 := Aside0.mk (B3.out.trans (hb4.mono HBS.out))
  have hk := (HI.out.later B4.out).cells
  obtain ⟨-, -, k2, -, -⟩ := hk
  have hp := Aside0.mk (put57 base bw _ B.devs.length 1 w4 h4 (by have := HL.out; omega) (by decide) (by decide) (by have := HL.out; omega) (by simp [beN_len]))
  clear h4 hb4
  go_upto_region 8 with (go_at_call 57; refine hp.out.mono ?_; rintro e w5 ⟨rfl, h5, hb5, -, -⟩)
  clear k2 hp
  have B5 := Aside0.mk (B4.out.trans (hb5.mono HBS.out))
  have hk := (HI.out.later B5.out).cells
  obtain ⟨-, -, k2, -, -⟩ := hk
  have H5 := Aside0.mk (show Wr w5 base bw (headB B) by
   have e : [] ++ beN vn 7 ++ beN cn 7 ++ beN B.devs.length 1 = headB B := by
    unfold headB
    rw [HVC.out.1, HVC.out.2]
    simp
   rw [← e]; exact h5)
  clear h5 hb5
  have HBSR := Aside0.mk (show Below w.heap.size w W0 from HI.out.fr)
  go_upto_region 9 with fail
  clear k2
  go_loopg [33] B.devs.length (fun kx s33 wr => ∃ kk : Nat, s33 = .int .i64 kk ∧ kk + kx = B.devs.length ∧ Aside0 (Wr wr base bw (headB B ++ devsB (B.devs.take kk)) ∧ Below W0.heap.size W0 wr))
  case atStart => exact ⟨0, rfl, by omega, ⟨by simpa [devsB] using H5.out, B5.out⟩⟩
  case round =>
   obtain ⟨kk, rfl, hkk, HT⟩ := hrel
   have hL8 := HL.out.1
   by_cases hlt : kk < B.devs.length
   ·have hltz : (kk : Int) < (B.devs.length : Int) := by omega
    obtain ⟨d, hd⟩ : ∃ d, B.devs[kk]? = some d := ⟨_, List.getElem?_eq_getElem hlt⟩
    obtain ⟨g, o, hA1, hc⟩ := HI.out.src.devc hd
    subst hA1
    have hmem := List.mem_of_getElem? hd
    have DL := Aside0.mk (run_loadAtK Tryz.prog wr 46 35 Tryz.isAgg46 Tryz.sizeOf46 g (o + kk * 35) (encD d) (encD_len _) (fun j v hj => hc wr HT.out.2 j v hj))
    have st := Aside0.mk (fun (c : Array Value) (hc : c.size = 35) => run_storeNew Tryz.prog wr 46 35 sizeD c (encD d).toArray hc (by simpa using encD_len d) (by simpa using encD_one d))
    obtain ⟨w6, hw6⟩ : ∃ w6, w6 = wr.alloc (.cells (encD d).toArray 46) := ⟨_, rfl⟩
    obtain ⟨nb, hnb⟩ : ∃ nb, nb = wr.heap.size := ⟨_, rfl⟩
    have hd6 : w6.heap[nb]? = some (.cells (encD d).toArray 46 (0, 0)) := by rw [hw6, hnb]; exact heap_alloc_new wr _
    have B6 := Aside0.mk (show Below W0.heap.size W0 w6 by rw [hw6]; exact HT.out.2.alloc HT.out.2.size _)
    have h6 : Wr w6 base bw (headB B ++ devsB (B.devs.take kk)) := by rw [hw6]; exact HT.out.1.below ((Below.refl _ wr).alloc (Nat.le_refl _) _)
    obtain ⟨dn, hdn⟩ : ∃ dn : Nat, d.node = dn := ⟨d.node.toNat, by have := HWF.out.nodes d hmem; omega⟩
    obtain ⟨de, hde⟩ : ∃ de : Nat, d.exp = de := ⟨d.exp.toNat, by have := HWF.out.exps d hmem; omega⟩
    have HDN := Aside0.mk (show dn ≤ 8 ∧ de ≤ 9007199254740991 by have h1 := HWF.out.nodes d hmem; have h2 := HWF.out.exps d hmem; unfold maxN at h2; omega)
    have HDE := Aside0.mk (And.intro hdn hde)
    have HLN := Aside0.mk (show (headB B ++ devsB (B.devs.take kk)).length ≤ 15 + 41 * 8 by rw [List.length_append, headB_len, devsB_len, List.length_take]; omega)
    have HNXT := Aside0.mk (devsB_next hd)
    have y0 : w6.cell? ⟨nb, 0, none⟩ = some (.int .i64 dn) := by rw [cell_of_heap hd6, ← hdn]; rfl
    have HD6 := Aside0.mk hd6
    obtain ⟨DA, hDA⟩ : ∃ DA, DA = (encD d).toArray := ⟨_, rfl⟩
    rw [← hDA] at DL st hw6
    have HDK := Aside0.mk hd
    have HKK := Aside0.mk hkk
    obtain ⟨ko, rfl⟩ : ∃ ko, gk = ko + 1 := ⟨gk - 1, by omega⟩
    have hp := Aside0.mk (put57 base bw _ dn 1 w6 h6 (by have := HDN.out; omega) (by decide) (by decide) (by have := HDN.out; omega) (by have := HLN.out; omega))
    clear hd hd6 hDA hc hmem hdn hde h6 hkk
    go_upto_region 11 with (first | ((with_reducible refine at_load 46 (.tmp 35) ?_); refine wpList_loadK rfl 46 (.tmp 35) rfl _ rfl _ DL.out ?_) | ((with_reducible refine at_store 46 (.tmp 7) (.tmp 36) ?_); refine wpList_storeK rfl 46 (.tmp 7) (.tmp 36) rfl rfl _ _ rfl rfl _ (st.out _ rfl) ?_))
    rw [← hw6, ← hnb]
    clear hw6 hnb DL st hltz
    go_upto_region 12 with (go_at_call 57; refine hp.out.mono ?_; rintro e w7 ⟨rfl, h7, hb7, hk7, -⟩)
    clear y0 hp
    have hd7 := hk7 nb _ 46 (0, 0) HD6.out (by decide)
    have B7 := Aside0.mk (B6.out.trans (hb7.mono HBS.out))
    have hp : Aside0 (Calls Tryz.prog 58 #[.pointer (some ⟨bw, 0, none⟩), .slice (some ⟨nb, 1, none⟩) 32 32] w7 fun e w' => WrEnd w7 w' base bw (headB B ++ devsB (B.devs.take kk) ++ beN dn 1 ++ d.key.1) e) := ⟨by
     have := bytes58 base bw (headB B ++ devsB (B.devs.take kk) ++ beN dn 1) d.key.1 (some ⟨nb, 1, none⟩) 32 w7 h7 (src_cells hd7 1 _ _ (by simp) (fun j u hj => dev_key hj)) (by rw [List.length_append, beN_len, d.key.2]; have := HLN.out; omega)
     rw [d.key.2] at this
     exact this⟩
    have HD7 := Aside0.mk hd7
    clear hk7 hd7 h7 hb7
    go_upto_region 13 with (go_at_call 58; refine hp.out.mono ?_; rintro e w8 ⟨rfl, h8, hb8, hk8, -⟩)
    clear hp
    have hd8 := hk8 nb _ 46 (0, 0) HD7.out (by decide)
    have B8 := Aside0.mk (B7.out.trans (hb8.mono HBS.out))
    have y3 : w8.cell? ⟨nb, 33, none⟩ = some (.int .i64 de) := by rw [cell_of_heap hd8, ← HDE.out.2]; exact expOfD d
    have hp := Aside0.mk (put57 base bw _ de 7 w8 h8 (by have := HDN.out; omega) (by decide) (by decide) (by have := HDN.out; omega) (by rw [List.length_append, List.length_append, beN_len, d.key.2]; have := HLN.out; omega))
    have HD8 := Aside0.mk hd8
    clear hk8 hd8 h8 hb8
    go_upto_region 14 with (go_at_call 57; refine hp.out.mono ?_; rintro e w9 ⟨rfl, h9, hb9, hk9, -⟩)
    clear y3 hp
    have hd9 := hk9 nb _ 46 (0, 0) HD8.out (by decide)
    have B9 := Aside0.mk (B8.out.trans (hb9.mono HBS.out))
    obtain ⟨rv, hrv⟩ : ∃ rv, rv = d.rev := ⟨_, rfl⟩
    have y4 : w9.cell? ⟨nb, 34, none⟩ = some (.bool rv) := by rw [cell_of_heap hd9, hrv]; exact revOfD d
    have hp := Aside0.mk (put57 base bw _ (if rv then 1 else 0) 1 w9 h9 (by split <;> omega) (by decide) (by decide) (by split <;> omega) (by rw [List.length_append, List.length_append, List.length_append, beN_len, beN_len, d.key.2]; have := HLN.out; omega))
    have HRV := Aside0.mk hrv
    clear hk9 hd9 h9 hb9 hrv
    cases rv
    all_goals
     first | rw [if_neg (by decide)] at hp | rw [if_pos rfl] at hp
     go_wp2_with (go_at_call 57; refine hp.out.mono ?_; rintro e w10 ⟨rfl, h10, hb10, -, -⟩)
     have H10 := Aside0.mk h10
     have B10 := Aside0.mk (B9.out.trans (hb10.mono HBS.out))
     clear h10 hb10 hp y4
     go_wp2_with fail
     go_roundg ko
     case measure => have := HKK.out; omega
     case rel =>
      refine ⟨kk + 1, by go_num, by have := HKK.out; omega, ⟨?_, B10.out⟩⟩
      have e := H10.out
      rw [HNXT.out, ← List.append_assoc]
      unfold devB
      rw [HDE.out.1, HDE.out.2, ← HRV.out]
      simpa using e
   ·have hltz : ¬ (kk : Int) < (B.devs.length : Int) := by omega
    have : kk = B.devs.length := by omega
    subst this
    have hk := (HI.out.later HT.out.2).cells
    obtain ⟨-, -, -, k3, -⟩ := hk
    have hp := Aside0.mk (put57 base bw _ B.spent.length 1 wr HT.out.1 (by have := HL.out; omega) (by decide) (by decide) (by have := HL.out; omega) (by rw [List.take_length, List.length_append, headB_len, devsB_len]; omega))
    clear hlt hkk
    go_upto_region 20 with (go_at_call 57; refine hp.out.mono ?_; rintro e x1 ⟨rfl, h1, hb1, -, -⟩)
    clear hp k3
    have HX1 := Aside0.mk (show Wr x1 base bw (midB B) by rw [List.take_length] at h1; exact h1)
    have X1 := Aside0.mk (HT.out.2.trans (hb1.mono HBS.out))
    have hk := (HI.out.later X1.out).cells
    obtain ⟨-, -, -, k3, -⟩ := hk
    clear h1 hb1 hltz
    have HMID := Aside0.mk (show (midB B).length ≤ 15 + 41 * 8 + 1 by unfold midB; rw [List.length_append, List.length_append, headB_len, devsB_len, beN_len]; omega)
    go_upto_region 21 with fail
    clear k3
    go_loopg [63] B.spent.length (fun kx s63 wr => ∃ kk : Nat, s63 = .int .i64 kk ∧ kk + kx = B.spent.length ∧ Aside0 (Wr wr base bw (midB B ++ keysB (B.spent.take kk)) ∧ Below W0.heap.size W0 wr))
    case atStart => exact ⟨0, rfl, by omega, ⟨by simpa [keysB] using HX1.out, X1.out⟩⟩
    case round =>
     obtain ⟨kk, rfl, hkk, HU⟩ := hrel
     have hL9 := HL.out.2
     by_cases hlt : kk < B.spent.length
     ·have hltz : (kk : Int) < (B.spent.length : Int) := by omega
      obtain ⟨d, hd⟩ : ∃ d, B.spent[kk]? = some d := ⟨_, List.getElem?_eq_getElem hlt⟩
      obtain ⟨g, o, hA2, hc⟩ := HI.out.src.key hd
      subst hA2
      have DL := Aside0.mk (hc wr HU.out.2)
      have st := Aside0.mk (fun (c : Array Value) (hc : c.size = 32) => run_storeNew Tryz.prog wr 34 32 sizeK c (encK d).toArray hc (by simpa using encK_len d) (by simpa using encK_one d))
      obtain ⟨w6, hw6⟩ : ∃ w6, w6 = wr.alloc (.cells (encK d).toArray 34) := ⟨_, rfl⟩
      obtain ⟨nb, hnb⟩ : ∃ nb, nb = wr.heap.size := ⟨_, rfl⟩
      have hd6 : w6.heap[nb]? = some (.cells (encK d).toArray 34 (0, 0)) := by rw [hw6, hnb]; exact heap_alloc_new wr _
      have B6 := Aside0.mk (show Below W0.heap.size W0 w6 by rw [hw6]; exact HU.out.2.alloc HU.out.2.size _)
      have h6 : Wr w6 base bw (midB B ++ keysB (B.spent.take kk)) := by rw [hw6]; exact HU.out.1.below ((Below.refl _ wr).alloc (Nat.le_refl _) _)
      have HLN := Aside0.mk (show (midB B ++ keysB (B.spent.take kk)).length ≤ 344 + 32 * 64 by rw [List.length_append, keysB_len, List.length_take]; have := HMID.out; omega)
      have HNXT := Aside0.mk (keysB_next hd)
      have hp : Aside0 (Calls Tryz.prog 58 #[.pointer (some ⟨bw, 0, none⟩), .slice (some ⟨nb, 0, none⟩) 32 32] w6 fun e w' => WrEnd w6 w' base bw (midB B ++ keysB (B.spent.take kk) ++ d.1) e) := ⟨by
       have := bytes58 base bw (midB B ++ keysB (B.spent.take kk)) d.1 (some ⟨nb, 0, none⟩) 32 w6 h6 (src_cells hd6 0 _ _ (by simp) (fun j u hj => by rw [Nat.zero_add, List.getElem?_toArray]; exact hj)) (by rw [d.2]; have := HLN.out; omega)
       rw [d.2] at this
       exact this⟩
      obtain ⟨DA, hDA⟩ : ∃ DA, DA = (encK d).toArray := ⟨_, rfl⟩
      rw [← hDA] at DL st hw6
      have HKK := Aside0.mk hkk
      obtain ⟨ko, rfl⟩ : ∃ ko, gk = ko + 1 := ⟨gk - 1, by omega⟩
      clear hd hd6 hDA hc h6 hkk
      go_upto_region 23 with (first | ((with_reducible refine at_load 34 (.tmp 65) ?_); refine wpList_loadK rfl 34 (.tmp 65) rfl _ rfl _ DL.out ?_) | ((with_reducible refine at_store 34 (.tmp 10) (.tmp 66) ?_); refine wpList_storeK rfl 34 (.tmp 10) (.tmp 66) rfl rfl _ _ rfl rfl _ (st.out _ rfl) ?_))
      rw [← hw6, ← hnb]
      clear hw6 hnb DL st hltz
      go_wp2_with (go_at_call 58; refine hp.out.mono ?_; rintro e w7 ⟨rfl, h7, hb7, -, -⟩)
      have H7 := Aside0.mk h7
      have B7 := Aside0.mk (B6.out.trans (hb7.mono HBS.out))
      clear h7 hb7 hp
      go_wp2_with fail
      go_roundg ko
      case measure => have := HKK.out; omega
      case rel =>
       refine ⟨kk + 1, by go_num, by have := HKK.out; omega, ⟨?_, B7.out⟩⟩
       rw [HNXT.out, ← List.append_assoc]
       exact H7.out
     ·have hltz : ¬ (kk : Int) < (B.spent.length : Int) := by omega
      have : kk = B.spent.length := by omega
      subst this
      have hk := (HI.out.later HU.out.2).cells
      obtain ⟨-, -, -, -, k4⟩ := hk
      have hu := HU.out.1
      rw [List.take_length] at hu
      obtain ⟨cv, wv, hcv, hbv, ⟨cs, fr, hrow, hcells⟩, hsz⟩ := conv67 B.acl wr
      have HU2 := Aside0.mk hu
      have hal := HA.out
      have hp := Aside0.mk (octets59 base bw (midB B ++ keysB B.spent) B.acl (some ⟨wr.heap.size, 0, none⟩) cv wv (hu.below hbv) (fun w' _ hks => by
       have := hks wr.heap.size (hu.lt hbv) wr.heap.size (Nat.le_refl _) hsz
       exact src_cells (this.trans hrow) 0 _ _ (by simp) (fun j u hj => by rw [Nat.zero_add]; exact hcells j u hj)) (by omega) (by rw [List.length_append, keysB_len]; have := HMID.out; omega))
      have BV := Aside0.mk (below_step HU.out.2 hbv)
      clear hu hrow hcells hbv hsz hlt hkk
      go_upto_region 26 with (go_at_call 59; refine hp.out.mono ?_; rintro e x3 ⟨rfl, h3, hb3⟩)
      have X3 := Aside0.mk (BV.out.trans (hb3.mono HBS.out))
      have hbl : (bytesB B).length ≤ 10000 := by
       unfold bytesB
       rw [List.length_append, List.length_append, List.length_append, keysB_len, beN_len]
       have := HMID.out
       have := HA.out
       omega
      have hp := Aside0.mk (out60 base bw (bytesB B) x3 h3 (by omega))
      clear h3 hb3 hbl k4 hcv
      go_wp2_with (go_at_call 60; refine hp.out.mono ?_; intro e x4 h5; obtain ⟨A, c, rfl, ho, hb⟩ := h5)
      go_ret2
      exact ⟨.inl ⟨A, c, rfl, own_weaken ho (Nat.le_trans HBSR.out.size X3.out.size), HM.out⟩, below_step HBSR.out (below_step X3.out hb)⟩
end Go.Proofs.YthnpiimiimiijaaGreatDoor.Dir
end
section
namespace Go.Proofs.YthnpiimiimiijaaGreatDoor.Dir
open Go Go.RowKit Go.Proofs Go.Proofs.YthnpiimiimiijaaGreatDoorW.PrintWords Go.Proofs.YthnpiimiimiijaaGreatDoorW.PrintLast Go.Proofs.YthnpiimiimiijaaGreatDoorW.PrintMore
set_option linter.unusedVariables false
set_option linter.unusedSimpArgs false
end Go.Proofs.YthnpiimiimiijaaGreatDoor.Dir
end
