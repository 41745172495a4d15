/- The document's Parse. The document's Parse: the walk. The law DirectParses. Bytes and Parse are each other's inverse. -/
import Derived.Test.YthnpiimiimiijaaGreatDoorKb21
section
namespace Go.Proofs.YthnpiimiimiijaaGreatDoor.Dir
open Go Go.RowKit Go.Proofs Go.Proofs.YthnpiimiimiijaaGreatDoorW.PrintWords Go.Proofs.YthnpiimiimiijaaGreatDoorW.PrintLast Go.Proofs.YthnpiimiimiijaaGreatDoorW.PrintMore
set_option linter.unusedVariables false
set_option linter.unusedSimpArgs false
/-- A book on its way, of the document's reader. -/
structure BkR (w W : World) (p q xr : Nat) (B : Book) (A1 : Option Addr) (c1 : Nat) (A2 : Option Addr) (c2 : Nat) (st : St2) : Prop where
 pz : W.heap[p]? = some (.cells (bookCells book0 none 0 none 0).toArray 43 (0, 0))
 bx : W.heap[q]? = some (.cells (bookCells B A1 c1 A2 c2).toArray 43 (0, 0))
 d : OwnD W w.heap.size A1 c1 B.devs
 k : OwnK W w.heap.size A2 c2 B.spent
 rs : RSt W w.heap.size xr st
 b : Below w.heap.size w W
 lo : w.heap.size ≤ q
 lp : w.heap.size ≤ p
 ne : p ≠ q
section
variable {w W W' : World} {p q xr : Nat} {B : Book} {A1 : Option Addr} {c1 : Nat} {A2 : Option Addr} {c2 : Nat} {st st' : St2}
theorem BkR.step (h : BkR w W p q xr B A1 c1 A2 c2 st) (hb : Below w.heap.size W W') (hk : KeptT [119, 162] W W') (hr : RSt W' w.heap.size xr st') : BkR w W' p q xr B A1 c1 A2 c2 st' :=
 ⟨hk _ _ _ _ h.pz (by decide), hk _ _ _ _ h.bx (by decide), own_keptT h.d hk (by decide), own_keptT h.k hk (by decide), hr, h.b.trans hb, h.lo, h.lp, h.ne⟩
theorem BkR.later (h : BkR w W p q xr B A1 c1 A2 c2 st) (hb : Below W.heap.size W W') : BkR w W' p q xr B A1 c1 A2 c2 st :=
 h.step (hb.mono h.b.size) (KeptT.below hb) (h.rs.below hb)
theorem BkR.set (h : BkR w W p q xr B A1 c1 A2 c2 st) (j : Nat) (u : Value) {B' : Book} {A1' : Option Addr} {c1' : Nat} {A2' : Option Addr} {c2' : Nat} (he : (bookCells B A1 c1 A2 c2).set j u = bookCells B' A1' c1' A2' c2')
  (hd : OwnD W w.heap.size A1' c1' B'.devs) (hk : OwnK W w.heap.size A2' c2' B'.spent) : BkR w (W.setCell ⟨q, j, none⟩ u) p q xr B' A1' c1' A2' c2' st := by
 have k1 := KeptT.setCell (j := j) h.bx (by decide : (43 : Nat) ∈ [43]) u
 refine ⟨(Below.heap_setCell _ _ _ _ (fun e => by first | exact h.ne e | exact h.ne e.symm)).trans h.pz, ?_, own_keptT hd k1 (by decide), own_keptT hk k1 (by decide), h.rs.kept k1 (by decide) (by decide) (by decide), h.b.setCell h.lo _, h.lo, h.lp, h.ne⟩
 rw [heap_setCell_same W q j _ _ _ h.bx, ← he]
 simp
theorem BkR.cells (h : BkR w W p q xr B A1 c1 A2 c2 st) : W.cell? ⟨q, 0, none⟩ = some (.int .i64 B.ver) ∧ W.cell? ⟨q, 1, none⟩ = some (.int .i64 B.clock) ∧ W.cell? ⟨q, 2, none⟩ = some (.slice A1 B.devs.length c1) ∧ W.cell? ⟨q, 3, none⟩ = some (.slice A2 B.spent.length c2) ∧ W.cell? ⟨q, 4, none⟩ = some (.string (str B.acl)) := by
 have hq := h.bx
 refine ⟨?_, ?_, ?_, ?_, ?_⟩ <;> (rw [cell_of_heap hq]; rfl)
theorem BkR.frz (h : BkR w W p q xr B A1 c1 A2 c2 st) (j : Nat) : W.frozen? ⟨q, j, none⟩ = false := frozen_of_heap h.bx
theorem BkR.pushD (h : BkR w W p q xr B A1 c1 A2 c2 st) {A' : Option Addr} {c' : Nat} {d : Dev} (ho : OwnD W' w.heap.size A' c' (B.devs ++ [d])) (hb : Below w.heap.size W W') (hk : KeptT [46] W W') :
  BkR w (W'.setCell ⟨q, 2, none⟩ (.slice A' (B.devs.length + 1) c')) p q xr { B with devs := B.devs ++ [d] } A' c' A2 c2 st := by
 have g2 := hk _ _ _ _ h.bx (by decide)
 have k1 := KeptT.setCell (j := 2) g2 (by decide : (43 : Nat) ∈ [43]) (.slice A' (B.devs.length + 1) c')
 refine ⟨(Below.heap_setCell _ _ _ _ (fun e => by first | exact h.ne e | exact h.ne e.symm)).trans (hk _ _ _ _ h.pz (by decide)), ?_, own_keptT ho k1 (by decide), own_keptT (own_keptT h.k hk (by decide)) k1 (by decide), (h.rs.kept hk (by decide) (by decide) (by decide)).kept k1 (by decide) (by decide) (by decide), (h.b.trans hb).setCell h.lo _, h.lo, h.lp, h.ne⟩
 rw [heap_setCell_same W' q 2 _ _ _ g2]
 unfold bookCells
 simp
theorem BkR.pushK (h : BkR w W p q xr B A1 c1 A2 c2 st) {A' : Option Addr} {c' : Nat} {d : Key} (ho : OwnK W' w.heap.size A' c' (B.spent ++ [d])) (hb : Below w.heap.size W W') (hk : KeptT [34] W W') :
  BkR w (W'.setCell ⟨q, 3, none⟩ (.slice A' (B.spent.length + 1) c')) p q xr { B with spent := B.spent ++ [d] } A1 c1 A' c' st := by
 have g2 := hk _ _ _ _ h.bx (by decide)
 have k1 := KeptT.setCell (j := 3) g2 (by decide : (43 : Nat) ∈ [43]) (.slice A' (B.spent.length + 1) c')
 refine ⟨(Below.heap_setCell _ _ _ _ (fun e => by first | exact h.ne e | exact h.ne e.symm)).trans (hk _ _ _ _ h.pz (by decide)), ?_, own_keptT (own_keptT h.d hk (by decide)) k1 (by decide), own_keptT ho k1 (by decide), (h.rs.kept hk (by decide) (by decide) (by decide)).kept k1 (by decide) (by decide) (by decide), (h.b.trans hb).setCell h.lo _, h.lo, h.lp, h.ne⟩
 rw [heap_setCell_same W' q 3 _ _ _ g2]
 unfold bookCells
 simp
end
end Go.Proofs.YthnpiimiimiijaaGreatDoor.Dir
end
section
namespace Go.Proofs.YthnpiimiimiijaaGreatDoor.Dir
open Go Go.RowKit Go.Proofs Go.Proofs.YthnpiimiimiijaaGreatDoorW.PrintWords Go.Proofs.YthnpiimiimiijaaGreatDoorW.PrintLast Go.Proofs.YthnpiimiimiijaaGreatDoorW.PrintMore
set_option linter.unusedVariables false
set_option linter.unusedSimpArgs false
theorem wpList_build0 {P : Program} {w : World} {ops : Array Oper} {rest : List Oper} {o : Oper} {a : Act} {Q : Exit → Act → World → Prop} (hgd : o.guard = none) (t : TypeId) (ho : o.op = .build t #[]) (r : Value) (w' : World)
  (hr : (Instr.build t #[]).run P w = .ok r w') (h : wpList P ops Q rest (a.put o.dst r) w') : wpList P ops Q (o :: rest) a w :=
 wpList_plain hgd fun K hK => by
  unfold Oper.wp
  have : (execOp a.eval o).run P w = .ok (.value r) w' := by
   unfold execOp
   simp only [ho, Sem.run_bind]
   simp [hr]
  rw [this]
  exact hK _ _ h
theorem run_build43 (w : World) : (Instr.build 43 #[]).run Tryz.prog w = .ok (.agg (bookCells book0 none 0 none 0).toArray) w := by
 simp [Instr.build, run_underlying Tryz.underlying43, Tryz.zeroValue43, Instr.fill]
 rfl
end Go.Proofs.YthnpiimiimiijaaGreatDoor.Dir
end
section
namespace Go.Proofs.YthnpiimiimiijaaGreatDoor.Dir
open Go Go.RowKit Go.Proofs Go.Proofs.YthnpiimiimiijaaGreatDoorW.PrintWords Go.Proofs.YthnpiimiimiijaaGreatDoorW.PrintLast Go.Proofs.YthnpiimiimiijaaGreatDoorW.PrintMore
set_option linter.unusedVariables false
set_option linter.unusedSimpArgs false
theorem said_two {l : List UInt8} {x y : Except Int Book} (hx : bookSaid l x) (hy : bookSaid l y) : x = y := by
 unfold bookSaid at hx hy
 split at hx
 ·rename_i c h
  rw [h] at hy
  exact hx.trans hy.symm
 ·rename_i B r h
  rw [h] at hy
  rcases hx with ⟨a1, a2, rfl⟩ | ⟨a1, rfl⟩ <;> rcases hy with ⟨b1, b2, rfl⟩ | ⟨b1, rfl⟩
  ·rfl
  ·exact absurd ⟨a1, a2⟩ b1
  ·exact absurd ⟨b1, b2⟩ a1
  ·rfl
theorem said_may {l : List UInt8} {B : Book} (h : bookSaid l (.ok B)) : MayB B := by
 unfold bookSaid at h
 split at h
 ·cases h
 ·rcases h with ⟨-, a2, e⟩ | ⟨-, e⟩
  ·cases e; exact a2
  ·cases e
/-- What Parse says of bytes: an error; a book. -/
def PSaid (l : List UInt8) (B : Book) (ev : Int) : Prop := (ev ≠ 0 ∧ bookSaid l (.error ev) ∧ B = book0) ∨ (ev = 0 ∧ bookSaid l (.ok B))
theorem PSaid.two {l : List UInt8} {B B' : Book} {ev ev' : Int} (h : PSaid l B ev) (k : PSaid l B' ev') : B' = B ∧ ev' = ev := by
 rcases h with ⟨a, b, rfl⟩ | ⟨rfl, b⟩ <;> rcases k with ⟨a', b', rfl⟩ | ⟨rfl, b'⟩
 ·cases said_two b b'; exact ⟨rfl, rfl⟩
 ·cases said_two b b'
 ·cases said_two b b'
 ·cases said_two b b'; exact ⟨rfl, rfl⟩
theorem PSaid.few {l : List UInt8} {B : Book} {ev : Int} (h : PSaid l B ev) : B.devs.length ≤ 8 ∧ B.spent.length ≤ 64 := by
 rcases h with ⟨a, b, rfl⟩ | ⟨rfl, b⟩
 ·exact ⟨by simp [book0], by simp [book0]⟩
 ·have := (said_may b).1.few
  exact ⟨this.1, this.2⟩
theorem ParseEnd.psaid {w w' : World} {l : List UInt8} {e : Ending} (h : ParseEnd w w' l e) : ∃ B ev A1 c1 A2 c2, PSaid l B ev ∧ e = .returned (.tuple #[.agg (bookCells B A1 c1 A2 c2).toArray, .int .i64 ev]) ∧ OwnD w' w.heap.size A1 c1 B.devs ∧ OwnK w' w.heap.size A2 c2 B.spent := by
 rcases h with ⟨c, hc, hs, rfl⟩ | ⟨B, A1, c1, A2, c2, hs, rfl, h1, h2⟩
 ·exact ⟨book0, c, none, 0, none, 0, .inl ⟨hc, hs, rfl⟩, rfl, ownD_nil _ _, ownK_nil _ _⟩
 ·exact ⟨B, 0, A1, c1, A2, c2, .inr ⟨rfl, hs⟩, rfl, h1, h2⟩
theorem ParseEnd.again {w w' : World} {l : List UInt8} {e : Ending} {B : Book} {ev : Int} (s : PSaid l B ev) (h : ParseEnd w w' l e) : ∃ A1 c1 A2 c2, e = .returned (.tuple #[.agg (bookCells B A1 c1 A2 c2).toArray, .int .i64 ev]) ∧ OwnD w' w.heap.size A1 c1 B.devs ∧ OwnK w' w.heap.size A2 c2 B.spent := by
 obtain ⟨B', ev', A1, c1, A2, c2, s', rfl, h1, h2⟩ := h.psaid
 obtain ⟨rfl, rfl⟩ := s.two s'
 exact ⟨A1, c1, A2, c2, rfl, h1, h2⟩
theorem ButW.setCell {g0 : Nat} {W W' : World} (h : ButW g0 W W') (j : Nat) (u : Value) : ButW g0 W (W'.setCell ⟨g0, j, none⟩ u) :=
 ⟨by simpa using h.size, fun g hg hn => (Below.heap_setCell _ _ _ _ (fun e => by first | exact hn e | exact hn e.symm)).trans (h.block g hg hn)⟩
theorem src_of_own {w : World} {base : Nat} {B : Book} {A1 A2 : Option Addr} {c1 c2 : Nat} (h1 : OwnD w base A1 c1 B.devs) (h2 : OwnK w base A2 c2 B.spent) (hf : B.devs.length ≤ 8 ∧ B.spent.length ≤ 64) : SrcB w B A1 A2 := ⟨h1.src, h2.src, by omega, by omega⟩
/-- The bytes that are written over. -/
def Over (w W : World) (top n : Nat) (X : Option Addr) : Prop := n = 0 ∨ ∃ g cur, X = some ⟨g, 0, none⟩ ∧ W.heap[g]? = some (.cells cur 5 (0, 0)) ∧ n ≤ cur.size ∧ w.heap.size ≤ g ∧ g < top
theorem Over.below {w W W' : World} {top n : Nat} {X : Option Addr} (h : Over w W top n X) (hb : Below W.heap.size W W') : Over w W' top n X := by
 rcases h with h | ⟨g, cur, h1, h2, h3⟩
 ·exact .inl h
 ·exact .inr ⟨g, cur, h1, room_at h2 hb, h3⟩
end Go.Proofs.YthnpiimiimiijaaGreatDoor.Dir
end
section
namespace Go.Proofs.YthnpiimiimiijaaGreatDoor.Dir
open Go Go.RowKit Go.Proofs
set_option linter.unusedVariables false
set_option linter.unusedSimpArgs false
theorem natB_from (l : List UInt8) : ∀ n : Nat, l.foldl (fun n b => n * 256 + b.toNat) n = n * 256 ^ l.length + natB l := by
 induction l with
 | nil => intro n; simp [natB]
 | cons b l ih =>
  intro n
  show l.foldl _ (n * 256 + b.toNat) = _
  rw [ih]
  have e : natB (b :: l) = l.foldl (fun n b => n * 256 + b.toNat) (0 * 256 + b.toNat) := rfl
  rw [e, ih]
  simp only [List.length_cons, Nat.pow_succ, Nat.zero_mul, Nat.zero_add]
  rw [Nat.add_mul]
  have : n * 256 * 256 ^ l.length = n * (256 ^ l.length * 256) := by rw [Nat.mul_assoc, Nat.mul_comm 256]
  omega
theorem natB_cons (b : UInt8) (l : List UInt8) : natB (b :: l) = b.toNat * 256 ^ l.length + natB l := by
 have e : natB (b :: l) = l.foldl (fun n b => n * 256 + b.toNat) (0 * 256 + b.toNat) := rfl
 rw [e, natB_from]; simp
theorem octN_eq (v s : Nat) : octN v s = UInt8.ofNat (v / 256 ^ s % 256) := by
 unfold octN
 apply UInt8.toNat_inj.1
 rw [UInt8.toNat_ofNat', UInt8.toNat_ofNat']
 simp
theorem beN_add (a v : Nat) : ∀ s, beN (a * 256 ^ s + v) s = beN v s
 | 0 => rfl
 | s + 1 => by
  show octN _ s :: beN _ s = octN v s :: beN v s
  have e1 : a * 256 ^ (s + 1) + v = (a * 256) * 256 ^ s + v := by rw [Nat.pow_succ, Nat.mul_assoc, Nat.mul_comm (256 ^ s)]
  rw [e1, beN_add (a * 256) v s, octN_eq, octN_eq]
  congr 2
  rw [Nat.add_comm, Nat.add_mul_div_right _ _ (Nat.pow_pos (by decide)), Nat.add_mul_mod_self_right]
theorem beN_natB : ∀ l : List UInt8, beN (natB l) l.length = l
 | [] => rfl
 | b :: l => by
  show octN _ l.length :: beN _ l.length = _
  rw [natB_cons, beN_add, beN_natB l, octN_eq]
  congr 1
  rw [Nat.add_comm, Nat.add_mul_div_right _ _ (Nat.pow_pos (by decide)), Nat.div_eq_of_lt (natB_lt l), Nat.zero_add, Nat.mod_eq_of_lt b.toNat_lt]
  exact UInt8.ofNat_toNat
theorem natB_beN (v : Nat) : ∀ s, natB (beN v s) = v % 256 ^ s
 | 0 => by simp [beN, natB, Nat.mod_one]
 | s + 1 => by
  show natB (octN v s :: beN v s) = _
  rw [natB_cons, natB_beN v s, beN_len, octN_eq]
  have h : (UInt8.ofNat (v / 256 ^ s % 256)).toNat = v / 256 ^ s % 256 := by
   rw [UInt8.toNat_ofNat']; exact Nat.mod_eq_of_lt (Nat.mod_lt _ (by decide))
  rw [h, Nat.pow_succ, Nat.mod_mul, Nat.add_comm, Nat.mul_comm]
theorem take_iff {s : Nat} {l a r : List UInt8} : takeP s l = .ok (a, r) ↔ a.length = s ∧ l = a ++ r := by
 constructor
 ·intro h
  by_cases hl : l.length < s
  ·rw [takeP_no hl] at h; cases h
  ·rw [takeP_yes (by omega)] at h
   cases h
   exact ⟨by simp; omega, (List.take_append_drop _ _).symm⟩
 ·rintro ⟨rfl, rfl⟩
  rw [takeP_yes (by simp)]
  simp
theorem get_iff {s n : Nat} {l r : List UInt8} : getP s l = .ok (n, r) ↔ n < 256 ^ s ∧ l = beN n s ++ r := by
 constructor
 ·intro h
  unfold getP at h
  cases ht : takeP s l with
  | error c => rw [ht] at h; cases h
  | ok p =>
   obtain ⟨a, r'⟩ := p
   rw [ht] at h
   cases h
   obtain ⟨rfl, rfl⟩ := take_iff.1 ht
   exact ⟨natB_lt a, by rw [beN_natB]⟩
 ·rintro ⟨h, rfl⟩
  unfold getP
  rw [take_iff.2 ⟨beN_len n s, rfl⟩]
  simp only
  rw [natB_beN, Nat.mod_eq_of_lt h]
theorem most_iff {m n : Nat} {l r : List UInt8} (hm : m < 256) : mostP m l = .ok (n, r) ↔ n ≤ m ∧ l = beN n 1 ++ r := by
 unfold mostP
 constructor
 ·intro h
  cases hg : getP 1 l with
  | error c => rw [hg] at h; cases h
  | ok p =>
   obtain ⟨a, r'⟩ := p
   rw [hg] at h
   by_cases hlt : m < a
   ·simp [hlt] at h
   ·simp [hlt] at h
    obtain ⟨rfl, rfl⟩ := h
    exact ⟨by omega, (get_iff.1 hg).2⟩
 ·rintro ⟨h, rfl⟩
  rw [get_iff.2 ⟨by omega, rfl⟩]
  simp
  omega
theorem key_iff {k : Key} {l r : List UInt8} : keyP l = .ok (k, r) ↔ l = k.1 ++ r := by
 unfold keyP
 constructor
 ·intro h
  cases ht : takeP 32 l with
  | error c => rw [ht] at h; cases h
  | ok p =>
   obtain ⟨a, r'⟩ := p
   rw [ht] at h
   cases h
   obtain ⟨h1, rfl⟩ := take_iff.1 ht
   rw [toKey_eq h1]
 ·rintro rfl
  rw [take_iff.2 ⟨k.2, rfl⟩]
  simp only
  congr 2
  exact Subtype.ext (toKey_eq k.2)
/-- A device that its bytes tell whole. -/
def DevIn (d : Dev) : Prop := 0 ≤ d.node ∧ d.node.toNat < 256 ^ 1 ∧ 0 ≤ d.exp ∧ d.exp.toNat < 256 ^ 7
theorem dev_iff {d : Dev} {l r : List UInt8} : devP l = .ok (d, r) ↔ DevIn d ∧ l = devB d ++ r := by
 unfold devP
 constructor
 ·intro h
  cases h1 : getP 1 l with
  | error c => rw [h1] at h; cases h
  | ok p1 =>
   obtain ⟨n, r1⟩ := p1
   rw [h1] at h
   simp only at h
   cases h2 : keyP r1 with
   | error c => rw [h2] at h; cases h
   | ok p2 =>
    obtain ⟨k, r2⟩ := p2
    rw [h2] at h
    simp only at h
    cases h3 : getP 7 r2 with
    | error c => rw [h3] at h; cases h
    | ok p3 =>
     obtain ⟨e, r3⟩ := p3
     rw [h3] at h
     simp only at h
     cases h4 : mostP 1 r3 with
     | error c => rw [h4] at h; cases h
     | ok p4 =>
      obtain ⟨b, r4⟩ := p4
      rw [h4] at h
      simp only at h
      cases h
      have g1 := get_iff.1 h1
      have g2 := key_iff.1 h2
      have g3 := get_iff.1 h3
      have g4 := (most_iff (by decide)).1 h4
      refine ⟨⟨by simp, by simpa using g1.1, by simp, by simpa using g3.1⟩, ?_⟩
      have hb : (if decide (b = 1) = true then 1 else 0) = b := by
       have := g4.1
       by_cases e1 : b = 1
       ·simp [e1]
       ·simp [e1]; omega
      unfold devB
      simp only [Int.toNat_natCast]
      rw [hb, g1.2, g2, g3.2, g4.2]
      simp
 ·rintro ⟨⟨h1, h2, h3, h4⟩, rfl⟩
  obtain ⟨nd, k, ex, rv⟩ := d
  unfold devB
  simp only at h1 h2 h3 h4 ⊢
  rw [List.append_assoc, List.append_assoc, List.append_assoc, get_iff.2 ⟨h2, rfl⟩]
  simp only
  rw [key_iff.2 rfl]
  simp only
  rw [get_iff.2 ⟨h4, rfl⟩]
  simp only
  rw [(most_iff (by decide)).2 ⟨by split <;> omega, rfl⟩]
  simp only
  rw [Int.toNat_of_nonneg h1, Int.toNat_of_nonneg h3]
  cases rv <;> rfl
theorem many_iff {α : Type} {f : List UInt8 → Except Int (α × List UInt8)} {Q : α → Prop} {pr : α → List UInt8} (hf : ∀ x l r, f l = .ok (x, r) ↔ Q x ∧ l = pr x ++ r) :
  ∀ (n : Nat) (l : List UInt8) (ds : List α) (r : List UInt8), manyP f n l = .ok (ds, r) ↔ ds.length = n ∧ (∀ d ∈ ds, Q d) ∧ l = ds.flatMap pr ++ r
 | 0, l, ds, r => by
  constructor
  ·intro h; cases h; simp
  ·rintro ⟨h, -, rfl⟩
   have := List.eq_nil_of_length_eq_zero h
   subst this
   rfl
 | n + 1, l, ds, r => by
  constructor
  ·intro h
   unfold manyP at h
   cases h1 : f l with
   | error c => rw [h1] at h; cases h
   | ok p =>
    obtain ⟨d, r1⟩ := p
    rw [h1] at h
    simp only at h
    cases h2 : manyP f n r1 with
    | error c => rw [h2] at h; cases h
    | ok p2 =>
     obtain ⟨ds', r2⟩ := p2
     rw [h2] at h
     cases h
     obtain ⟨a1, a2, a3⟩ := (many_iff hf n _ _ _).1 h2
     obtain ⟨b1, b2⟩ := (hf _ _ _).1 h1
     refine ⟨by simp [a1], ?_, by rw [b2, a3]; simp⟩
     intro d' hd
     rcases List.mem_cons.1 hd with rfl | hd
     ·exact b1
     ·exact a2 d' hd
  ·rintro ⟨h1, h2, rfl⟩
   cases ds with
   | nil => simp at h1
   | cons d ds =>
    unfold manyP
    rw [List.flatMap_cons, List.append_assoc, (hf d _ _).2 ⟨h2 d (by simp), rfl⟩]
    simp only
    rw [(many_iff hf n _ ds r).2 ⟨by simpa using h1, fun d' hd => h2 d' (by simp [hd]), rfl⟩]
theorem oct_iff {m : Nat} {l t r : List UInt8} (hm : m < 65536) : octP m l = .ok (t, r) ↔ t.length ≤ m ∧ l = beN t.length 2 ++ (t ++ r) := by
 unfold octP
 constructor
 ·intro h
  cases h1 : getP 2 l with
  | error c => rw [h1] at h; cases h
  | ok p =>
   obtain ⟨n, r1⟩ := p
   rw [h1] at h
   by_cases hlt : m < n
   ·simp [hlt] at h
   ·simp [hlt] at h
    obtain ⟨rfl, rfl⟩ := take_iff.1 h
    exact ⟨by omega, (get_iff.1 h1).2⟩
 ·rintro ⟨h, rfl⟩
  rw [get_iff.2 ⟨by omega, rfl⟩]
  simp only
  rw [if_neg (by omega)]
  exact take_iff.2 ⟨rfl, rfl⟩
/-- A book that its bytes tell whole. -/
structure BookIn (B : Book) : Prop where
 ver : 0 ≤ B.ver ∧ B.ver.toNat < 256 ^ 7
 clock : 0 ≤ B.clock ∧ B.clock.toNat < 256 ^ 7
 devs : B.devs.length ≤ 8
 each : ∀ d ∈ B.devs, DevIn d
 spent : B.spent.length ≤ 64
 acl : B.acl.length ≤ 1024
theorem raw_iff {B : Book} {l r : List UInt8} : rawP l = .ok (B, r) ↔ BookIn B ∧ l = bytesB B ++ r := by
 unfold rawP
 constructor
 ·intro h
  cases h1 : getP 7 l with
  | error c => rw [h1] at h; cases h
  | ok p1 =>
   obtain ⟨v, r1⟩ := p1
   rw [h1] at h
   simp only at h
   cases h2 : getP 7 r1 with
   | error c => rw [h2] at h; cases h
   | ok p2 =>
    obtain ⟨k, r2⟩ := p2
    rw [h2] at h
    simp only at h
    cases h3 : mostP 8 r2 with
    | error c => rw [h3] at h; cases h
    | ok p3 =>
     obtain ⟨n, r3⟩ := p3
     rw [h3] at h
     simp only at h
     cases h4 : manyP devP n r3 with
     | error c => rw [h4] at h; cases h
     | ok p4 =>
      obtain ⟨ds, r4⟩ := p4
      rw [h4] at h
      simp only at h
      cases h5 : mostP 64 r4 with
      | error c => rw [h5] at h; cases h
      | ok p5 =>
       obtain ⟨m, r5⟩ := p5
       rw [h5] at h
       simp only at h
       cases h6 : manyP keyP m r5 with
       | error c => rw [h6] at h; cases h
       | ok p6 =>
        obtain ⟨ks, r6⟩ := p6
        rw [h6] at h
        simp only at h
        cases h7 : octP 1024 r6 with
        | error c => rw [h7] at h; cases h
        | ok p7 =>
         obtain ⟨t, r7⟩ := p7
         rw [h7] at h
         simp only at h
         cases h
         have g1 := get_iff.1 h1
         have g2 := get_iff.1 h2
         have g3 := (most_iff (by decide)).1 h3
         obtain ⟨g4, g4', g4''⟩ := (many_iff (fun _ _ _ => dev_iff) _ _ _ _).1 h4
         have g5 := (most_iff (by decide)).1 h5
         obtain ⟨g6, -, g6''⟩ := (many_iff (Q := fun _ => True) (pr := fun k : Key => k.1) (fun _ _ _ => ⟨fun h => ⟨trivial, key_iff.1 h⟩, fun h => key_iff.2 h.2⟩) _ _ _ _).1 h6
         have g7 := (oct_iff (by decide)).1 h7
         subst g4 g6
         refine ⟨⟨⟨by simp, by simpa using g1.1⟩, ⟨by simp, by simpa using g2.1⟩, g3.1, g4', g5.1, g7.1⟩, ?_⟩
         unfold bytesB midB headB devsB keysB
         simp only [Int.toNat_natCast]
         rw [g1.2, g2.2, g3.2, g4'', g5.2, g6'', g7.2]
         simp
 ·rintro ⟨⟨⟨a1, a2⟩, ⟨b1, b2⟩, c1, c2, d1, e1⟩, rfl⟩
  obtain ⟨v, k, ds, ks, t⟩ := B
  unfold bytesB midB headB devsB keysB
  simp only at a1 a2 b1 b2 c1 c2 d1 e1 ⊢
  simp only [List.append_assoc]
  rw [get_iff.2 ⟨a2, rfl⟩]
  simp only
  rw [get_iff.2 ⟨b2, rfl⟩]
  simp only
  rw [(most_iff (by decide)).2 ⟨c1, rfl⟩]
  simp only
  rw [(many_iff (f := devP) (Q := DevIn) (pr := devB) (fun _ _ _ => dev_iff) _ _ ds _).2 ⟨rfl, c2, rfl⟩]
  simp only
  rw [(most_iff (by decide)).2 ⟨d1, rfl⟩]
  simp only
  rw [(many_iff (f := keyP) (Q := fun _ => True) (pr := fun k : Key => k.1) (fun _ _ _ => ⟨fun h => ⟨trivial, key_iff.1 h⟩, fun h => key_iff.2 h.2⟩) _ _ ks _).2 ⟨rfl, fun _ _ => trivial, rfl⟩]
  simp only
  rw [(oct_iff (by decide)).2 ⟨e1, rfl⟩]
  simp only
  rw [Int.toNat_of_nonneg a1, Int.toNat_of_nonneg b1]
theorem may_in {B : Book} (h : MayB B) : BookIn B := by
 have hw := h.1
 have h1 := hw.ver
 have h2 := hw.clock
 unfold maxN at h1 h2
 refine ⟨⟨h1.1, by omega⟩, ⟨h2.1, by omega⟩, hw.few.1, fun d hd => ?_, hw.few.2, acl_short h.2⟩
 have n1 := hw.nodes d hd
 have n2 := hw.exps d hd
 unfold maxN at n2
 exact ⟨by omega, by omega, by omega, by omega⟩
theorem said_bytes {B : Book} (h : MayB B) : bookSaid (bytesB B) (.ok B) := by
 unfold bookSaid
 have e : rawP (bytesB B) = .ok (B, []) := raw_iff.2 ⟨may_in h, by simp⟩
 rw [e]
 exact .inl ⟨rfl, h, rfl⟩
theorem bytes_said {l : List UInt8} {B : Book} (h : bookSaid l (.ok B)) : bytesB B = l ∧ MayB B := by
 refine ⟨?_, said_may h⟩
 unfold bookSaid at h
 split at h
 ·cases h
 ·rename_i B' r hr
  rcases h with ⟨rfl, -, e⟩ | ⟨-, e⟩
  ·cases e
   have := (raw_iff.1 hr).2
   simpa using this.symm
  ·cases e
end Go.Proofs.YthnpiimiimiijaaGreatDoor.Dir
end
