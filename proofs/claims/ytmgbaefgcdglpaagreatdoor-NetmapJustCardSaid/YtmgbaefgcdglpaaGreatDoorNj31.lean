/- The document's Parse, as it was walked, is the plain one. The document's directory in plain words: what find, put and spend come to at books that may be; and its Parse. The document's directory: next. The document's directory: next, at ops that change devices. The document's directory: next, at ops that rotate and revoke. The document's directory: next, at ops that rotate and revoke. The document' -/
import Derived.Test.YtmgbaefgcdglpaaGreatDoorNj28
import Derived.Test.YtmgbaefgcdglpaaGreatDoorNj30
import Derived.Laws.IdiomStrings
section
namespace Go.Proofs.YtmgbaefgcdglpaaGreatDoor.PA
open Go.RowKit Go.Proofs.YtmgbaefgcdglpaaGreatDoor.Acl Go.Proofs.YtmgbaefgcdglpaaGreatDoorW.PrintWords Go.Proofs.YtmgbaefgcdglpaaGreatDoorW.PrintLast Go.Proofs.YtmgbaefgcdglpaaGreatDoorW.PrintMore
end Go.Proofs.YtmgbaefgcdglpaaGreatDoor.PA
end
section
namespace Go.Proofs.YtmgbaefgcdglpaaGreatDoor.Dir
open Go Go.RowKit Go.Proofs Go.Proofs.YtmgbaefgcdglpaaGreatDoorW.PrintWords Go.Proofs.YtmgbaefgcdglpaaGreatDoorW.PrintLast Go.Proofs.YtmgbaefgcdglpaaGreatDoorW.PrintMore
set_option linter.unusedVariables false
set_option linter.unusedSimpArgs false
end Go.Proofs.YtmgbaefgcdglpaaGreatDoor.Dir
end
section
namespace Go.Proofs.YtmgbaefgcdglpaaGreatDoor.Dir
open Go Go.RowKit Go.Proofs Go.Proofs.YtmgbaefgcdglpaaGreatDoorW.PrintWords Go.Proofs.YtmgbaefgcdglpaaGreatDoorW.PrintLast Go.Proofs.YtmgbaefgcdglpaaGreatDoorW.PrintMore
set_option linter.unusedVariables false
set_option linter.unusedSimpArgs false
theorem SrcAt.setRow {w : World} {A : Option Addr} {n size : Nat} {xs : List Value} (h : SrcAt w A n size xs) {g : Nat} (hg : ∀ a, A = some a → a.block ≠ g) (cs : Array Value) : SrcAt (w.setRow g cs) A n size xs :=
 ⟨h.1, h.2.1, fun a ha j u hj => by
  rw [cell_setRow_other w g cs _ (by have e : (a.add j).block = a.block := (by unfold Addr.add; split <;> rfl); rw [e]; exact hg a ha)]
  exact h.2.2 a ha j u hj⟩
theorem room_at {W0 W : World} {r : Nat} {o : Obj} (h : W0.heap[r]? = some o) (hb : Below W0.heap.size W0 W) : W.heap[r]? = some o := (hb.block _ (Array.getElem?_eq_some_iff.1 h).1).trans h
end Go.Proofs.YtmgbaefgcdglpaaGreatDoor.Dir
end
section
namespace Go.Proofs.YtmgbaefgcdglpaaGreatDoor.Dir
open Go Go.RowKit Go.Proofs Go.Proofs.YtmgbaefgcdglpaaGreatDoorW.PrintWords Go.Proofs.YtmgbaefgcdglpaaGreatDoorW.PrintLast Go.Proofs.YtmgbaefgcdglpaaGreatDoorW.PrintMore
set_option linter.unusedVariables false
set_option linter.unusedSimpArgs false
end Go.Proofs.YtmgbaefgcdglpaaGreatDoor.Dir
end
section
namespace Go.Proofs.YtmgbaefgcdglpaaGreatDoor.Dir
open Go Go.RowKit Go.Proofs Go.Proofs.YtmgbaefgcdglpaaGreatDoorW.PrintWords Go.Proofs.YtmgbaefgcdglpaaGreatDoorW.PrintLast Go.Proofs.YtmgbaefgcdglpaaGreatDoorW.PrintMore
set_option linter.unusedVariables false
set_option linter.unusedSimpArgs false
end Go.Proofs.YtmgbaefgcdglpaaGreatDoor.Dir
end
section
namespace Go.Proofs.YtmgbaefgcdglpaaGreatDoor.Dir
open Go Go.RowKit Go.Proofs Go.Proofs.YtmgbaefgcdglpaaGreatDoorW.PrintWords Go.Proofs.YtmgbaefgcdglpaaGreatDoorW.PrintLast Go.Proofs.YtmgbaefgcdglpaaGreatDoorW.PrintMore
set_option linter.unusedVariables false
set_option linter.unusedSimpArgs false
end Go.Proofs.YtmgbaefgcdglpaaGreatDoor.Dir
end
section
namespace Go.Proofs.YtmgbaefgcdglpaaGreatDoor.Dir
open Go Go.RowKit Go.Proofs Go.Proofs.YtmgbaefgcdglpaaGreatDoorW.PrintWords Go.Proofs.YtmgbaefgcdglpaaGreatDoorW.PrintLast Go.Proofs.YtmgbaefgcdglpaaGreatDoorW.PrintMore
set_option linter.unusedVariables false
set_option linter.unusedSimpArgs false
structure RDirIs (W : World) (r : Nat) (B : Book) (A1 : Option Addr) (c1 : Nat) (A2 : Option Addr) (c2 : Nat) : Prop where
 box : W.heap[r]? = some (.cells (bookCells B A1 c1 A2 c2).toArray 63 (0, 0))
 src : SrcB W B A1 A2
 t1 : TyA W A1 85
 t2 : TyA W A2 28
def RDir (W : World) (r : Nat) (B : Book) : Prop := ∃ A1 c1 A2 c2, RDirIs W r B A1 c1 A2 c2
section
variable {W W' : World} {r : Nat} {B : Book} {A1 : Option Addr} {c1 : Nat} {A2 : Option Addr} {c2 : Nat}
theorem RDirIs.below (h : RDirIs W r B A1 c1 A2 c2) (hb : Below W.heap.size W W') : RDirIs W' r B A1 c1 A2 c2 := ⟨room_at h.box hb, h.src.later hb, h.t1.below hb, h.t2.below hb⟩
theorem RDir.below (h : RDir W r B) (hb : Below W.heap.size W W') : RDir W' r B := by
 obtain ⟨A1, c1, A2, c2, h⟩ := h
 exact ⟨A1, c1, A2, c2, h.below hb⟩
theorem SrcAt.other {A : Option Addr} {n size : Nat} {xs : List Value} (h : SrcAt W A n size xs) {g : Nat} (hg : W.grownBy W' (some g)) (hne : ∀ a, A = some a → a.block ≠ g) : SrcAt W' A n size xs :=
 ⟨h.1, h.2.1, fun a ha j u hj => by
  have hc := h.2.2 a ha j u hj
  have hl := World.block_lt_of_cell? W _ hc
  have e : (a.add j).block = a.block := by unfold Addr.add; split <;> rfl
  have hb := hg.block (a.add j).block hl (fun h2 => hne a ha (by rw [e] at h2; exact Option.some.inj h2))
  unfold World.cell? at hc ⊢
  rw [hb]; exact hc⟩
theorem TyA.ne {A : Option Addr} {T T' : TypeId} (h : TyA W A T) {g : Nat} {cs : Array Value} {fr : Nat × Nat} (hg : W.heap[g]? = some (.cells cs T' fr)) (hne : T ≠ T') : ∀ a, A = some a → a.block ≠ g := fun a ha e => by
 obtain ⟨cs', fr', hq⟩ := h a ha
 rw [e, hg] at hq
 cases hq
 exact hne rfl
theorem TyA.other {A : Option Addr} {T : TypeId} (h : TyA W A T) {g : Nat} (hg : W.grownBy W' (some g)) (hne : ∀ a, A = some a → a.block ≠ g) : TyA W' A T := fun a ha => by
 obtain ⟨cs', fr', hq⟩ := h a ha
 exact ⟨cs', fr', (hg.block _ (Array.getElem?_eq_some_iff.1 hq).1 (fun e => hne a ha (Option.some.inj e))).trans hq⟩
theorem RDirIs.other (h : RDirIs W r B A1 c1 A2 c2) {g : Nat} {cs : Array Value} {T : TypeId} {fr : Nat × Nat} (hq : W.heap[g]? = some (.cells cs T fr)) (h1 : T ≠ 85) (h2 : T ≠ 28) (h3 : r ≠ g) (hg : W.grownBy W' (some g)) : RDirIs W' r B A1 c1 A2 c2 := by
 have n1 := h.t1.ne hq (fun e => h1 e.symm)
 have n2 := h.t2.ne hq (fun e => h2 e.symm)
 exact ⟨(hg.block _ (Array.getElem?_eq_some_iff.1 h.box).1 (fun e => h3 (Option.some.inj e))).trans h.box, ⟨h.src.devs.other hg n1, h.src.spent.other hg n2, h.src.few, h.src.len⟩, h.t1.other hg n1, h.t2.other hg n2⟩
theorem RDir.other (h : RDir W r B) {g : Nat} {cs : Array Value} {T : TypeId} {fr : Nat × Nat} (hq : W.heap[g]? = some (.cells cs T fr)) (h1 : T ≠ 85) (h2 : T ≠ 28) (h3 : r ≠ g) (hg : W.grownBy W' (some g)) : RDir W' r B := by
 obtain ⟨A1, c1, A2, c2, h⟩ := h
 exact ⟨A1, c1, A2, c2, h.other hq h1 h2 h3 hg⟩
end
theorem NewA.ty {n : Nat} {W W' : World} {T : TypeId} {A A' : Option Addr} (h : NewA n W' T A A') (h0 : TyA W A T) (hb : Below W.heap.size W W') : TyA W' A' T := by
 rcases h with e | h
 ·rw [e]; exact h0.below hb
 ·exact h.ty
end Go.Proofs.YtmgbaefgcdglpaaGreatDoor.Dir
end
section
namespace Go.Proofs.YtmgbaefgcdglpaaGreatDoor.Dir
open Go Go.RowKit Go.Proofs Go.Proofs.YtmgbaefgcdglpaaGreatDoorW.PrintWords Go.Proofs.YtmgbaefgcdglpaaGreatDoorW.PrintLast Go.Proofs.YtmgbaefgcdglpaaGreatDoorW.PrintMore
set_option linter.unusedVariables false
set_option linter.unusedSimpArgs false
theorem own_setCell {w : World} {base : Nat} {e : TypeId} {size n : Nat} {v : Value} {xs : List Value} (h : w.ownsRow base e size v n xs) {b j : Nat} (hb : b < base) (u : Value) : (w.setCell ⟨b, j, none⟩ u).ownsRow base e size v n xs :=
 ownsRow_setCell_other h (a := ⟨b, j, none⟩) (fun k hk e => by have h1 := own_base h k hk; have h2 : k = b := e; omega) u
end Go.Proofs.YtmgbaefgcdglpaaGreatDoor.Dir
end
section
namespace Go.Proofs.YtmgbaefgcdglpaaGreatDoor.Dir
open Go Go.RowKit Go.Proofs Go.Proofs.YtmgbaefgcdglpaaGreatDoorW.PrintWords Go.Proofs.YtmgbaefgcdglpaaGreatDoorW.PrintLast Go.Proofs.YtmgbaefgcdglpaaGreatDoorW.PrintMore
set_option linter.unusedVariables false
set_option linter.unusedSimpArgs false
def MayB (B : Book) : Prop := WF B ∧ rulesOf B.acl = 0
theorem may_ok (B : Book) : OkB B ↔ MayB B := ⟨fun h => ⟨wf_of_ok h, h.acl⟩, fun h => ok_of h.1 h.2⟩
def RCheckEnd (B : Book) (e : Ending) : Prop := (e = .returned (.int .i64 0) ∧ MayB B) ∨ (e = .returned (.int .i64 2) ∧ ¬ MayB B)
end Go.Proofs.YtmgbaefgcdglpaaGreatDoor.Dir
end
section
namespace Go.Proofs.YtmgbaefgcdglpaaGreatDoor.Dir
open Go Go.RowKit Go.Proofs Go.Proofs.YtmgbaefgcdglpaaGreatDoorW.PrintWords Go.Proofs.YtmgbaefgcdglpaaGreatDoorW.PrintLast Go.Proofs.YtmgbaefgcdglpaaGreatDoorW.PrintMore
set_option linter.unusedVariables false
set_option linter.unusedSimpArgs false
def DirHi (w : World) (base p : Nat) (B : Book) : Prop := ∃ A1 c1 A2 c2, w.heap[p]? = some (.cells (.bool true :: bookCells B A1 c1 A2 c2).toArray 83 (0, 0)) ∧ Lists w base B A1 c1 A2 c2
theorem DirHi.at_ {w : World} {base p : Nat} {B : Book} (h : DirHi w base p B) : DirAt w p B := by
 obtain ⟨A1, c1, A2, c2, h1, h2⟩ := h
 refine ⟨A1, c1, A2, c2, h1, h2.lower (Nat.zero_le _), fun k hk e => ?_, fun k hk e => ?_⟩
 ·exact own_ne h2.1 h1 (by decide) (by rw [hk, e])
 ·exact own_ne h2.2.1 h1 (by decide) (by rw [hk, e])
structure Kept2 (w w' : World) (b1 b2 : Option Nat) : Prop where
 os : w'.os = w.os
 tape : w'.tape = w.tape
 output : w'.output = w.output
 size : w.heap.size ≤ w'.heap.size
 block : ∀ k, k < w.heap.size → some k ≠ b1 → some k ≠ b2 → w'.heap[k]? = w.heap[k]?
theorem Kept2.of_below {w w' : World} {b1 b2 : Option Nat} (h : Below w.heap.size w w') : Kept2 w w' b1 b2 := ⟨h.os, h.tape, h.output, h.size, fun k hk _ _ => h.block k hk⟩
theorem Kept2.step {w w1 w2 : World} {b1 b2 : Option Nat} (h : Kept2 w w1 b1 b2) (k : Kept2 w1 w2 b1 b2) : Kept2 w w2 b1 b2 :=
 ⟨k.os.trans h.os, k.tape.trans h.tape, k.output.trans h.output, Nat.le_trans h.size k.size, fun j hj h1 h2 => (k.block j (Nat.lt_of_lt_of_le hj h.size) h1 h2).trans (h.block j hj h1 h2)⟩
theorem Kept2.below {w w' : World} {b1 b2 : Option Nat} {base : Nat} (h : Kept2 w w' b1 b2) (hs : base ≤ w.heap.size) (h1 : ∀ k, b1 = some k → base ≤ k) (h2 : ∀ k, b2 = some k → base ≤ k) : Below base w w' :=
 ⟨h.os, h.tape, h.output, h.size, fun k hk => h.block k (by omega) (fun e => by have := h1 k e.symm; omega) (fun e => by have := h2 k e.symm; omega)⟩
theorem Kept2.setRow {w w1 : World} {b1 b2 : Option Nat} (h : Kept2 w w1 b1 b2) {g : Nat} (hg : b1 = some g ∨ b2 = some g ∨ w.heap.size ≤ g) (cs : Array Value) : Kept2 w (w1.setRow g cs) b1 b2 :=
 ⟨h.os, h.tape, h.output, by rw [setRow_size]; exact h.size, fun k hk h1 h2 => (setRow_other w1 g k cs (fun e => by
  subst e
  rcases hg with e | e | e
  ·exact h1 e.symm
  ·exact h2 e.symm
  ·omega)).trans (h.block k hk h1 h2)⟩
def RowN (W : World) (b : Option Nat) (T : TypeId) (k : Nat) : Prop := ∀ g, b = some g → ∃ cur : List Value, W.heap[g]? = some (.cells cur.toArray T (0, 0)) ∧ k ≤ cur.length
theorem RowN.below {W W' : World} {b : Option Nat} {T : TypeId} {k : Nat} (h : RowN W b T k) (hb : Below W.heap.size W W') : RowN W' b T k := fun g hg => by
 obtain ⟨cur, h1, h2⟩ := h g hg
 exact ⟨cur, room_at h1 hb, h2⟩
theorem RowN.setRow {W : World} {b : Option Nat} {T : TypeId} {k : Nat} (h : RowN W b T k) (g : Nat) (cs : List Value) (hc : ∀ cur : List Value, W.heap[g]? = some (.cells cur.toArray T (0, 0)) → cur.length ≤ cs.length) : RowN (W.setRow g cs.toArray) b T k := fun g' hg => by
 obtain ⟨cur, h1, h2⟩ := h g' hg
 by_cases e : g' = g
 ·subst e
  exact ⟨cs, setRow_heap _ _ _ _ _ _ h1, Nat.le_trans h2 (hc cur h1)⟩
 ·exact ⟨cur, by rw [setRow_other _ _ _ _ e]; exact h1, h2⟩
end Go.Proofs.YtmgbaefgcdglpaaGreatDoor.Dir
end
section
namespace Go.Proofs.YtmgbaefgcdglpaaGreatDoor.Dir
open Go Go.RowKit Go.Proofs Go.Proofs.YtmgbaefgcdglpaaGreatDoorW.PrintWords Go.Proofs.YtmgbaefgcdglpaaGreatDoorW.PrintLast Go.Proofs.YtmgbaefgcdglpaaGreatDoorW.PrintMore
set_option linter.unusedVariables false
set_option linter.unusedSimpArgs false
theorem own_other {w w' : World} {base : Nat} {e : TypeId} {size n : Nat} {v : Value} {xs : List Value} (h : w.ownsRow base e size v n xs) (hb : ∀ k, v.ownBlock = some k → w'.heap[k]? = w.heap[k]?) : w'.ownsRow base e size v n xs := by
 obtain ⟨h1, h2⟩ := h
 refine ⟨h1, ?_⟩
 rcases h2 with h2 | ⟨g, cap, cur, hv, hg, hh, r⟩
 ·exact Or.inl h2
 ·exact Or.inr ⟨g, cap, cur, hv, hg, by rw [hb g (by rw [hv]; rfl)]; exact hh, r⟩
end Go.Proofs.YtmgbaefgcdglpaaGreatDoor.Dir
end
section
namespace Go.Proofs.YtmgbaefgcdglpaaGreatDoor.Dir
open Go Go.RowKit Go.Proofs Go.Proofs.YtmgbaefgcdglpaaGreatDoorW.PrintWords Go.Proofs.YtmgbaefgcdglpaaGreatDoorW.PrintLast Go.Proofs.YtmgbaefgcdglpaaGreatDoorW.PrintMore
set_option linter.unusedVariables false
set_option linter.unusedSimpArgs false
structure Duo (w W : World) (pd rf po : Nat) (B O : Book) : Prop where
 d : DirSt w W pd B
 f : RDir W rf B
 o : DirSt w W po O
 ne : po ≠ pd
 low : w.heap.size ≤ rf
theorem Duo.later {w W W' : World} {pd rf po : Nat} {B O : Book} (h : Duo w W pd rf po B O) (hb : Below W.heap.size W W') : Duo w W' pd rf po B O := ⟨h.d.later hb, h.f.below hb, h.o.later hb, h.ne, h.low⟩
theorem RDir.blk {W : World} {r : Nat} {B : Book} (h : RDir W r B) : ∃ cs fr, W.heap[r]? = some (.cells cs 63 fr) := by
 obtain ⟨_, _, _, _, h⟩ := h
 exact ⟨_, _, h.box⟩
end Go.Proofs.YtmgbaefgcdglpaaGreatDoor.Dir
end
section
namespace Go.Proofs.YtmgbaefgcdglpaaGreatDoor.Dir
open Go Go.RowKit Go.Proofs Go.Proofs.YtmgbaefgcdglpaaGreatDoorW.PrintWords Go.Proofs.YtmgbaefgcdglpaaGreatDoorW.PrintLast Go.Proofs.YtmgbaefgcdglpaaGreatDoorW.PrintMore
set_option linter.unusedVariables false
set_option linter.unusedSimpArgs false
def KeptT (ts : List TypeId) (w w' : World) : Prop := ∀ (g : Nat) (cs : Array Value) (T : TypeId) (fr : Nat × Nat), w.heap[g]? = some (Obj.cells cs T fr) → T ∉ ts → w'.heap[g]? = some (Obj.cells cs T fr)
theorem KeptT.refl (ts : List TypeId) (w : World) : KeptT ts w w := fun _ _ _ _ h _ => h
theorem KeptT.trans {ts : List TypeId} {a b c : World} (h : KeptT ts a b) (k : KeptT ts b c) : KeptT ts a c := fun g cs T fr e ht => k g cs T fr (h g cs T fr e ht) ht
theorem KeptT.below {ts : List TypeId} {w w' : World} (hb : Below w.heap.size w w') : KeptT ts w w' := fun g cs T fr e _ => (hb.block g (Array.getElem?_eq_some_iff.1 e).1).trans e
theorem KeptT.grown {ts : List TypeId} {w w' : World} {base n size : Nat} {e : TypeId} {v : Value} {xs : List Value} (ho : w.ownsRow base e size v n xs) (hg : w.grownBy w' v.ownBlock) (he : e ∈ ts) : KeptT ts w w' := fun g cs T fr h ht => by
 refine (hg.block g (Array.getElem?_eq_some_iff.1 h).1 (fun hv => ?_)).trans h
 rcases ho.2 with ⟨rfl, _⟩ | ⟨g', cap, cur, rfl, _, hg', _⟩
 ·cases hv
 ·have : g' = g := by simpa [Value.ownBlock] using hv.symm
  subst this
  rw [hg'] at h
  cases h
  exact ht he
theorem KeptT.setCell {ts : List TypeId} {w : World} {b j : Nat} {cs : Array Value} {T : TypeId} {fr : Nat × Nat} (hb : w.heap[b]? = some (.cells cs T fr)) (hT : T ∈ ts) (u : Value) : KeptT ts w (w.setCell ⟨b, j, none⟩ u) := fun g cs' T' fr' h ht => by
 rw [Below.heap_setCell _ _ _ _ (fun e => ?_)]
 ·exact h
 ·have e' : g = b := by first | exact e | exact e.symm
  subst e'
  rw [hb] at h
  cases h
  exact ht hT
def octN (v : Nat) (i : Nat) : UInt8 := UInt8.ofNat (v / 256 ^ i)
def beN (v : Nat) : Nat → List UInt8
 | 0 => []
 | s + 1 => octN v s :: beN v s
theorem beN_len (v : Nat) : ∀ s, (beN v s).length = s
 | 0 => rfl
 | s + 1 => by simp [beN, beN_len v s]
theorem store_full (W : World) (T : TypeId) (n r : Nat) (hT : ∀ w, (Go.sizeOf T).run Tryz.prog w = .ok n w) (cs0 xs : List Value) (h : W.heap[r]? = some (.cells cs0.toArray T (0, 0))) (h5 : cs0.length = n) (hx : xs.length = n) (h1 : ∀ u ∈ xs, u.oneCell' = true) :
  (Instr.storeAt T (.pointer (some ⟨r, 0, none⟩)) (.agg xs.toArray)).run Tryz.prog W = .ok () (W.setRow r xs.toArray) := by
 have := run_storeAtK Tryz.prog W T n hT r 0 xs hx h1 cs0 T h (by omega)
 rw [this]
 have e : splice cs0 0 xs = xs := by
  unfold splice
  rw [List.take_zero, List.nil_append, List.drop_eq_nil_of_le (by omega), List.append_nil]
 rw [e]
end Go.Proofs.YtmgbaefgcdglpaaGreatDoor.Dir
end
section
namespace Go.Proofs.YtmgbaefgcdglpaaGreatDoor.Dir
open Go Go.RowKit Go.Proofs Go.Proofs.YtmgbaefgcdglpaaGreatDoorW.PrintWords Go.Proofs.YtmgbaefgcdglpaaGreatDoorW.PrintLast Go.Proofs.YtmgbaefgcdglpaaGreatDoorW.PrintMore
set_option linter.unusedVariables false
set_option linter.unusedSimpArgs false
def OwnB (w : World) (base : Nat) (A : Option Addr) (c : Nat) (xs : List UInt8) : Prop := w.ownsRow base 5 1 (.slice A xs.length c) xs.length (xs.map byteV)
theorem OwnB.below {w W : World} {base : Nat} {A : Option Addr} {c : Nat} {l : List UInt8} (h : OwnB w base A c l) (hb : Below w.heap.size w W) : OwnB W base A c l := pw_own_below h hb
theorem OwnB.src {w : World} {base : Nat} {A : Option Addr} {c : Nat} {l : List UInt8} (h : OwnB w base A c l) : SrcAt w A l.length 1 (l.map byteV) := by
 obtain ⟨A', c', e, hs, -⟩ := src_owns h
 cases e
 exact hs
structure WrAt (W : World) (bw bs : Nat) (A : Option Addr) (n c : Nat) : Prop where
 wr : W.heap[bw]? = some (.cells #[.pointer (some ⟨bs, 0, none⟩)] 173 (0, 0))
 sh : W.heap[bs]? = some (.cells #[.slice A n c, .int .i64 0] 171 (0, 0))
theorem WrAt.later {W W' : World} {bw bs : Nat} {A : Option Addr} {n c : Nat} (h : WrAt W bw bs A n c) (hb : Below W.heap.size W W') : WrAt W' bw bs A n c := ⟨room_at h.wr hb, room_at h.sh hb⟩
theorem WrAt.keep {W W' : World} {bw bs base : Nat} {A : Option Addr} {c : Nat} {xs : List UInt8} (h : WrAt W bw bs A xs.length c) (ho : OwnB W base A c xs) (hg : W.grownBy W' (Value.slice A xs.length c).ownBlock) : WrAt W' bw bs A xs.length c :=
 ⟨(hg.block bw (Array.getElem?_eq_some_iff.1 h.wr).1 (own_ne ho h.wr (by decide))).trans h.wr, (hg.block bs (Array.getElem?_eq_some_iff.1 h.sh).1 (own_ne ho h.sh (by decide))).trans h.sh⟩
theorem WrAt.cells {W : World} {bw bs : Nat} {A : Option Addr} {n c : Nat} (h : WrAt W bw bs A n c) : W.cell? ⟨bw, 0, none⟩ = some (.pointer (some ⟨bs, 0, none⟩)) ∧ W.cell? ⟨bs, 0, none⟩ = some (.slice A n c) ∧ W.frozen? ⟨bs, 0, none⟩ = false := by
 refine ⟨?_, ?_, frozen_of_heap h.sh⟩
 ·rw [cell_of_heap h.wr]; rfl
 ·rw [cell_of_heap h.sh]; rfl
def Wr (w : World) (base bw : Nat) (xs : List UInt8) : Prop := ∃ bs A c, WrAt w bw bs A xs.length c ∧ OwnB w base A c xs ∧ base ≤ bw ∧ base ≤ bs
theorem Wr.below {w W : World} {base bw : Nat} {xs : List UInt8} (h : Wr w base bw xs) (hb : Below w.heap.size w W) : Wr W base bw xs := by
 obtain ⟨bs, A, c, h1, h2, h3, h4⟩ := h
 exact ⟨bs, A, c, h1.later hb, h2.below hb, h3, h4⟩
theorem Wr.size {w : World} {base bw : Nat} {xs : List UInt8} (h : Wr w base bw xs) : base ≤ w.heap.size := by
 obtain ⟨bs, A, c, h1, h2, h3, h4⟩ := h
 exact Nat.le_trans h3 (Nat.le_of_lt (Array.getElem?_eq_some_iff.1 h1.wr).1)
theorem none96 (bw bs n c : Nat) (A : Option Addr) (w : World) (h : WrAt w bw bs A n c) : Calls Tryz.prog 128 #[.pointer (some ⟨bw, 0, none⟩)] w fun e w' => e = .returned (.bool false) ∧ w' = w := by
 obtain ⟨c1, -, -⟩ := h.cells
 clear h
 go_enter Tryz.func128, Tryz.ntmps128
 go_wp2
 go_ret
 exact ⟨rfl, rfl⟩
def WrLt (w : World) (bw T : Nat) : Prop := ∃ bs A n c, WrAt w bw bs A n c ∧ bs < T ∧ ∀ a, A = some a → a.block < T
theorem Wr.lt {T w : World} {base bw : Nat} {xs : List UInt8} (h : Wr T base bw xs) (hb : Below T.heap.size T w) : WrLt w bw T.heap.size := by
 obtain ⟨bs, A, c, h1, h2, h3, h4⟩ := h
 refine ⟨bs, A, _, c, h1.later hb, (Array.getElem?_eq_some_iff.1 h1.sh).1, fun a ha => ?_⟩
 subst ha
 rcases h2.2 with ⟨e, _⟩ | ⟨g, cap, cur, e, _, hg, _⟩
 ·cases e
 ·cases e
  exact (Array.getElem?_eq_some_iff.1 hg).1
end Go.Proofs.YtmgbaefgcdglpaaGreatDoor.Dir
end
section
namespace Go.Proofs.YtmgbaefgcdglpaaGreatDoor.Dir
open Go Go.RowKit Go.Proofs Go.Proofs.YtmgbaefgcdglpaaGreatDoorW.PrintWords Go.Proofs.YtmgbaefgcdglpaaGreatDoorW.PrintLast Go.Proofs.YtmgbaefgcdglpaaGreatDoorW.PrintMore
set_option linter.unusedVariables false
set_option linter.unusedSimpArgs false
end Go.Proofs.YtmgbaefgcdglpaaGreatDoor.Dir
end
section
namespace Go.Proofs.YtmgbaefgcdglpaaGreatDoor.Dir
open Go Go.RowKit Go.Proofs Go.Proofs.YtmgbaefgcdglpaaGreatDoorW.PrintWords Go.Proofs.YtmgbaefgcdglpaaGreatDoorW.PrintLast Go.Proofs.YtmgbaefgcdglpaaGreatDoorW.PrintMore
set_option linter.unusedVariables false
set_option linter.unusedSimpArgs false
theorem Wr.none (base bw : Nat) (xs : List UInt8) (w : World) (h : Wr w base bw xs) : Calls Tryz.prog 128 #[.pointer (some ⟨bw, 0, none⟩)] w fun e w' => e = .returned (.bool false) ∧ w' = w := by
 obtain ⟨bs, A, c, h1, h2, h3, h4⟩ := h
 exact none96 bw bs _ c A w h1
def OutEnd (w w' : World) (xs : List UInt8) (e : Ending) : Prop := ∃ A c, e = .returned (.slice A xs.length c) ∧ OwnB w' w.heap.size A c xs ∧ Below w.heap.size w w'
theorem OutEnd.ret {w w' : World} {xs : List UInt8} {e : Ending} (h : OutEnd w w' xs e) : ∃ ev, e = .returned ev := by
 obtain ⟨A', c', rfl, -⟩ := h
 exact ⟨_, rfl⟩
end Go.Proofs.YtmgbaefgcdglpaaGreatDoor.Dir
end
section
namespace Go.Proofs.YtmgbaefgcdglpaaGreatDoor.Dir
open Go Go.RowKit Go.Proofs Go.Proofs.YtmgbaefgcdglpaaGreatDoorW.PrintWords Go.Proofs.YtmgbaefgcdglpaaGreatDoorW.PrintLast Go.Proofs.YtmgbaefgcdglpaaGreatDoorW.PrintMore
set_option linter.unusedVariables false
set_option linter.unusedSimpArgs false
def bitV (v i : Nat) : Value := .int .i64 ((v / 2 ^ i % 2 : Nat) : Int)
def bitsV (v : Nat) : Nat → List Value
 | 0 => []
 | s + 1 => bitV v s :: bitsV v s
theorem and_one (n : Int) : bits .and .i64 n 1 = n % 2 := by
 have h1 : (BitVec.ofInt 64 1).toNat = 2 ^ 1 - 1 := by decide
 have key : (BitVec.ofInt 64 n &&& BitVec.ofInt 64 1).toNat = (n % ((2 ^ 64 : Nat) : Int)).toNat % 2 ^ 1 := by
  rw [BitVec.toNat_and, BitVec.toNat_ofInt, h1, Nat.and_two_pow_sub_one_eq_mod]
 show IntKind.i64.wrap ((BitVec.ofInt 64 n &&& BitVec.ofInt 64 1).toNat : Nat) = n % 2
 rw [key, IntKind.wrap_i64]
 omega
def BitsEnd (w w' : World) (v : Nat) (e : Ending) : Prop := ∃ g, e = .returned (.slice (some ⟨g, 0, none⟩) 64 64) ∧ w'.heap[g]? = some (.cells (bitsV v 64).toArray 3 (0, 0)) ∧ Below w.heap.size w w'
theorem BitsEnd.ret {w w' : World} {v : Nat} {e : Ending} (h : BitsEnd w w' v e) : ∃ g, e = .returned (.slice (some ⟨g, 0, none⟩) 64 64) ∧ w'.heap[g]? = some (.cells (bitsV v 64).toArray 3 (0, 0)) ∧ Below w.heap.size w w' := h
end Go.Proofs.YtmgbaefgcdglpaaGreatDoor.Dir
end
section
namespace Go.Proofs.YtmgbaefgcdglpaaGreatDoor.Dir
open Go Go.RowKit Go.Proofs Go.Proofs.YtmgbaefgcdglpaaGreatDoorW.PrintWords Go.Proofs.YtmgbaefgcdglpaaGreatDoorW.PrintLast Go.Proofs.YtmgbaefgcdglpaaGreatDoorW.PrintMore
set_option linter.unusedVariables false
set_option linter.unusedSimpArgs false
def PieceR (w : World) (base : Nat) (p : List UInt8) (cs : List Value) : Prop := ∃ A c, cs = [.slice A p.length c] ∧ OwnB w base A c p
theorem OwnB.kept {w w' : World} {base : Nat} {A : Option Addr} {c : Nat} {p : List UInt8} {row : Option Nat} (h : OwnB w base A c p) (hg : w.grownBy w' row) (hne : (Value.slice A p.length c).ownBlock = none ∨ (Value.slice A p.length c).ownBlock ≠ row) : OwnB w' base A c p := by
 unfold OwnB at h ⊢
 exact World.ownsRow.kept h hg hne
def RWr (w : World) (base rw : Nat) (xs : List UInt8) (k : Nat) : Prop := ∃ v ps, w.heap[rw]? = some (.cells #[v] 181 (0, 0)) ∧ OwnRow (PieceR w base) 66 1 w base v ps ∧ ps.flatten = xs ∧ ps.length ≤ k ∧ base ≤ rw
theorem PieceR.below {w w' : World} {base : Nat} {p : List UInt8} {cs : List Value} (h : PieceR w base p cs) (hb : Below w.heap.size w w') : PieceR w' base p cs := by
 obtain ⟨A, c, rfl, h⟩ := h
 exact ⟨A, c, rfl, h.below hb⟩
theorem RWr.below {w w' : World} {base rw : Nat} {xs : List UInt8} {k : Nat} (h : RWr w base rw xs k) (hb : Below w.heap.size w w') : RWr w' base rw xs k := by
 obtain ⟨v, ps, h1, h2, h3, h4, h5⟩ := h
 exact ⟨v, ps, room_at h1 hb, (h2.below hb).imp_ (fun p c hp => hp.below hb), h3, h4, h5⟩
theorem RWr.size {w : World} {base rw : Nat} {xs : List UInt8} {k : Nat} (h : RWr w base rw xs k) : base ≤ w.heap.size := by
 obtain ⟨v, ps, h1, h2, h3, h4, h5⟩ := h
 exact Nat.le_trans h5 (Nat.le_of_lt (Array.getElem?_eq_some_iff.1 h1).1)
end Go.Proofs.YtmgbaefgcdglpaaGreatDoor.Dir
end
section
namespace Go.Proofs.YtmgbaefgcdglpaaGreatDoor.Dir
open Go Go.RowKit Go.Proofs Go.Proofs.YtmgbaefgcdglpaaGreatDoorW.PrintWords Go.Proofs.YtmgbaefgcdglpaaGreatDoorW.PrintLast Go.Proofs.YtmgbaefgcdglpaaGreatDoorW.PrintMore
set_option linter.unusedVariables false
set_option linter.unusedSimpArgs false
theorem own_slice {w : World} {base : Nat} {e : TypeId} {size n : Nat} {v : Value} {xs : List Value} (h : w.ownsRow base e size v n xs) : ∃ A c, v = .slice A n c := by
 obtain ⟨A, c, rfl, -⟩ := src_owns h
 exact ⟨A, c, rfl⟩
end Go.Proofs.YtmgbaefgcdglpaaGreatDoor.Dir
end
section
namespace Go.Proofs.YtmgbaefgcdglpaaGreatDoor.Dir
open Go Go.RowKit Go.Proofs Go.Proofs.YtmgbaefgcdglpaaGreatDoorW.PrintWords Go.Proofs.YtmgbaefgcdglpaaGreatDoorW.PrintLast Go.Proofs.YtmgbaefgcdglpaaGreatDoorW.PrintMore
set_option linter.unusedVariables false
set_option linter.unusedSimpArgs false
end Go.Proofs.YtmgbaefgcdglpaaGreatDoor.Dir
end
section
namespace Go.Proofs.YtmgbaefgcdglpaaGreatDoor.Dir
open Go Go.RowKit Go.Proofs Go.Proofs.YtmgbaefgcdglpaaGreatDoorW.PrintWords Go.Proofs.YtmgbaefgcdglpaaGreatDoorW.PrintLast Go.Proofs.YtmgbaefgcdglpaaGreatDoorW.PrintMore
set_option linter.unusedVariables false
set_option linter.unusedSimpArgs false
end Go.Proofs.YtmgbaefgcdglpaaGreatDoor.Dir
end
section
namespace Go.Proofs.YtmgbaefgcdglpaaGreatDoor.Dir
open Go Go.RowKit Go.Proofs Go.Proofs.YtmgbaefgcdglpaaGreatDoorW.PrintWords Go.Proofs.YtmgbaefgcdglpaaGreatDoorW.PrintLast Go.Proofs.YtmgbaefgcdglpaaGreatDoorW.PrintMore
set_option linter.unusedVariables false
set_option linter.unusedSimpArgs false
end Go.Proofs.YtmgbaefgcdglpaaGreatDoor.Dir
end
section
namespace Go.Proofs.YtmgbaefgcdglpaaGreatDoor.Dir
open Go Go.RowKit Go.Proofs Go.Proofs.YtmgbaefgcdglpaaGreatDoorW.PrintWords Go.Proofs.YtmgbaefgcdglpaaGreatDoorW.PrintLast Go.Proofs.YtmgbaefgcdglpaaGreatDoorW.PrintMore
set_option linter.unusedVariables false
set_option linter.unusedSimpArgs false
end Go.Proofs.YtmgbaefgcdglpaaGreatDoor.Dir
end
section
namespace Go.Proofs.YtmgbaefgcdglpaaGreatDoor.Dir
open Go Go.RowKit Go.Proofs Go.Proofs.YtmgbaefgcdglpaaGreatDoorW.PrintWords Go.Proofs.YtmgbaefgcdglpaaGreatDoorW.PrintLast Go.Proofs.YtmgbaefgcdglpaaGreatDoorW.PrintMore
set_option linter.unusedVariables false
set_option linter.unusedSimpArgs false
def devB (d : Dev) : List UInt8 := beN d.node.toNat 1 ++ d.key.1 ++ beN d.exp.toNat 7 ++ beN (if d.rev then 1 else 0) 1
def headB (B : Book) : List UInt8 := beN B.ver.toNat 7 ++ beN B.clock.toNat 7 ++ beN B.devs.length 1
def devsB (l : List Dev) : List UInt8 := l.flatMap devB
def keysB (l : List Key) : List UInt8 := l.flatMap (fun k => k.1)
def midB (B : Book) : List UInt8 := headB B ++ devsB B.devs ++ beN B.spent.length 1
def bytesB (B : Book) : List UInt8 := midB B ++ keysB B.spent ++ beN B.acl.length 2 ++ B.acl
theorem devB_len (d : Dev) : (devB d).length = 41 := by simp [devB, beN_len, d.key.2]
theorem headB_len (B : Book) : (headB B).length = 15 := by simp [headB, beN_len]
theorem devsB_len : ∀ l : List Dev, (devsB l).length = 41 * l.length
 | [] => rfl
 | d :: l => by
  have := devsB_len l
  unfold devsB at this ⊢
  rw [List.flatMap_cons, List.length_append, this, devB_len, List.length_cons]
  omega
theorem keysB_len : ∀ l : List Key, (keysB l).length = 32 * l.length
 | [] => rfl
 | d :: l => by
  have := keysB_len l
  unfold keysB at this ⊢
  rw [List.flatMap_cons, List.length_append, this, d.2, List.length_cons]
  omega
theorem acl_short {t : List UInt8} (h : rulesOf t = 0) : t.length ≤ 1024 := by
 unfold rulesOf Acl.parseOf at h
 by_cases hl : t.length > 1024
 ·rw [if_pos hl] at h; cases h
 ·omega
def BytesEnd (w w' : World) (B : Book) (e : Ending) : Prop :=
 (∃ A c, e = .returned (.tuple #[.slice A (bytesB B).length c, .int .i64 0]) ∧ OwnB w' w.heap.size A c (bytesB B) ∧ MayB B) ∨ (e = .returned (.tuple #[.slice none 0 0, .int .i64 2]) ∧ ¬ MayB B)
end Go.Proofs.YtmgbaefgcdglpaaGreatDoor.Dir
end
section
namespace Go.Proofs.YtmgbaefgcdglpaaGreatDoor.Dir
open Go Go.RowKit Go.Proofs Go.Proofs.YtmgbaefgcdglpaaGreatDoorW.PrintWords Go.Proofs.YtmgbaefgcdglpaaGreatDoorW.PrintLast Go.Proofs.YtmgbaefgcdglpaaGreatDoorW.PrintMore
set_option linter.unusedVariables false
set_option linter.unusedSimpArgs false
theorem RWr.up {w : World} {base rw : Nat} {xs : List UInt8} {k k' : Nat} (h : RWr w base rw xs k) (hk : k ≤ k') : RWr w base rw xs k' := by
 obtain ⟨v, ps, h1, h2, h3, h4, h5⟩ := h
 exact ⟨v, ps, h1, h2, h3, by omega, h5⟩
end Go.Proofs.YtmgbaefgcdglpaaGreatDoor.Dir
end
section
namespace Go.Proofs.YtmgbaefgcdglpaaGreatDoor.Dir
open Go Go.RowKit Go.Proofs Go.Proofs.YtmgbaefgcdglpaaGreatDoorW.PrintWords Go.Proofs.YtmgbaefgcdglpaaGreatDoorW.PrintLast Go.Proofs.YtmgbaefgcdglpaaGreatDoorW.PrintMore
set_option linter.unusedVariables false
set_option linter.unusedSimpArgs false
set_option maxHeartbeats 2000000 in
set_option maxRecDepth 100000 in
theorem index_devS (l : List Dev) (k : Key) (A : Option Addr) (c cb : Nat) (w : World) (h : SrcAt w A l.length 35 (flatD l)) (hl : l.length ≤ 4611686018427387904) (hc : w.heap[cb]? = some (.cells (encK k).toArray 28 (0, 0))) :
  Calls Tryz.prog 101 #[.slice A l.length c, .func (.func 102) #[] #[.pointer (some ⟨cb, 0, none⟩)]] w fun e w' => ((e = .returned (.int .i64 (-1)) ∧ ∀ d ∈ l, d.key ≠ k) ∨ ∃ (i : Nat) (d : Dev), e = .returned (.int .i64 i) ∧ l[i]? = some d ∧ d.key = k ∧ ∀ j, j < i → ∀ d', l[j]? = some d' → d'.key ≠ k) ∧ Below w.heap.size w w' := by
 have HW := Aside0.mk h
 have HC := Aside0.mk hc
 have HL := Aside0.mk hl
 have hcl : cb < w.heap.size := (Array.getElem?_eq_some_iff.1 hc).1
 have HCL := Aside0.mk hcl
 clear h hc hl hcl
 go_enter Tryz.func101, Tryz.ntmps101
 go_wp2
 go_loopg [5, 8] l.length (fun gg _ s8 wr => ∃ kk : Nat, kk ≤ l.length ∧ l.length - kk ≤ gg ∧ s8 = .int .i64 kk ∧ Aside0 (Below w.heap.size w wr) ∧ Aside0 (∀ j, j < kk → ∀ d', l[j]? = some d' → d'.key ≠ k))
 case atStart => exact ⟨0, Nat.zero_le _, by omega, rfl, ⟨Below.refl _ w⟩, ⟨fun j hj => absurd hj (Nat.not_lt_zero _)⟩⟩
 case round =>
  obtain ⟨kk, hkk, hg, rfl, BW, AL⟩ := hrel
  have LL := HL.out
  by_cases hlt : kk < l.length
  ·have hltz : (kk : Int) < (l.length : Int) := by omega
   obtain ⟨d, hd⟩ : ∃ d, l[kk]? = some d := ⟨_, List.getElem?_eq_getElem hlt⟩
   obtain ⟨g, o, hA, -⟩ : ∃ g o, A = some ⟨g, o, none⟩ ∧ True := by
    cases hA : A with
    | none => exact absurd (HW.out.2.1 hA) (by omega)
    | some a =>
     subst hA
     obtain ⟨g, o, rfl⟩ := src_bareD HW.out (by omega)
     exact ⟨g, o, rfl, trivial⟩
   subst hA
   have l1 := Aside0.mk (src_dev HW.out hd BW.out)
   have hcall := Aside0.mk (same_any d k cb wr ((BW.out.block _ HCL.out).trans HC.out))
   have HD := Aside0.mk hd
   clear hd
   by_cases hq : d.key = k
   ·rw [show decide (d.key = k) = true from decide_eq_true hq] at hcall
    go_wp2_with (first | (refine wpList_loadK rfl 85 _ rfl _ rfl _ l1.out ?_) | (go_at_call 102; refine hcall.out.mono ?_; rintro e w' ⟨rfl, rfl⟩))
    go_ret
    exact ⟨.inr ⟨kk, d, rfl, HD.out, hq, AL.out⟩, BW.out.alloc BW.out.size _⟩
   ·rw [show decide (d.key = k) = false from decide_eq_false hq] at hcall
    have HQ := Aside0.mk hq
    clear hq
    go_wp2_with (first | (refine wpList_loadK rfl 85 _ rfl _ rfl _ l1.out ?_) | (go_at_call 102; refine hcall.out.mono ?_; rintro e w' ⟨rfl, rfl⟩))
    go_roundg (l.length - (kk + 1))
    case measure => omega
    case rel =>
     refine ⟨kk + 1, by omega, by omega, by go_num, ⟨BW.out.alloc BW.out.size _⟩, ⟨fun j hj d' hd' => ?_⟩⟩
     by_cases e : j = kk
     ·subst e
      rw [HD.out] at hd'
      cases hd'
      exact HQ.out
     ·exact AL.out j (by omega) d' hd'
  ·have hltz : ¬ (kk : Int) < (l.length : Int) := by omega
   have : kk = l.length := by omega
   subst this
   go_wp2
   go_ret
   refine ⟨.inl ⟨rfl, fun d hd => ?_⟩, BW.out⟩
   obtain ⟨j, hj⟩ := List.getElem?_of_mem hd
   exact AL.out j (List.getElem?_eq_some_iff.1 hj).1 d hj
def devRes (d : Dev) (now cl : Int) : Value := if d.rev = true ∨ d.exp ≤ now ∨ d.exp ≤ cl then .tuple #[.int .i64 0, .bool false] else .tuple #[.int .i64 d.node, .bool true]
theorem valid_some {B : Book} {k : Key} {now : Int} {d : Dev} (h : B.devs.find? (fun d => decide (d.key = k)) = some d) : validRes (validOf B k now) = devRes d now B.clock := by
 unfold validOf devRes
 rw [h]
 show validRes (if _ then _ else _) = _
 split <;> rfl
theorem valid_none {B : Book} {k : Key} {now : Int} (h : B.devs.find? (fun d => decide (d.key = k)) = none) : validRes (validOf B k now) = .tuple #[.int .i64 0, .bool false] := by
 unfold validOf
 rw [h]
 rfl
set_option maxHeartbeats 2000000 in
set_option maxRecDepth 100000 in
theorem valid_src (B : Book) (k : Key) (now : Int) (A1 : Option Addr) (c1 : Nat) (A2 : Option Addr) (c2 : Nat) (w : World) (h : SrcB w B A1 A2) :
  Calls Tryz.prog 50 #[.agg (bookCells B A1 c1 A2 c2).toArray, .agg (encK k).toArray, .int .i64 now] w fun e w' => e = .returned (validRes (validOf B k now)) ∧ Below w.heap.size w w' := by
 obtain ⟨W0, hW0⟩ : ∃ W0, W0 = (w.alloc (.cells (bookCells B A1 c1 A2 c2).toArray 25)).alloc (.cells (encK k).toArray 28) := ⟨_, rfl⟩
 have hb0 : Below w.heap.size w W0 := by rw [hW0]; exact ((Below.refl _ w).alloc (Nat.le_refl _) _).alloc (by simp) _
 have q1 : W0.heap[w.heap.size]? = some (.cells (bookCells B A1 c1 A2 c2).toArray 25 (0, 0)) := by rw [hW0, Below.heap_alloc _ _ _ (by simp)]; exact heap_alloc_new w _
 have q2 : W0.heap[w.heap.size + 1]? = some (.cells (encK k).toArray 28 (0, 0)) := by rw [hW0]; have := heap_alloc_new (w.alloc (.cells (bookCells B A1 c1 A2 c2).toArray 25)) (.cells (encK k).toArray 28); simpa using this
 have hS := h.later hb0
 have HI := Aside0.mk (index_devS B.devs k A1 c1 (w.heap.size + 1) W0 hS.devs hS.few q2)
 have HS := Aside0.mk hS
 have hc1 := cell_of_heap (j := 1) q1
 have hc2 := cell_of_heap (j := 2) q1
 have HB := Aside0.mk hb0
 obtain ⟨R, hR⟩ : ∃ R, R = validRes (validOf B k now) := ⟨_, rfl⟩
 rw [← hR]
 have HRR := Aside0.mk hR
 have hF := hS.few
 obtain ⟨cl, hcl⟩ : ∃ cl, cl = B.clock := ⟨_, rfl⟩
 obtain ⟨n1, hn1⟩ : ∃ n1, n1 = B.devs.length := ⟨_, rfl⟩
 have c1' : W0.cell? ⟨w.heap.size, 1, none⟩ = some (.int .i64 cl) := by rw [hc1, hcl]; rfl
 have c2' : W0.cell? ⟨w.heap.size, 2, none⟩ = some (.slice A1 n1 c1) := by rw [hc2, hn1]; rfl
 have HCL := Aside0.mk hcl
 have HN := Aside0.mk hn1
 rw [← hn1] at hF
 clear hc1 hc2 hR hb0 q1 q2 hS h hcl hn1
 go_enter Tryz.func50, Tryz.ntmps50
 go_upto_region 1 with fail
 rw [← hW0]
 clear hW0
 go_wp2_with fail
 rw [HN.out]
 refine HI.out.mono ?_
 rintro e w1 ⟨hres, hb1⟩
 have d1 := (hb1.cell (p := ⟨w.heap.size, 1, none⟩) (World.block_lt_of_cell? W0 _ c1')).trans c1'
 have d2 := (hb1.cell (p := ⟨w.heap.size, 2, none⟩) (World.block_lt_of_cell? W0 _ c2')).trans c2'
 have HB1 := Aside0.mk hb1
 clear hb1 c1' c2'
 rcases hres with ⟨rfl, hno⟩ | ⟨i, d, rfl, hi, hk, hfst⟩
 ·have HNO := Aside0.mk hno
  clear hno
  go_wp2_with fail
  go_ret2
  refine ⟨?_, below_step HB.out HB1.out⟩
  rw [HRR.out, valid_none (List.find?_eq_none.2 fun d hd => by simpa using HNO.out d hd)]
  rfl
 ·have hfind : B.devs.find? (fun d => decide (d.key = k)) = some d := find_at hi (decide_eq_true hk) (fun j hj d' hd' => decide_eq_false (hfst j hj d' hd'))
  have hlt := (List.getElem?_eq_some_iff.1 hi).1
  have hin : (i : Int) < (n1 : Int) := by rw [HN.out]; omega
  obtain ⟨g, o, hA, hld⟩ := HS.out.dev hi
  subst hA
  have l1 := Aside0.mk (hld w1 HB1.out)
  have st := Aside0.mk (fun (c : Array Value) (hc : c.size = 35) => run_storeNew Tryz.prog w1 85 35 sizeD c (encD d).toArray hc (by simpa using encD_len d) (by simpa using encD_one d))
  have a0 : (encD d).toArray[0]? = some (.int .i64 d.node) := rfl
  have a33 : (encD d).toArray[33]? = some (.int .i64 d.exp) := by simpa using expOfD d
  have a34 : (encD d).toArray[34]? = some (.bool d.rev) := by simpa using revOfD d
  have HV := Aside0.mk (HRR.out.trans (by rw [valid_some hfind, ← HCL.out]; rfl : validRes (validOf B k now) = if d.rev = true ∨ d.exp ≤ now ∨ d.exp ≤ cl then .tuple #[.int .i64 0, .bool false] else .tuple #[.int .i64 d.node, .bool true]))
  generalize (encD d).toArray = A at l1 st a0 a33 a34
  generalize d.rev = rv at a34 HV
  generalize d.exp = ex at a33 HV
  generalize d.node = nd at a0 HV
  clear hi hk hfst hfind hlt hld
  have d1' : ∀ o, (w1.alloc o).cell? ⟨w.heap.size, 1, none⟩ = some (.int .i64 cl) := fun o => Lib.cell?_alloc_some o d1
  go_wp2_with (first | (refine wpList_loadK rfl 85 _ rfl _ rfl _ l1.out ?_) | (refine wpList_storeK rfl 85 _ _ rfl rfl _ _ rfl rfl _ (st.out _ rfl) ?_))
  all_goals
   go_ret2
   refine ⟨?_, (below_step HB.out HB1.out).alloc (below_step HB.out HB1.out).size _⟩
   rw [HV.out]
  all_goals first
   | (rw [if_pos (by first | (left; assumption) | (right; assumption) | (right; left; assumption) | (right; omega))]; rfl)
   | (rw [if_neg (by rintro (h | h | h) <;> first | contradiction | omega)]; rfl)
end Go.Proofs.YtmgbaefgcdglpaaGreatDoor.Dir
end
section
namespace Go.Proofs.YtmgbaefgcdglpaaGreatDoor.Dir
open Go Go.RowKit Go.Proofs Go.Proofs.YtmgbaefgcdglpaaGreatDoorW.PrintWords Go.Proofs.YtmgbaefgcdglpaaGreatDoorW.PrintLast Go.Proofs.YtmgbaefgcdglpaaGreatDoorW.PrintMore
set_option linter.unusedVariables false
set_option linter.unusedSimpArgs false
end Go.Proofs.YtmgbaefgcdglpaaGreatDoor.Dir
end
section
namespace Go.Proofs.YtmgbaefgcdglpaaGreatDoor.Dir
open Go Go.RowKit Go.Proofs Go.Proofs.YtmgbaefgcdglpaaGreatDoorW.PrintWords Go.Proofs.YtmgbaefgcdglpaaGreatDoorW.PrintLast Go.Proofs.YtmgbaefgcdglpaaGreatDoorW.PrintMore
set_option linter.unusedVariables false
set_option linter.unusedSimpArgs false
theorem bytesB_le {B : Book} (h : MayB B) : (bytesB B).length ≤ 10000 := by
 unfold bytesB midB
 rw [List.length_append, List.length_append, List.length_append, List.length_append, List.length_append, keysB_len, devsB_len, headB_len, beN_len, beN_len]
 have := acl_short h.2
 have h1 := h.1.few.1
 have h2 := h.1.few.2
 omega
def Said (B : Book) (ev : Int) (l : List UInt8) : Prop := (MayB B ∧ ev = 0 ∧ l = bytesB B) ∨ (¬ MayB B ∧ ev = 2 ∧ l = [])
theorem Said.le {B : Book} {ev : Int} {l : List UInt8} (h : Said B ev l) : l.length ≤ 10000 := by
 rcases h with ⟨h, -, rfl⟩ | ⟨-, -, rfl⟩
 ·exact bytesB_le h
 ·simp
theorem src_none {w : World} {size : Nat} : SrcAt w none 0 size [] := ⟨by simp, fun _ => rfl, fun a e => by cases e⟩
theorem BytesEnd.said {w w' : World} {B : Book} {e : Ending} {ev : Int} {l : List UInt8} (h : BytesEnd w w' B e) (s : Said B ev l) : ∃ A c, e = .returned (.tuple #[.slice A l.length c, .int .i64 ev]) ∧ SrcAt w' A l.length 1 (l.map byteV) := by
 rcases h with ⟨A, c, rfl, ho, hm⟩ | ⟨rfl, hm⟩ <;> rcases s with ⟨h, rfl, rfl⟩ | ⟨h, rfl, rfl⟩
 ·exact ⟨A, c, rfl, ho.src⟩
 ·exact absurd hm h
 ·exact absurd h hm
 ·exact ⟨none, 0, rfl, src_none⟩
theorem CheckEnd.said {B : Book} {e : Ending} {ev : Int} {l : List UInt8} (h : CheckEnd B e) (s : Said B ev l) : e = .returned (.int .i64 ev) := by
 rcases h with ⟨rfl, hm⟩ | ⟨rfl, hm⟩ <;> rcases s with ⟨h, rfl, rfl⟩ | ⟨h, rfl, rfl⟩
 ·rfl
 ·exact absurd ((may_ok B).1 hm) h
 ·exact absurd ((may_ok B).2 h) hm
 ·rfl
theorem RCheckEnd.said {B : Book} {e : Ending} {ev : Int} {l : List UInt8} (h : RCheckEnd B e) (s : Said B ev l) : e = .returned (.int .i64 ev) := by
 rcases h with ⟨rfl, hm⟩ | ⟨rfl, hm⟩ <;> rcases s with ⟨h, rfl, rfl⟩ | ⟨h, rfl, rfl⟩
 ·rfl
 ·exact absurd hm h
 ·exact absurd h hm
 ·rfl
structure ButW (g0 : Nat) (W W' : World) : Prop where
 size : W.heap.size ≤ W'.heap.size
 block : ∀ g, g < W.heap.size → g ≠ g0 → W'.heap[g]? = W.heap[g]?
theorem ButW.refl (g0 : Nat) (W : World) : ButW g0 W W := ⟨Nat.le_refl _, fun _ _ _ => rfl⟩
theorem ButW.below {g0 : Nat} {W W' W2 : World} (h : ButW g0 W W') (hb : Below W'.heap.size W' W2) : ButW g0 W W2 := ⟨Nat.le_trans h.size hb.size, fun g hg hn => (hb.block g (Nat.lt_of_lt_of_le hg h.size)).trans (h.block g hg hn)⟩
theorem ButW.set {g0 : Nat} {W W' : World} (h : ButW g0 W W') (cs : Array Value) : ButW g0 W (W'.setRow g0 cs) :=
 ⟨Nat.le_trans h.size (grownBy_setRow W' g0 cs).size, fun g hg hn => ((grownBy_setRow W' g0 cs).block g (Nat.lt_of_lt_of_le hg h.size) (fun e => hn (Option.some.inj e))).trans (h.block g hg hn)⟩
theorem ButW.cell {g0 : Nat} {W W' : World} {a : Addr} {v : Value} (h : ButW g0 W W') (hc : W.cell? a = some v) (hn : a.block ≠ g0) : W'.cell? a = some v := by
 have hlt := World.block_lt_of_cell? W a hc
 unfold World.cell? at hc ⊢
 rw [h.block a.block hlt hn]
 exact hc
theorem SrcAt.but {g0 : Nat} {W W' : World} {A : Option Addr} {n size : Nat} {xs : List Value} (h : SrcAt W A n size xs) (hb : ButW g0 W W') (ha : ∀ a, A = some a → a.block ≠ g0) : SrcAt W' A n size xs :=
 ⟨h.1, h.2.1, fun a e j u hj => hb.cell (h.2.2 a e j u hj) (by rw [add_block]; exact ha a e)⟩
theorem SrcB.but {g0 : Nat} {W W' : World} {B : Book} {A1 A2 : Option Addr} (h : SrcB W B A1 A2) (hb : ButW g0 W W') (h1 : ∀ a, A1 = some a → a.block ≠ g0) (h2 : ∀ a, A2 = some a → a.block ≠ g0) : SrcB W' B A1 A2 := ⟨h.devs.but hb h1, h.spent.but hb h2, h.few, h.len⟩
end Go.Proofs.YtmgbaefgcdglpaaGreatDoor.Dir
end
section
namespace Go.Proofs.YtmgbaefgcdglpaaGreatDoor.Dir
open Go Go.RowKit Go.Proofs Go.Proofs.YtmgbaefgcdglpaaGreatDoorW.PrintWords Go.Proofs.YtmgbaefgcdglpaaGreatDoorW.PrintLast Go.Proofs.YtmgbaefgcdglpaaGreatDoorW.PrintMore
set_option linter.unusedVariables false
set_option linter.unusedSimpArgs false
def natB (l : List UInt8) : Nat := l.foldl (fun n b => n * 256 + b.toNat) 0
structure RdAt (W : World) (br bs : Nat) (A : Option Addr) (n c pos : Nat) : Prop where
 rd : W.heap[br]? = some (.cells #[.pointer (some ⟨bs, 0, none⟩)] 189 (0, 0))
 sh : W.heap[bs]? = some (.cells #[.slice A n c, .int .i64 pos] 171 (0, 0))
theorem RdAt.later {W W' : World} {br bs : Nat} {A : Option Addr} {n c pos : Nat} (h : RdAt W br bs A n c pos) (hb : Below W.heap.size W W') : RdAt W' br bs A n c pos := ⟨room_at h.rd hb, room_at h.sh hb⟩
theorem RdAt.cells {W : World} {br bs : Nat} {A : Option Addr} {n c pos : Nat} (h : RdAt W br bs A n c pos) : W.cell? ⟨br, 0, none⟩ = some (.pointer (some ⟨bs, 0, none⟩)) ∧ W.cell? ⟨bs, 0, none⟩ = some (.slice A n c) ∧ W.cell? ⟨bs, 1, none⟩ = some (.int .i64 pos) ∧ W.frozen? ⟨bs, 1, none⟩ = false := by
 refine ⟨?_, ?_, ?_, frozen_of_heap h.sh⟩
 ·rw [cell_of_heap h.rd]; rfl
 ·rw [cell_of_heap h.sh]; rfl
 ·rw [cell_of_heap h.sh]; rfl
def Rd (w : World) (base br : Nat) (r : List UInt8) : Prop := ∃ bs A c xs pos, RdAt w br bs A xs.length c pos ∧ OwnB w base A c xs ∧ pos ≤ xs.length ∧ r = xs.drop pos ∧ xs.length ≤ 140737488355328 ∧ base ≤ br ∧ base ≤ bs
theorem own_keptT {w w' : World} {base : Nat} {e : TypeId} {size n : Nat} {v : Value} {xs : List Value} {ts : List TypeId} (h : w.ownsRow base e size v n xs) (hk : KeptT ts w w') (he : e ∉ ts) : w'.ownsRow base e size v n xs := by
 refine ⟨h.1, ?_⟩
 rcases h.2 with h | ⟨g, cap, cur, h1, h2, h3, h4⟩
 ·exact .inl h
 ·exact .inr ⟨g, cap, cur, h1, h2, hk g _ _ _ h3 he, h4⟩
theorem Rd.kept {w w' : World} {base br : Nat} {r : List UInt8} {ts : List TypeId} (h : Rd w base br r) (hk : KeptT ts w w') (h1 : 189 ∉ ts) (h2 : 171 ∉ ts) (h3 : 5 ∉ ts) : Rd w' base br r := by
 obtain ⟨bs, A, c, xs, pos, ha, ho, hr⟩ := h
 exact ⟨bs, A, c, xs, pos, ⟨hk _ _ _ _ ha.rd h1, hk _ _ _ _ ha.sh h2⟩, own_keptT ho hk h3, hr⟩
theorem Rd.below {w w' : World} {base br : Nat} {r : List UInt8} (h : Rd w base br r) (hb : Below w.heap.size w w') : Rd w' base br r := h.kept (ts := []) (KeptT.below hb) (by simp) (by simp) (by simp)
end Go.Proofs.YtmgbaefgcdglpaaGreatDoor.Dir
end
section
namespace Go.Proofs.YtmgbaefgcdglpaaGreatDoor.Dir
open Go Go.RowKit Go.Proofs Go.Proofs.YtmgbaefgcdglpaaGreatDoorW.PrintWords Go.Proofs.YtmgbaefgcdglpaaGreatDoorW.PrintLast Go.Proofs.YtmgbaefgcdglpaaGreatDoorW.PrintMore
set_option linter.unusedVariables false
set_option linter.unusedSimpArgs false
end Go.Proofs.YtmgbaefgcdglpaaGreatDoor.Dir
end
section
namespace Go.Proofs.YtmgbaefgcdglpaaGreatDoor.Dir
open Go Go.RowKit Go.Proofs Go.Proofs.YtmgbaefgcdglpaaGreatDoorW.PrintWords Go.Proofs.YtmgbaefgcdglpaaGreatDoorW.PrintLast Go.Proofs.YtmgbaefgcdglpaaGreatDoorW.PrintMore
set_option linter.unusedVariables false
set_option linter.unusedSimpArgs false
end Go.Proofs.YtmgbaefgcdglpaaGreatDoor.Dir
end
section
namespace Go.Proofs.YtmgbaefgcdglpaaGreatDoor.Dir
open Go Go.RowKit Go.Proofs Go.Proofs.YtmgbaefgcdglpaaGreatDoorW.PrintWords Go.Proofs.YtmgbaefgcdglpaaGreatDoorW.PrintLast Go.Proofs.YtmgbaefgcdglpaaGreatDoorW.PrintMore
set_option linter.unusedVariables false
set_option linter.unusedSimpArgs false
end Go.Proofs.YtmgbaefgcdglpaaGreatDoor.Dir
end
section
namespace Go.Proofs.YtmgbaefgcdglpaaGreatDoor.Dir
open Go Go.RowKit Go.Proofs Go.Proofs.YtmgbaefgcdglpaaGreatDoorW.PrintWords Go.Proofs.YtmgbaefgcdglpaaGreatDoorW.PrintLast Go.Proofs.YtmgbaefgcdglpaaGreatDoorW.PrintMore
set_option linter.unusedVariables false
set_option linter.unusedSimpArgs false
def takeP (s : Nat) (l : List UInt8) : Except Int (List UInt8 × List UInt8) := if l.length < s then .error 3 else .ok (l.take s, l.drop s)
def getP (s : Nat) (l : List UInt8) : Except Int (Nat × List UInt8) :=
 match takeP s l with
 | .error c => .error c
 | .ok (a, r) => .ok (natB a, r)
def octP (m : Nat) (l : List UInt8) : Except Int (List UInt8 × List UInt8) :=
 match getP 2 l with
 | .error c => .error c
 | .ok (n, r) => if m < n then .error 5 else takeP n r
structure Oc (w W : World) (p : Nat) (br : Nat) (cd pos : Int) : Prop where
 b0 : W.heap[p]? = some (.cells #[.pointer (some ⟨br, 0, none⟩)] 128 (0, 0))
 b1 : W.heap[p + 1]? = some (.cells #[.int .i64 cd] 32 (0, 0))
 b2 : W.heap[p + 2]? = some (.cells #[.int .i64 pos] 3 (0, 0))
theorem Oc.kept {w W W' : World} {p br : Nat} {cd pos : Int} (h : Oc w W p br cd pos) (hk : KeptT [171] W W') : Oc w W' p br cd pos := ⟨hk _ _ _ _ h.b0 (by decide), hk _ _ _ _ h.b1 (by decide), hk _ _ _ _ h.b2 (by decide)⟩
theorem Oc.set {w W : World} {p br : Nat} {cd pos : Int} (h : Oc w W p br cd pos) (v : Int) : Oc w (W.setCell ⟨p + 1, 0, none⟩ (.int .i64 v)) p br v pos :=
 ⟨(Below.heap_setCell _ _ _ _ (by simp)).trans h.b0, by rw [heap_setCell_same W (p + 1) 0 _ _ _ h.b1]; rfl, (Below.heap_setCell _ _ _ _ (by simp)).trans h.b2⟩
theorem Oc.cells {w W : World} {p br : Nat} {cd pos : Int} (h : Oc w W p br cd pos) : W.cell? ⟨p, 0, none⟩ = some (.pointer (some ⟨br, 0, none⟩)) ∧ W.cell? ⟨p + 1, 0, none⟩ = some (.int .i64 cd) ∧ W.cell? ⟨p + 2, 0, none⟩ = some (.int .i64 pos) ∧ W.frozen? ⟨p + 1, 0, none⟩ = false := by
 refine ⟨?_, ?_, ?_, frozen_of_heap h.b1⟩
 ·rw [cell_of_heap h.b0]; rfl
 ·rw [cell_of_heap h.b1]; rfl
 ·rw [cell_of_heap h.b2]; rfl
theorem Rd.at {w : World} {base br : Nat} {r : List UInt8} (h : Rd w base br r) : ∃ bs A n c pos, RdAt w br bs A n c pos ∧ base ≤ bs := by
 obtain ⟨bs, A, c, xs, pos, ha, -, -, -, -, -, h7⟩ := h
 exact ⟨bs, A, _, c, pos, ha, h7⟩
theorem keptT_drew (ts : List TypeId) (w : World) : KeptT ts w w.drew := fun _ _ _ _ h _ => h
theorem KeptT.new {ts : List TypeId} {w W : World} (h : KeptT ts w W) {b : Nat} (hb : w.heap.size ≤ b) (j : Nat) (u : Value) : KeptT ts w (W.setCell ⟨b, j, none⟩ u) := fun g cs T fr hg ht => by
 have hlt := (Array.getElem?_eq_some_iff.1 hg).1
 have hne : g ≠ b := by omega
 rw [Below.heap_setCell _ _ _ _ (fun e => by first | exact hne e | exact hne e.symm)]
 exact h g cs T fr hg ht
structure OcS (w W : World) (base p br : Nat) (cd : Int) (pos : Nat) : Prop where
 o : Oc w W p br cd pos
 r : ∃ bs A n c q, RdAt W br bs A n c q ∧ base ≤ bs
 b : Below base w W
 k : KeptT [171] w W
 lo : w.heap.size ≤ p
 ba : base ≤ w.heap.size
theorem OcS.set {w W : World} {base p br pos : Nat} {cd : Int} (h : OcS w W base p br cd pos) (v : Int) : OcS w (W.setCell ⟨p + 1, 0, none⟩ (.int .i64 v)) base p br v pos := by
 obtain ⟨bs, A, n, c, q, ha, hbs⟩ := h.r
 have hk := KeptT.setCell (j := 0) h.o.b1 (by decide : (32 : Nat) ∈ [32]) (.int .i64 v)
 exact ⟨h.o.set v, ⟨bs, A, n, c, q, ⟨hk _ _ _ _ ha.rd (by decide), hk _ _ _ _ ha.sh (by decide)⟩, hbs⟩, h.b.setCell (Nat.le_trans h.ba (Nat.le_trans h.lo (by simp))) _, h.k.new (Nat.le_trans h.lo (by simp)) 0 _, h.lo, h.ba⟩
theorem OcS.drew {w W : World} {base p br pos : Nat} {cd : Int} (h : OcS w W base p br cd pos) : OcS w W.drew base p br cd pos := by
 obtain ⟨bs, A, n, c, q, ha, hbs⟩ := h.r
 exact ⟨⟨h.o.b0, h.o.b1, h.o.b2⟩, ⟨bs, A, n, c, q, ⟨ha.rd, ha.sh⟩, hbs⟩, h.b.drew, h.k.trans (keptT_drew _ _), h.lo, h.ba⟩
theorem OcS.step {w W W' : World} {base p br pos : Nat} {cd : Int} (h : OcS w W base p br cd pos) (hb : Below base W W') (hk : KeptT [171] W W') (hr : ∃ bs A n c q, RdAt W' br bs A n c q ∧ base ≤ bs) : OcS w W' base p br cd pos :=
 ⟨h.o.kept hk, hr, h.b.trans hb, h.k.trans hk, h.lo, h.ba⟩
end Go.Proofs.YtmgbaefgcdglpaaGreatDoor.Dir
end
section
namespace Go.Proofs.YtmgbaefgcdglpaaGreatDoor.Dir
open Go Go.RowKit Go.Proofs Go.Proofs.YtmgbaefgcdglpaaGreatDoorW.PrintWords Go.Proofs.YtmgbaefgcdglpaaGreatDoorW.PrintLast Go.Proofs.YtmgbaefgcdglpaaGreatDoorW.PrintMore
set_option linter.unusedVariables false
set_option linter.unusedSimpArgs false
def thrown (c : Int) : Ending := .panicked [{ v := .iface 225 (.int .i64 c), recovered := false }]
def mostP (m : Nat) (l : List UInt8) : Except Int (Nat × List UInt8) :=
 match getP 1 l with
 | .error c => .error c
 | .ok (n, r) => if m < n then .error 4 else .ok (n, r)
def toKey (l : List UInt8) : Key := ⟨(l ++ List.replicate 32 0).take 32, by simp⟩
def keyP (l : List UInt8) : Except Int (Key × List UInt8) :=
 match takeP 32 l with
 | .error c => .error c
 | .ok (a, r) => .ok (toKey a, r)
end Go.Proofs.YtmgbaefgcdglpaaGreatDoor.Dir
end
section
namespace Go.Proofs.YtmgbaefgcdglpaaGreatDoor.Dir
open Go Go.RowKit Go.Proofs Go.Proofs.YtmgbaefgcdglpaaGreatDoorW.PrintWords Go.Proofs.YtmgbaefgcdglpaaGreatDoorW.PrintLast Go.Proofs.YtmgbaefgcdglpaaGreatDoorW.PrintMore
set_option linter.unusedVariables false
set_option linter.unusedSimpArgs false
def devP (l : List UInt8) : Except Int (Dev × List UInt8) :=
 match getP 1 l with
 | .error c => .error c
 | .ok (n, r1) =>
  match keyP r1 with
  | .error c => .error c
  | .ok (k, r2) =>
   match getP 7 r2 with
   | .error c => .error c
   | .ok (e, r3) =>
    match mostP 1 r3 with
    | .error c => .error c
    | .ok (v, r4) => .ok (⟨(n : Int), k, (e : Int), decide (v = 1)⟩, r4)
def manyP {α : Type} (f : List UInt8 → Except Int (α × List UInt8)) : Nat → List UInt8 → Except Int (List α × List UInt8)
 | 0, l => .ok ([], l)
 | n + 1, l =>
  match f l with
  | .error c => .error c
  | .ok (d, r) =>
   match manyP f n r with
   | .error c => .error c
   | .ok (ds, r') => .ok (d :: ds, r')
def rawP (l : List UInt8) : Except Int (Book × List UInt8) :=
 match getP 7 l with
 | .error c => .error c
 | .ok (v, r1) =>
  match getP 7 r1 with
  | .error c => .error c
  | .ok (k, r2) =>
   match mostP 8 r2 with
   | .error c => .error c
   | .ok (n, r3) =>
    match manyP devP n r3 with
    | .error c => .error c
    | .ok (ds, r4) =>
     match mostP 64 r4 with
     | .error c => .error c
     | .ok (m, r5) =>
      match manyP keyP m r5 with
      | .error c => .error c
      | .ok (ks, r6) =>
       match octP 1024 r6 with
       | .error c => .error c
       | .ok (t, r7) => .ok (⟨(v : Int), (k : Int), ds, ks, t⟩, r7)
def bookSaid (l : List UInt8) (x : Except Int Book) : Prop :=
 match rawP l with
 | .error c => x = .error c
 | .ok (B, r) => (r = [] ∧ MayB B ∧ x = .ok B) ∨ (¬ (r = [] ∧ MayB B) ∧ x = .error 4)
theorem KeptT.low {ts : List TypeId} {w W W' : World} (h : KeptT ts w W) (hs : w.heap.size ≤ W.heap.size) (hb : Below w.heap.size W W') : KeptT ts w W' := fun g cs T fr hg ht => by
 have hlt := (Array.getElem?_eq_some_iff.1 hg).1
 rw [hb.block g hlt]
 exact h g cs T fr hg ht
structure BkS (w W : World) (base p q br : Nat) (B : Book) (A1 : Option Addr) (c1 : Nat) (A2 : Option Addr) (c2 : Nat) (r : List UInt8) : Prop where
 rb : W.heap[p]? = some (.cells #[.pointer (some ⟨br, 0, none⟩)] 131 (0, 0))
 bx : W.heap[q]? = some (.cells (bookCells B A1 c1 A2 c2).toArray 25 (0, 0))
 d : OwnD W w.heap.size A1 c1 B.devs
 k : OwnK W w.heap.size A2 c2 B.spent
 rd : Rd W base br r
 b : Below base w W
 kt : KeptT [171] w W
 lo : w.heap.size ≤ q
 ba : base ≤ w.heap.size
section
variable {w W W' : World} {base p q br : Nat} {B : Book} {A1 : Option Addr} {c1 : Nat} {A2 : Option Addr} {c2 : Nat} {r r' : List UInt8}
theorem BkS.sz (h : BkS w W base p q br B A1 c1 A2 c2 r) : w.heap.size ≤ W.heap.size := h.b.size
theorem BkS.step (h : BkS w W base p q br B A1 c1 A2 c2 r) (hb : Below base W W') (hk : KeptT [171] W W') (hr : Rd W' base br r') : BkS w W' base p q br B A1 c1 A2 c2 r' :=
 ⟨hk _ _ _ _ h.rb (by decide), hk _ _ _ _ h.bx (by decide), own_keptT h.d hk (by decide), own_keptT h.k hk (by decide), hr, h.b.trans hb, h.kt.trans hk, h.lo, h.ba⟩
theorem BkS.later (h : BkS w W base p q br B A1 c1 A2 c2 r) (hb : Below W.heap.size W W') : BkS w W' base p q br B A1 c1 A2 c2 r :=
 h.step (hb.mono (Nat.le_trans h.ba h.sz)) (KeptT.below hb) (h.rd.below hb)
theorem BkS.set (h : BkS w W base p q br B A1 c1 A2 c2 r) (j : Nat) (u : Value) {B' : Book} {A1' : Option Addr} {c1' : Nat} {A2' : Option Addr} {c2' : Nat} (he : (bookCells B A1 c1 A2 c2).set j u = bookCells B' A1' c1' A2' c2')
  (hd : OwnD W w.heap.size A1' c1' B'.devs) (hk : OwnK W w.heap.size A2' c2' B'.spent) : BkS w (W.setCell ⟨q, j, none⟩ u) base p q br B' A1' c1' A2' c2' r := by
 have k1 := KeptT.setCell (j := j) h.bx (by decide : (25 : Nat) ∈ [25]) u
 refine ⟨k1 _ _ _ _ h.rb (by decide), ?_, own_keptT hd k1 (by decide), own_keptT hk k1 (by decide), h.rd.kept k1 (by decide) (by decide) (by decide), h.b.setCell (Nat.le_trans h.ba h.lo) _, h.kt.new h.lo _ _, h.lo, h.ba⟩
 rw [heap_setCell_same W q j _ _ _ h.bx, ← he]
 simp
theorem BkS.cells (h : BkS w W base p q br B A1 c1 A2 c2 r) : W.cell? ⟨q, 0, none⟩ = some (.int .i64 B.ver) ∧ W.cell? ⟨q, 1, none⟩ = some (.int .i64 B.clock) ∧ W.cell? ⟨q, 2, none⟩ = some (.slice A1 B.devs.length c1) ∧ W.cell? ⟨q, 3, none⟩ = some (.slice A2 B.spent.length c2) ∧ W.cell? ⟨q, 4, none⟩ = some (.string (str B.acl)) := by
 have hq := h.bx
 refine ⟨?_, ?_, ?_, ?_, ?_⟩ <;> (rw [cell_of_heap hq]; rfl)
end
end Go.Proofs.YtmgbaefgcdglpaaGreatDoor.Dir
end
