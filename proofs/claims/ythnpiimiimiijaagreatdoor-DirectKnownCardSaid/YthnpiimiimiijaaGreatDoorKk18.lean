/- The document's Parse, as it was walked, is the plain one. The document's directory in plain words: what find, put and spend come to at books that may be; and its Parse. The document's directory: next. The document's directory: next, at ops that change devices. The document's directory: next, at ops that rotate and revoke. The document's directory: next, at ops that rotate and revoke. The document' -/
import Derived.Test.YthnpiimiimiijaaGreatDoorKk15
import Derived.Test.YthnpiimiimiijaaGreatDoorKk17
section
namespace Go.Proofs.YthnpiimiimiijaaGreatDoor.PA
open Go.RowKit Go.Proofs.YthnpiimiimiijaaGreatDoor.Acl Go.Proofs.YthnpiimiimiijaaGreatDoorW.PrintWords Go.Proofs.YthnpiimiimiijaaGreatDoorW.PrintLast Go.Proofs.YthnpiimiimiijaaGreatDoorW.PrintMore
end Go.Proofs.YthnpiimiimiijaaGreatDoor.PA
end
section
namespace Go.Proofs.YthnpiimiimiijaaGreatDoor.Dir
open Go Go.RowKit Go.Proofs Go.Proofs.YthnpiimiimiijaaGreatDoorW.PrintWords Go.Proofs.YthnpiimiimiijaaGreatDoorW.PrintLast Go.Proofs.YthnpiimiimiijaaGreatDoorW.PrintMore
set_option linter.unusedVariables false
set_option linter.unusedSimpArgs false
end Go.Proofs.YthnpiimiimiijaaGreatDoor.Dir
end
section
namespace Go.Proofs.YthnpiimiimiijaaGreatDoor.Dir
open Go Go.RowKit Go.Proofs Go.Proofs.YthnpiimiimiijaaGreatDoorW.PrintWords Go.Proofs.YthnpiimiimiijaaGreatDoorW.PrintLast Go.Proofs.YthnpiimiimiijaaGreatDoorW.PrintMore
set_option linter.unusedVariables false
set_option linter.unusedSimpArgs false
theorem SrcAt.setRow {w : World} {A : Option Addr} {n size : Nat} {xs : List Value} (h : SrcAt w A n size xs) {g : Nat} (hg : ∀ a, A = some a → a.block ≠ g) (cs : Array Value) : SrcAt (w.setRow g cs) A n size xs :=
 ⟨h.1, h.2.1, fun a ha j u hj => by
  rw [cell_setRow_other w g cs _ (by have e : (a.add j).block = a.block := (by unfold Addr.add; split <;> rfl); rw [e]; exact hg a ha)]
  exact h.2.2 a ha j u hj⟩
theorem room_at {W0 W : World} {r : Nat} {o : Obj} (h : W0.heap[r]? = some o) (hb : Below W0.heap.size W0 W) : W.heap[r]? = some o := (hb.block _ (Array.getElem?_eq_some_iff.1 h).1).trans h
end Go.Proofs.YthnpiimiimiijaaGreatDoor.Dir
end
section
namespace Go.Proofs.YthnpiimiimiijaaGreatDoor.Dir
open Go Go.RowKit Go.Proofs Go.Proofs.YthnpiimiimiijaaGreatDoorW.PrintWords Go.Proofs.YthnpiimiimiijaaGreatDoorW.PrintLast Go.Proofs.YthnpiimiimiijaaGreatDoorW.PrintMore
set_option linter.unusedVariables false
set_option linter.unusedSimpArgs false
end Go.Proofs.YthnpiimiimiijaaGreatDoor.Dir
end
section
namespace Go.Proofs.YthnpiimiimiijaaGreatDoor.Dir
open Go Go.RowKit Go.Proofs Go.Proofs.YthnpiimiimiijaaGreatDoorW.PrintWords Go.Proofs.YthnpiimiimiijaaGreatDoorW.PrintLast Go.Proofs.YthnpiimiimiijaaGreatDoorW.PrintMore
set_option linter.unusedVariables false
set_option linter.unusedSimpArgs false
end Go.Proofs.YthnpiimiimiijaaGreatDoor.Dir
end
section
namespace Go.Proofs.YthnpiimiimiijaaGreatDoor.Dir
open Go Go.RowKit Go.Proofs Go.Proofs.YthnpiimiimiijaaGreatDoorW.PrintWords Go.Proofs.YthnpiimiimiijaaGreatDoorW.PrintLast Go.Proofs.YthnpiimiimiijaaGreatDoorW.PrintMore
set_option linter.unusedVariables false
set_option linter.unusedSimpArgs false
end Go.Proofs.YthnpiimiimiijaaGreatDoor.Dir
end
section
namespace Go.Proofs.YthnpiimiimiijaaGreatDoorW.PrintLast
section
variable {P : Program} {md : Region.Mode} {ops : Array Oper} {Q : Exit → Act → World → Prop} {S : World → Prop} {ds : List Nat}
theorem two_ {i j : Nat} {Ni Nj : Option Tmp} {oi oj : Oper} {fuel : Nat} {l : Array Bool} {a : Act} {w : World} (li lj : Array Bool) (hi : ops[i]? = some oi) (hj : ops[j]? = some oj) (hNi : oi.dst = Ni) (hNj : oj.dst = Nj)
  (hc : (Region.ready md ops l == [i, j] && l.setIfInBounds i true == li && l.setIfInBounds j true == lj) = true) (hdi : i ∉ ds) (hdj : j ∉ ds)
  (h1 : ∀ K : Act → World → Prop, Shut (∀ a' w', S w' → (S w' → wpAnyLast P md ops Q S ds fuel li a' w') → K a' w') → if Region.wanted oi (yielded ops a.tmps) = true then Oper.wp P oi a w K Q else K (a.put Ni undef) w)
  (h2 : ∀ K : Act → World → Prop, Shut (∀ a' w', S w' → (S w' → wpAnyLast P md ops Q S ds fuel lj a' w') → K a' w') → if Region.wanted oj (yielded ops a.tmps) = true then Oper.wp P oj a w K Q else K (a.put Nj undef) w) :
  wpAnyLast P md ops Q S ds (fuel + 1) l a w := by
 subst hNi
 subst hNj
 simp only [Bool.and_eq_true, beq_iff_eq] at hc
 obtain ⟨⟨h3, h4⟩, h5⟩ := hc
 subst h4
 subst h5
 exact wpAnyLast_ready h3 (by simp) (AllReadyL.cons hi hdi (fun K hK => h1 K hK) (AllReadyL.cons hj hdj (fun K hK => h2 K hK) AllReadyL.nil))
def putAll : Act → List (Tmp × Value) → Act
 | a, [] => a
 | a, (n, v) :: r => putAll (a.put (some n) v) r
theorem join_ {σ : Type} {fuel : Nat} {l : Array Bool} {a : Act} {w : World} (fuel' : Nat) (l' : Array Bool) (ns : σ → List (Tmp × Value)) (F : σ → World → Prop)
  (hcont : ∀ s w', F s w' → wpAnyLast P md ops Q S ds fuel' l' (putAll a (ns s)) w')
  (h : (∀ s w', F s w' → wpAnyLast P md ops Q S ds fuel' l' (putAll a (ns s)) w') → wpAnyLast P md ops Q S ds fuel l a w) : wpAnyLast P md ops Q S ds fuel l a w := h hcont
end
end Go.Proofs.YthnpiimiimiijaaGreatDoorW.PrintLast
namespace Go.Proofs.YthnpiimiimiijaaGreatDoor.Dir
open Go Go.RowKit Go.Proofs Go.Proofs.YthnpiimiimiijaaGreatDoorW.PrintWords Go.Proofs.YthnpiimiimiijaaGreatDoorW.PrintLast Go.Proofs.YthnpiimiimiijaaGreatDoorW.PrintMore
set_option linter.unusedVariables false
set_option linter.unusedSimpArgs false
structure RDirIs (W : World) (r : Nat) (B : Book) (A1 : Option Addr) (c1 : Nat) (A2 : Option Addr) (c2 : Nat) : Prop where
 box : W.heap[r]? = some (.cells (bookCells B A1 c1 A2 c2).toArray 63 (0, 0))
 src : SrcB W B A1 A2
 t1 : TyA W A1 46
 t2 : TyA W A2 34
def RDir (W : World) (r : Nat) (B : Book) : Prop := ∃ A1 c1 A2 c2, RDirIs W r B A1 c1 A2 c2
section
variable {W W' : World} {r : Nat} {B : Book} {A1 : Option Addr} {c1 : Nat} {A2 : Option Addr} {c2 : Nat}
theorem RDirIs.below (h : RDirIs W r B A1 c1 A2 c2) (hb : Below W.heap.size W W') : RDirIs W' r B A1 c1 A2 c2 := ⟨room_at h.box hb, h.src.later hb, h.t1.below hb, h.t2.below hb⟩
theorem RDir.below (h : RDir W r B) (hb : Below W.heap.size W W') : RDir W' r B := by
 obtain ⟨A1, c1, A2, c2, h⟩ := h
 exact ⟨A1, c1, A2, c2, h.below hb⟩
theorem SrcAt.other {A : Option Addr} {n size : Nat} {xs : List Value} (h : SrcAt W A n size xs) {g : Nat} (hg : W.grownBy W' (some g)) (hne : ∀ a, A = some a → a.block ≠ g) : SrcAt W' A n size xs :=
 ⟨h.1, h.2.1, fun a ha j u hj => by
  have hc := h.2.2 a ha j u hj
  have hl := World.block_lt_of_cell? W _ hc
  have e : (a.add j).block = a.block := by unfold Addr.add; split <;> rfl
  have hb := hg.block (a.add j).block hl (fun h2 => hne a ha (by rw [e] at h2; exact Option.some.inj h2))
  unfold World.cell? at hc ⊢
  rw [hb]; exact hc⟩
theorem TyA.ne {A : Option Addr} {T T' : TypeId} (h : TyA W A T) {g : Nat} {cs : Array Value} {fr : Nat × Nat} (hg : W.heap[g]? = some (.cells cs T' fr)) (hne : T ≠ T') : ∀ a, A = some a → a.block ≠ g := fun a ha e => by
 obtain ⟨cs', fr', hq⟩ := h a ha
 rw [e, hg] at hq
 cases hq
 exact hne rfl
theorem TyA.other {A : Option Addr} {T : TypeId} (h : TyA W A T) {g : Nat} (hg : W.grownBy W' (some g)) (hne : ∀ a, A = some a → a.block ≠ g) : TyA W' A T := fun a ha => by
 obtain ⟨cs', fr', hq⟩ := h a ha
 exact ⟨cs', fr', (hg.block _ (Array.getElem?_eq_some_iff.1 hq).1 (fun e => hne a ha (Option.some.inj e))).trans hq⟩
theorem RDirIs.other (h : RDirIs W r B A1 c1 A2 c2) {g : Nat} {cs : Array Value} {T : TypeId} {fr : Nat × Nat} (hq : W.heap[g]? = some (.cells cs T fr)) (h1 : T ≠ 46) (h2 : T ≠ 34) (h3 : r ≠ g) (hg : W.grownBy W' (some g)) : RDirIs W' r B A1 c1 A2 c2 := by
 have n1 := h.t1.ne hq (fun e => h1 e.symm)
 have n2 := h.t2.ne hq (fun e => h2 e.symm)
 exact ⟨(hg.block _ (Array.getElem?_eq_some_iff.1 h.box).1 (fun e => h3 (Option.some.inj e))).trans h.box, ⟨h.src.devs.other hg n1, h.src.spent.other hg n2, h.src.few, h.src.len⟩, h.t1.other hg n1, h.t2.other hg n2⟩
theorem RDir.other (h : RDir W r B) {g : Nat} {cs : Array Value} {T : TypeId} {fr : Nat × Nat} (hq : W.heap[g]? = some (.cells cs T fr)) (h1 : T ≠ 46) (h2 : T ≠ 34) (h3 : r ≠ g) (hg : W.grownBy W' (some g)) : RDir W' r B := by
 obtain ⟨A1, c1, A2, c2, h⟩ := h
 exact ⟨A1, c1, A2, c2, h.other hq h1 h2 h3 hg⟩
end
theorem NewA.ty {n : Nat} {W W' : World} {T : TypeId} {A A' : Option Addr} (h : NewA n W' T A A') (h0 : TyA W A T) (hb : Below W.heap.size W W') : TyA W' A' T := by
 rcases h with e | h
 ·rw [e]; exact h0.below hb
 ·exact h.ty
end Go.Proofs.YthnpiimiimiijaaGreatDoor.Dir
end
section
namespace Go.Proofs.YthnpiimiimiijaaGreatDoor.Dir
open Go Go.RowKit Go.Proofs Go.Proofs.YthnpiimiimiijaaGreatDoorW.PrintWords Go.Proofs.YthnpiimiimiijaaGreatDoorW.PrintLast Go.Proofs.YthnpiimiimiijaaGreatDoorW.PrintMore
set_option linter.unusedVariables false
set_option linter.unusedSimpArgs false
end Go.Proofs.YthnpiimiimiijaaGreatDoor.Dir
end
section
namespace Go.Proofs.YthnpiimiimiijaaGreatDoor.Dir
open Go Go.RowKit Go.Proofs Go.Proofs.YthnpiimiimiijaaGreatDoorW.PrintWords Go.Proofs.YthnpiimiimiijaaGreatDoorW.PrintLast Go.Proofs.YthnpiimiimiijaaGreatDoorW.PrintMore
set_option linter.unusedVariables false
set_option linter.unusedSimpArgs false
def MayB (B : Book) : Prop := WF B ∧ rulesOf B.acl = 0
theorem may_ok (B : Book) : OkB B ↔ MayB B := ⟨fun h => ⟨wf_of_ok h, h.acl⟩, fun h => ok_of h.1 h.2⟩
def RCheckEnd (B : Book) (e : Ending) : Prop := (e = .returned (.int .i64 0) ∧ MayB B) ∨ (e = .returned (.int .i64 2) ∧ ¬ MayB B)
end Go.Proofs.YthnpiimiimiijaaGreatDoor.Dir
end
section
namespace Go.Proofs.YthnpiimiimiijaaGreatDoor.Dir
open Go Go.RowKit Go.Proofs Go.Proofs.YthnpiimiimiijaaGreatDoorW.PrintWords Go.Proofs.YthnpiimiimiijaaGreatDoorW.PrintLast Go.Proofs.YthnpiimiimiijaaGreatDoorW.PrintMore
set_option linter.unusedVariables false
set_option linter.unusedSimpArgs false
def DirHi (w : World) (base p : Nat) (B : Book) : Prop := ∃ A1 c1 A2 c2, w.heap[p]? = some (.cells (.bool true :: bookCells B A1 c1 A2 c2).toArray 83 (0, 0)) ∧ Lists w base B A1 c1 A2 c2
theorem DirHi.at_ {w : World} {base p : Nat} {B : Book} (h : DirHi w base p B) : DirAt w p B := by
 obtain ⟨A1, c1, A2, c2, h1, h2⟩ := h
 refine ⟨A1, c1, A2, c2, h1, h2.lower (Nat.zero_le _), fun k hk e => ?_, fun k hk e => ?_⟩
 ·exact own_ne h2.1 h1 (by decide) (by rw [hk, e])
 ·exact own_ne h2.2.1 h1 (by decide) (by rw [hk, e])
structure Kept2 (w w' : World) (b1 b2 : Option Nat) : Prop where
 os : w'.os = w.os
 tape : w'.tape = w.tape
 output : w'.output = w.output
 size : w.heap.size ≤ w'.heap.size
 block : ∀ k, k < w.heap.size → some k ≠ b1 → some k ≠ b2 → w'.heap[k]? = w.heap[k]?
theorem Kept2.of_below {w w' : World} {b1 b2 : Option Nat} (h : Below w.heap.size w w') : Kept2 w w' b1 b2 := ⟨h.os, h.tape, h.output, h.size, fun k hk _ _ => h.block k hk⟩
theorem Kept2.step {w w1 w2 : World} {b1 b2 : Option Nat} (h : Kept2 w w1 b1 b2) (k : Kept2 w1 w2 b1 b2) : Kept2 w w2 b1 b2 :=
 ⟨k.os.trans h.os, k.tape.trans h.tape, k.output.trans h.output, Nat.le_trans h.size k.size, fun j hj h1 h2 => (k.block j (Nat.lt_of_lt_of_le hj h.size) h1 h2).trans (h.block j hj h1 h2)⟩
theorem Kept2.below {w w' : World} {b1 b2 : Option Nat} {base : Nat} (h : Kept2 w w' b1 b2) (hs : base ≤ w.heap.size) (h1 : ∀ k, b1 = some k → base ≤ k) (h2 : ∀ k, b2 = some k → base ≤ k) : Below base w w' :=
 ⟨h.os, h.tape, h.output, h.size, fun k hk => h.block k (by omega) (fun e => by have := h1 k e.symm; omega) (fun e => by have := h2 k e.symm; omega)⟩
theorem Kept2.setRow {w w1 : World} {b1 b2 : Option Nat} (h : Kept2 w w1 b1 b2) {g : Nat} (hg : b1 = some g ∨ b2 = some g ∨ w.heap.size ≤ g) (cs : Array Value) : Kept2 w (w1.setRow g cs) b1 b2 :=
 ⟨h.os, h.tape, h.output, by rw [setRow_size]; exact h.size, fun k hk h1 h2 => (setRow_other w1 g k cs (fun e => by
  subst e
  rcases hg with e | e | e
  ·exact h1 e.symm
  ·exact h2 e.symm
  ·omega)).trans (h.block k hk h1 h2)⟩
def RowN (W : World) (b : Option Nat) (T : TypeId) (k : Nat) : Prop := ∀ g, b = some g → ∃ cur : List Value, W.heap[g]? = some (.cells cur.toArray T (0, 0)) ∧ k ≤ cur.length
theorem RowN.below {W W' : World} {b : Option Nat} {T : TypeId} {k : Nat} (h : RowN W b T k) (hb : Below W.heap.size W W') : RowN W' b T k := fun g hg => by
 obtain ⟨cur, h1, h2⟩ := h g hg
 exact ⟨cur, room_at h1 hb, h2⟩
theorem RowN.setRow {W : World} {b : Option Nat} {T : TypeId} {k : Nat} (h : RowN W b T k) (g : Nat) (cs : List Value) (hc : ∀ cur : List Value, W.heap[g]? = some (.cells cur.toArray T (0, 0)) → cur.length ≤ cs.length) : RowN (W.setRow g cs.toArray) b T k := fun g' hg => by
 obtain ⟨cur, h1, h2⟩ := h g' hg
 by_cases e : g' = g
 ·subst e
  exact ⟨cs, setRow_heap _ _ _ _ _ _ h1, Nat.le_trans h2 (hc cur h1)⟩
 ·exact ⟨cur, by rw [setRow_other _ _ _ _ e]; exact h1, h2⟩
end Go.Proofs.YthnpiimiimiijaaGreatDoor.Dir
end
section
namespace Go.Proofs.YthnpiimiimiijaaGreatDoor.Dir
open Go Go.RowKit Go.Proofs Go.Proofs.YthnpiimiimiijaaGreatDoorW.PrintWords Go.Proofs.YthnpiimiimiijaaGreatDoorW.PrintLast Go.Proofs.YthnpiimiimiijaaGreatDoorW.PrintMore
set_option linter.unusedVariables false
set_option linter.unusedSimpArgs false
theorem own_other {w w' : World} {base : Nat} {e : TypeId} {size n : Nat} {v : Value} {xs : List Value} (h : w.ownsRow base e size v n xs) (hb : ∀ k, v.ownBlock = some k → w'.heap[k]? = w.heap[k]?) : w'.ownsRow base e size v n xs := by
 obtain ⟨h1, h2⟩ := h
 refine ⟨h1, ?_⟩
 rcases h2 with h2 | ⟨g, cap, cur, hv, hg, hh, r⟩
 ·exact Or.inl h2
 ·exact Or.inr ⟨g, cap, cur, hv, hg, by rw [hb g (by rw [hv]; rfl)]; exact hh, r⟩
end Go.Proofs.YthnpiimiimiijaaGreatDoor.Dir
end
section
namespace Go.Proofs.YthnpiimiimiijaaGreatDoor.Dir
open Go Go.RowKit Go.Proofs Go.Proofs.YthnpiimiimiijaaGreatDoorW.PrintWords Go.Proofs.YthnpiimiimiijaaGreatDoorW.PrintLast Go.Proofs.YthnpiimiimiijaaGreatDoorW.PrintMore
set_option linter.unusedVariables false
set_option linter.unusedSimpArgs false
structure Duo (w W : World) (pd rf po : Nat) (B O : Book) : Prop where
 d : DirSt w W pd B
 f : RDir W rf B
 o : DirSt w W po O
 ne : po ≠ pd
 low : w.heap.size ≤ rf
theorem Duo.later {w W W' : World} {pd rf po : Nat} {B O : Book} (h : Duo w W pd rf po B O) (hb : Below W.heap.size W W') : Duo w W' pd rf po B O := ⟨h.d.later hb, h.f.below hb, h.o.later hb, h.ne, h.low⟩
theorem RDir.blk {W : World} {r : Nat} {B : Book} (h : RDir W r B) : ∃ cs fr, W.heap[r]? = some (.cells cs 63 fr) := by
 obtain ⟨_, _, _, _, h⟩ := h
 exact ⟨_, _, h.box⟩
end Go.Proofs.YthnpiimiimiijaaGreatDoor.Dir
end
section
namespace Go.Proofs.YthnpiimiimiijaaGreatDoor.Dir
open Go Go.RowKit Go.Proofs Go.Proofs.YthnpiimiimiijaaGreatDoorW.PrintWords Go.Proofs.YthnpiimiimiijaaGreatDoorW.PrintLast Go.Proofs.YthnpiimiimiijaaGreatDoorW.PrintMore
set_option linter.unusedVariables false
set_option linter.unusedSimpArgs false
def KeptT (ts : List TypeId) (w w' : World) : Prop := ∀ (g : Nat) (cs : Array Value) (T : TypeId) (fr : Nat × Nat), w.heap[g]? = some (Obj.cells cs T fr) → T ∉ ts → w'.heap[g]? = some (Obj.cells cs T fr)
theorem KeptT.refl (ts : List TypeId) (w : World) : KeptT ts w w := fun _ _ _ _ h _ => h
theorem KeptT.trans {ts : List TypeId} {a b c : World} (h : KeptT ts a b) (k : KeptT ts b c) : KeptT ts a c := fun g cs T fr e ht => k g cs T fr (h g cs T fr e ht) ht
theorem KeptT.below {ts : List TypeId} {w w' : World} (hb : Below w.heap.size w w') : KeptT ts w w' := fun g cs T fr e _ => (hb.block g (Array.getElem?_eq_some_iff.1 e).1).trans e
theorem KeptT.grown {ts : List TypeId} {w w' : World} {base n size : Nat} {e : TypeId} {v : Value} {xs : List Value} (ho : w.ownsRow base e size v n xs) (hg : w.grownBy w' v.ownBlock) (he : e ∈ ts) : KeptT ts w w' := fun g cs T fr h ht => by
 refine (hg.block g (Array.getElem?_eq_some_iff.1 h).1 (fun hv => ?_)).trans h
 rcases ho.2 with ⟨rfl, _⟩ | ⟨g', cap, cur, rfl, _, hg', _⟩
 ·cases hv
 ·have : g' = g := by simpa [Value.ownBlock] using hv.symm
  subst this
  rw [hg'] at h
  cases h
  exact ht he
theorem KeptT.setCell {ts : List TypeId} {w : World} {b j : Nat} {cs : Array Value} {T : TypeId} {fr : Nat × Nat} (hb : w.heap[b]? = some (.cells cs T fr)) (hT : T ∈ ts) (u : Value) : KeptT ts w (w.setCell ⟨b, j, none⟩ u) := fun g cs' T' fr' h ht => by
 rw [Below.heap_setCell _ _ _ _ (fun e => ?_)]
 ·exact h
 ·have e' : g = b := by first | exact e | exact e.symm
  subst e'
  rw [hb] at h
  cases h
  exact ht hT
def octN (v : Nat) (i : Nat) : UInt8 := UInt8.ofNat (v / 256 ^ i)
def beN (v : Nat) : Nat → List UInt8
 | 0 => []
 | s + 1 => octN v s :: beN v s
theorem beN_len (v : Nat) : ∀ s, (beN v s).length = s
 | 0 => rfl
 | s + 1 => by simp [beN, beN_len v s]
theorem beN_drop (v : Nat) : ∀ k s, (beN v (k + s)).drop k = beN v s
 | 0, s => by simp
 | k + 1, s => by rw [show k + 1 + s = (k + s) + 1 by omega]; show (beN v (k + s)).drop k = _; exact beN_drop v k s
theorem beN_zero (v : Nat) : ∀ k s, v < 256 ^ s → ∀ i, i < k → (beN v (k + s))[i]? = some 0
 | 0, s, _, i, hi => by omega
 | k + 1, s, h, i, hi => by
  rw [show k + 1 + s = (k + s) + 1 by omega]
  cases i with
  | zero =>
   show some (octN v (k + s)) = some 0
   unfold octN
   rw [Nat.div_eq_of_lt (Nat.lt_of_lt_of_le h (Nat.pow_le_pow_right (by decide) (by omega)))]
   rfl
  | succ i => exact beN_zero v k s h i (by omega)
def rowV (v : Nat) (kk : Nat) : List Value := (List.replicate (8 - kk) (.int .u8 0)) ++ (beN v kk).map byteV
theorem byte_oct (v kk : Nat) : Value.int .u8 ((v : Int) / 2 ^ (8 * kk) % 256) = byteV (octN v kk) := by
 have : ((v : Int) / 2 ^ (8 * kk) % 256) = (((octN v kk).toNat : Nat) : Int) := by
  unfold octN
  rw [UInt8.toNat_ofNat', show (2 : Int) ^ (8 * kk) = ((2 ^ (8 * kk) : Nat) : Int) from (Int.natCast_pow 2 _).symm, show (256 : Nat) ^ kk = 2 ^ (8 * kk) by rw [Nat.pow_mul]]
  rfl
 rw [this]
 rfl
theorem rowV_get (v : Nat) {kk : Nat} (h : kk < 8) : (rowV v kk)[7 - kk]? = some (.int .u8 0) := by
 unfold rowV
 rw [List.getElem?_append_left (by simp; omega), List.getElem?_replicate]
 simp
 try omega
theorem rowV_set (v : Nat) {kk : Nat} (h : kk < 8) : (rowV v kk).toArray.setIfInBounds (7 - kk) (byteV (octN v kk)) = (rowV v (kk + 1)).toArray := by
 unfold rowV
 rw [List.setIfInBounds_toArray, List.set_append_left _ _ (by simp <;> omega), show beN v (kk + 1) = octN v kk :: beN v kk from rfl]
 congr 1
 have e : List.replicate (8 - kk) (Value.int .u8 0) = List.replicate (8 - (kk + 1)) (Value.int .u8 0) ++ [Value.int .u8 0] := by
  rw [← List.replicate_succ', show 8 - kk = 8 - (kk + 1) + 1 by omega]
 rw [e, List.set_append_right _ _ (by simp <;> omega), List.length_replicate, show 7 - kk - (8 - (kk + 1)) = 0 by omega]
 simp
theorem store_full (W : World) (T : TypeId) (n r : Nat) (hT : ∀ w, (Go.sizeOf T).run Tryz.prog w = .ok n w) (cs0 xs : List Value) (h : W.heap[r]? = some (.cells cs0.toArray T (0, 0))) (h5 : cs0.length = n) (hx : xs.length = n) (h1 : ∀ u ∈ xs, u.oneCell' = true) :
  (Instr.storeAt T (.pointer (some ⟨r, 0, none⟩)) (.agg xs.toArray)).run Tryz.prog W = .ok () (W.setRow r xs.toArray) := by
 have := run_storeAtK Tryz.prog W T n hT r 0 xs hx h1 cs0 T h (by omega)
 rw [this]
 have e : splice cs0 0 xs = xs := by
  unfold splice
  rw [List.take_zero, List.nil_append, List.drop_eq_nil_of_le (by omega), List.append_nil]
 rw [e]
set_option maxHeartbeats 4000000 in
set_option maxRecDepth 100000 in
theorem of97 (v : Nat) (hv : v < 9223372036854775808) (w : World) : Calls Tryz.prog 97 #[.int .i64 v] w fun e w' => e = .returned (.agg ((beN v 8).map byteV).toArray) ∧ Below w.heap.size w w' := by
 obtain ⟨W0, hW0⟩ : ∃ W0, W0 = w.alloc (.cells #[.int .u8 0, .int .u8 0, .int .u8 0, .int .u8 0, .int .u8 0, .int .u8 0, .int .u8 0, .int .u8 0] 148) := ⟨_, rfl⟩
 have hb0 : Below w.heap.size w W0 := by rw [hW0]; exact (Below.refl _ w).alloc (Nat.le_refl _) _
 obtain ⟨p, hp⟩ : ∃ p, p = w.heap.size := ⟨_, rfl⟩
 have q1 : W0.heap[p]? = some (.cells (rowV v 0).toArray 148 (0, 0)) := by rw [hW0, hp]; exact heap_alloc_new w _
 rw [← hp] at hb0 ⊢
 obtain ⟨CB, hCB⟩ : ∃ CB, CB = (beN v 8).map byteV := ⟨_, rfl⟩
 have HSZ := Aside0.mk (show CB.length = 8 by rw [hCB]; simp [beN_len])
 have HC1 := Aside0.mk (show ∀ u ∈ CB, u.oneCell' = true by rw [hCB]; intro u hu; obtain ⟨b, -, rfl⟩ := List.mem_map.1 hu; rfl)
 have HCB := Aside0.mk hCB
 rw [← hCB]
 clear hCB
 go_enter Tryz.func97, Tryz.ntmps97
 go_upto_region 2 with fail
 rw [← hW0]
 try rw [← hp]
 have HEQ := Aside0.mk (And.intro hW0 hp)
 clear hW0 hp
 go_loopg [3, 4] 8 (fun kx _ s4 wr => ∃ kk : Nat, s4 = .int .i64 kk ∧ kk + kx = 8 ∧ Aside0 (Below p w wr ∧ wr.heap[p]? = some (.cells (rowV v kk).toArray 148 (0, 0))))
 case atStart => exact ⟨0, rfl, by omega, ⟨hb0, q1⟩⟩
 case round =>
  obtain ⟨kk, rfl, hkk, HT⟩ := hrel
  by_cases hlt : kk < 8
  ·have hltz : (kk : Int) < 8 := by omega
   have c1 : wr.cell? ⟨p, 7 - kk, none⟩ = some (.int .u8 0) := by rw [cell_of_heap HT.out.2]; exact rowV_get v hlt
   have fz : wr.frozen? ⟨p, 7 - kk, none⟩ = false := frozen_of_heap HT.out.2
   obtain ⟨ko, rfl⟩ : ∃ ko, gk = ko + 1 := ⟨gk - 1, by omega⟩
   go_wp2_with fail
   go_roundg ko
   case measure => omega
   case rel => exact ⟨kk + 1, by go_num, by omega, ⟨HT.out.1.setCell (Nat.le_refl _) _, by rw [heap_setCell_same wr p (7 - kk) _ _ _ HT.out.2, byte_oct, rowV_set v hlt]⟩⟩
  ·have hltz : ¬ (kk : Int) < 8 := by omega
   have : kk = 8 := by omega
   subst this
   have HF := HT.out.2
   rw [show rowV v 8 = (beN v 8).map byteV from rfl, ← HCB.out] at HF
   have LB := Aside0.mk (run_loadAtK Tryz.prog wr 148 8 Tryz.isAgg148 Tryz.sizeOf148 p 0 CB HSZ.out (cells_of_heap HF))
   have ST := Aside0.mk (store_full wr 148 8 p Tryz.sizeOf148 _ CB HF HSZ.out HSZ.out HC1.out)
   have HFF := Aside0.mk (setRow_heap wr p _ CB.toArray 148 (0, 0) HF)
   have HBB := Aside0.mk (below_setRow HT.out.1 (Nat.le_refl p) CB.toArray)
   clear HF
   go_wp2_with (first | ((with_reducible refine at_load 148 (.tmp 2) ?_); refine wpList_loadK rfl 148 (.tmp 2) rfl _ rfl _ LB.out ?_) | ((with_reducible refine at_store 148 (.tmp 2) (.tmp 16) ?_); refine wpList_storeK rfl 148 (.tmp 2) (.tmp 16) rfl rfl _ _ rfl rfl _ ST.out ?_))
   try simp only [Exit.inBlock, Exit.then]
   refine bodyPost_ret (results_cell_row rfl _ _ p 148 _ (0, 0) _ rfl HFF.out Tryz.underlying148 rfl (by rw [List.size_toArray, HSZ.out]; kernel_rfl)) rfl ?_
   exact ⟨rfl, HBB.out⟩
theorem put98 (x : Int) (w : World) : Calls Tryz.prog 98 #[.int .u8 x] w fun e w' => e = .returned (.bool (!decide (x = 0))) ∧ w' = w := by
 go_enter Tryz.func98, Tryz.ntmps98
 go_wp2
 all_goals (go_ret; refine ⟨?_, rfl⟩; first | rfl | (simp; done) | (simp_all; done))
set_option maxHeartbeats 2000000 in
set_option maxRecDepth 100000 in
theorem index138 (n c b o : Nat) (w : World) (h : SrcAt w (some ⟨b, o, none⟩) n 1 (List.replicate n (.int .u8 0))) (hl : n ≤ 8) :
  Calls Tryz.prog 138 #[.slice (some ⟨b, o, none⟩) n c, .func (.func 98) #[] #[]] w fun e w' => e = .returned (.int .i64 (-1)) ∧ Below w.heap.size w w' := by
 have HW := Aside0.mk h
 clear h
 go_enter Tryz.func138, Tryz.ntmps138
 go_wp2
 go_loopg [5, 8] n (fun gg _ s8 wr => ∃ kk : Nat, kk ≤ n ∧ n - kk ≤ gg ∧ s8 = .int .i64 kk ∧ Aside0 (Below w.heap.size w wr))
 case atStart => exact ⟨0, Nat.zero_le _, by omega, rfl, ⟨Below.refl _ w⟩⟩
 case round =>
  obtain ⟨kk, hkk, hg, rfl, BW⟩ := hrel
  by_cases hlt : kk < n
  ·have hltz : (kk : Int) < (n : Int) := by omega
   have c0 := HW.out.2.2 _ rfl kk (.int .u8 0) (by rw [List.getElem?_replicate]; simp [hlt])
   rw [add_at] at c0
   have c1 : wr.cell? ⟨b, o + kk, none⟩ = some (.int .u8 0) := pw_cell_below BW.out c0
   clear c0
   have hcall := Aside0.mk (put98 0 wr)
   go_wp2_with (go_at_call 98; refine hcall.out.mono ?_; rintro e w' ⟨rfl, rfl⟩)
   go_roundg (n - (kk + 1))
   case measure => omega
   case rel => exact ⟨kk + 1, by omega, by omega, by go_num, BW⟩
  ·have hltz : ¬ (kk : Int) < (n : Int) := by omega
   have : kk = n := by omega
   subst this
   go_wp2
   go_ret
   exact ⟨rfl, BW.out⟩
theorem contains99 (n c b o : Nat) (w : World) (h : SrcAt w (some ⟨b, o, none⟩) n 1 (List.replicate n (.int .u8 0))) (hl : n ≤ 8) :
  Calls Tryz.prog 99 #[.slice (some ⟨b, o, none⟩) n c, .func (.func 98) #[] #[]] w fun e w' => e = .returned (.bool false) ∧ Below w.heap.size w w' := by
 have hcall := Aside0.mk (index138 n c b o w h hl)
 clear h hl
 go_enter Tryz.func99, Tryz.ntmps99
 go_wp2_with (go_at_call 138; refine hcall.out.mono ?_; rintro e w' ⟨rfl, hb⟩)
 go_ret
 exact ⟨rfl, hb⟩
end Go.Proofs.YthnpiimiimiijaaGreatDoor.Dir
end
section
namespace Go.Proofs.YthnpiimiimiijaaGreatDoor.Dir
open Go Go.RowKit Go.Proofs Go.Proofs.YthnpiimiimiijaaGreatDoorW.PrintWords Go.Proofs.YthnpiimiimiijaaGreatDoorW.PrintLast Go.Proofs.YthnpiimiimiijaaGreatDoorW.PrintMore
set_option linter.unusedVariables false
set_option linter.unusedSimpArgs false
def OwnB (w : World) (base : Nat) (A : Option Addr) (c : Nat) (xs : List UInt8) : Prop := w.ownsRow base 5 1 (.slice A xs.length c) xs.length (xs.map byteV)
theorem OwnB.below {w W : World} {base : Nat} {A : Option Addr} {c : Nat} {l : List UInt8} (h : OwnB w base A c l) (hb : Below w.heap.size w W) : OwnB W base A c l := pw_own_below h hb
theorem OwnB.src {w : World} {base : Nat} {A : Option Addr} {c : Nat} {l : List UInt8} (h : OwnB w base A c l) : SrcAt w A l.length 1 (l.map byteV) := by
 obtain ⟨A', c', e, hs, -⟩ := src_owns h
 cases e
 exact hs
theorem bytes_one (l : List UInt8) : ∀ u ∈ l.map byteV, u.oneCell' = true := fun u hu => by
 obtain ⟨b, -, rfl⟩ := List.mem_map.1 hu
 rfl
structure WrAt (W : World) (bw bs : Nat) (A : Option Addr) (n c : Nat) : Prop where
 wr : W.heap[bw]? = some (.cells #[.pointer (some ⟨bs, 0, none⟩)] 146 (0, 0))
 sh : W.heap[bs]? = some (.cells #[.slice A n c, .int .i64 0] 144 (0, 0))
theorem WrAt.later {W W' : World} {bw bs : Nat} {A : Option Addr} {n c : Nat} (h : WrAt W bw bs A n c) (hb : Below W.heap.size W W') : WrAt W' bw bs A n c := ⟨room_at h.wr hb, room_at h.sh hb⟩
theorem WrAt.keep {W W' : World} {bw bs base : Nat} {A : Option Addr} {c : Nat} {xs : List UInt8} (h : WrAt W bw bs A xs.length c) (ho : OwnB W base A c xs) (hg : W.grownBy W' (Value.slice A xs.length c).ownBlock) : WrAt W' bw bs A xs.length c :=
 ⟨(hg.block bw (Array.getElem?_eq_some_iff.1 h.wr).1 (own_ne ho h.wr (by decide))).trans h.wr, (hg.block bs (Array.getElem?_eq_some_iff.1 h.sh).1 (own_ne ho h.sh (by decide))).trans h.sh⟩
theorem WrAt.cells {W : World} {bw bs : Nat} {A : Option Addr} {n c : Nat} (h : WrAt W bw bs A n c) : W.cell? ⟨bw, 0, none⟩ = some (.pointer (some ⟨bs, 0, none⟩)) ∧ W.cell? ⟨bs, 0, none⟩ = some (.slice A n c) ∧ W.frozen? ⟨bs, 0, none⟩ = false := by
 refine ⟨?_, ?_, frozen_of_heap h.sh⟩
 ·rw [cell_of_heap h.wr]; rfl
 ·rw [cell_of_heap h.sh]; rfl
def Wr (w : World) (base bw : Nat) (xs : List UInt8) : Prop := ∃ bs A c, WrAt w bw bs A xs.length c ∧ OwnB w base A c xs ∧ base ≤ bw ∧ base ≤ bs
theorem Wr.below {w W : World} {base bw : Nat} {xs : List UInt8} (h : Wr w base bw xs) (hb : Below w.heap.size w W) : Wr W base bw xs := by
 obtain ⟨bs, A, c, h1, h2, h3, h4⟩ := h
 exact ⟨bs, A, c, h1.later hb, h2.below hb, h3, h4⟩
theorem Wr.size {w : World} {base bw : Nat} {xs : List UInt8} (h : Wr w base bw xs) : base ≤ w.heap.size := by
 obtain ⟨bs, A, c, h1, h2, h3, h4⟩ := h
 exact Nat.le_trans h3 (Nat.le_of_lt (Array.getElem?_eq_some_iff.1 h1.wr).1)
theorem runs_append {P : Program} {w w1 : World} (t : TypeId) (s x : Operand) (o : Oper) (ho : o.op = .call { callee := .builtin .append, args := #[s, x], argTypes := #[t, t] }) (a : Act) (v1 v2 v : Value) (es : a.eval s = v1) (ex : a.eval x = v2)
  (hr : (Builtin.append_ #[t, t] o.type #[v1, v2]).run P w = .ok v w1) : (execOp a.eval o).run P w = .ok (.value v) w1 := by
 unfold execOp
 simp only [ho, resolve, invoke, builtin, Sem.run_bind, Sem.run_pure, Result.andThen_ok, List.map_toArray, List.map_cons, List.map_nil, es, ex, hr]
theorem none96 (bw bs n c : Nat) (A : Option Addr) (w : World) (h : WrAt w bw bs A n c) : Calls Tryz.prog 96 #[.pointer (some ⟨bw, 0, none⟩)] w fun e w' => e = .returned (.bool false) ∧ w' = w := by
 obtain ⟨c1, -, -⟩ := h.cells
 clear h
 go_enter Tryz.func96, Tryz.ntmps96
 go_wp2
 go_ret
 exact ⟨rfl, rfl⟩
def KeptS (T : Nat) (w w' : World) : Prop := ∀ g, T ≤ g → g < w.heap.size → w'.heap[g]? = w.heap[g]?
def WrLt (w : World) (bw T : Nat) : Prop := ∃ bs A n c, WrAt w bw bs A n c ∧ bs < T ∧ ∀ a, A = some a → a.block < T
theorem Wr.lt {T w : World} {base bw : Nat} {xs : List UInt8} (h : Wr T base bw xs) (hb : Below T.heap.size T w) : WrLt w bw T.heap.size := by
 obtain ⟨bs, A, c, h1, h2, h3, h4⟩ := h
 refine ⟨bs, A, _, c, h1.later hb, (Array.getElem?_eq_some_iff.1 h1.sh).1, fun a ha => ?_⟩
 subst ha
 rcases h2.2 with ⟨e, _⟩ | ⟨g, cap, cur, e, _, hg, _⟩
 ·cases e
 ·cases e
  exact (Array.getElem?_eq_some_iff.1 hg).1
theorem kept_tail {w w5 w1 : World} {bw bs : Nat} {A : Option Addr} {n c : Nat} (h1 : WrAt w bw bs A n c) (hb : Below w.heap.size w w5) (hg : w5.grownBy w1 (Value.slice A n c).ownBlock) (u : Value) : ∀ T, WrLt w bw T → KeptS T w (w1.setCell ⟨bs, 0, none⟩ u) := by
 rintro T ⟨bs', A', n', c', h', hbs, hA⟩ g hT hlt
 have e1 : bs' = bs := by
  have := h'.wr.symm.trans h1.wr
  simpa using this
 subst e1
 have e2 : A' = A := by
  have := h'.sh.symm.trans h1.sh
  simp at this
  exact this.1
 subst e2
 have hgb : g ≠ bs' := by omega
 rw [Below.heap_setCell _ _ _ _ (fun e => by first | exact hgb e | exact hgb e.symm)]
 rw [hg.block g (Nat.lt_of_lt_of_le hlt hb.size) (fun e => ?_), hb.block g hlt]
 cases A' with
 | none => cases e
 | some a =>
  have := hA a rfl
  have e' : g = a.block := by simpa [Value.ownBlock] using e
  omega
def WrEnd (w w' : World) (base bw : Nat) (xs : List UInt8) (e : Ending) : Prop := e = .returned (.int .i64 0) ∧ Wr w' base bw xs ∧ Below base w w' ∧ KeptT [5, 144] w w' ∧ ∀ T, WrLt w bw T → KeptS T w w'
theorem own_setCellT {w : World} {base : Nat} {e : TypeId} {size n : Nat} {v : Value} {xs : List Value} (h : w.ownsRow base e size v n xs) {b j : Nat} {cs : Array Value} {T : TypeId} (hb : w.heap[b]? = some (.cells cs T (0, 0))) (hT : e ≠ T) (u : Value) : (w.setCell ⟨b, j, none⟩ u).ownsRow base e size v n xs :=
 ownsRow_setCell_other h (a := ⟨b, j, none⟩) (fun k hk e => by have h1 := own_ne h hb hT; have h2 : k = b := e; exact h1 (by rw [hk, h2])) u
set_option maxHeartbeats 4000000 in
set_option maxRecDepth 100000 in
theorem bytes58 (base bw : Nat) (xs ys : List UInt8) (A2 : Option Addr) (c2 : Nat) (w : World) (h : Wr w base bw xs) (hs : SrcAt w A2 ys.length 1 (ys.map byteV)) (hl : xs.length + ys.length ≤ 140737488355328) :
  Calls Tryz.prog 58 #[.pointer (some ⟨bw, 0, none⟩), .slice A2 ys.length c2] w fun e w' => WrEnd w w' base bw (xs ++ ys) e := by
 have hsz := h.size
 obtain ⟨bs, A, c, h1, h2, h3, h4⟩ := h
 have hcall := Aside0.mk (none96 bw bs _ c A w h1)
 have H1 := Aside0.mk h1
 have H2 := Aside0.mk h2
 have HS := Aside0.mk hs
 have HL := Aside0.mk (And.intro hl (And.intro hsz (And.intro h3 h4)))
 obtain ⟨n, hn⟩ : ∃ n, n = xs.length := ⟨_, rfl⟩
 obtain ⟨m, hm⟩ : ∃ m, m = ys.length := ⟨_, rfl⟩
 have HN := Aside0.mk (And.intro hn hm)
 rw [← hm]
 rw [← hn] at H1
 clear h1 h2 h3 h4 hs hl hsz hn hm
 go_enter Tryz.func58, Tryz.ntmps58
 go_wp2_with (go_at_call 96; refine hcall.out.mono ?_; rintro e w' ⟨rfl, rfl⟩)
 refine start_ (n := 16) (S := fun W => WrAt W bw bs A n c) (ds := [15]) #[false, false, false, false, false, false, false, false, false, false, false, false, false, false, false, false] (by kernel_rfl) rfl rfl (H1.out.later ((Below.refl _ w').drew)) (fun hHeld => ?_)
 obtain ⟨w5, hw5⟩ : ∃ w5, w5 = w'.drew := ⟨_, rfl⟩
 have B5 := Aside0.mk (show Below w'.heap.size w' w5 by rw [hw5]; exact (Below.refl _ w').drew)
 rw [← hw5] at hHeld ⊢
 clear hw5
 refine pure_ (i := 0) (N := (some 7)) (v := ?_) (a' := ?_) #[true, false, false, false, false, false, false, false, false, false, false, false, false, false, false, false] rfl rfl (by kernel_rfl) (fun _ _ _ h => h) (Or.inl ⟨by rfl, ?_⟩) ?_ ?_
 rotate_left
 ·intro w'
  go_simp
  with_reducible rfl
 rotate_left
 ·simp only [Act.put, List.setIfInBounds_toArray, List.set_cons_zero, List.set_cons_succ, i64_w, i32_w]
  rfl
 refine pure_ (i := 1) (N := (some 8)) (v := ?_) (a' := ?_) #[true, true, false, false, false, false, false, false, false, false, false, false, false, false, false, false] rfl rfl (by kernel_rfl) (fun _ _ _ h => h) (Or.inl ⟨by rfl, ?_⟩) ?_ ?_
 rotate_left
 ·intro w'
  go_simp
  with_reducible rfl
 rotate_left
 ·simp only [Act.put, List.setIfInBounds_toArray, List.set_cons_zero, List.set_cons_succ, i64_w, i32_w]
  rfl
 refine pure_ (i := 2) (N := (some 9)) (v := ?_) (a' := ?_) #[true, true, true, false, false, false, false, false, false, false, false, false, false, false, false, false] rfl rfl (by kernel_rfl) (fun _ _ _ h => h) (Or.inl ⟨by rfl, ?_⟩) ?_ ?_
 rotate_left
 ·intro w'
  go_simp
  with_reducible rfl
 rotate_left
 ·simp only [Act.put, List.setIfInBounds_toArray, List.set_cons_zero, List.set_cons_succ, i64_w, i32_w]
  rfl
 refine pure_ (i := 4) (N := (some 11)) (v := ?_) (a' := ?_) #[true, true, true, false, true, false, false, false, false, false, false, false, false, false, false, false] rfl rfl (by kernel_rfl) (fun _ _ _ h => h) (Or.inl ⟨by rfl, ?_⟩) ?_ ?_
 rotate_left
 ·intro w'
  go_simp
  with_reducible rfl
 rotate_left
 ·simp only [Act.put, List.setIfInBounds_toArray, List.set_cons_zero, List.set_cons_succ, i64_w, i32_w]
  rfl
 refine pure_ (i := 5) (N := (some 12)) (v := ?_) (a' := ?_) #[true, true, true, false, true, true, false, false, false, false, false, false, false, false, false, false] rfl rfl (by kernel_rfl) (fun _ _ _ h => h) (Or.inl ⟨by rfl, ?_⟩) ?_ ?_
 rotate_left
 ·intro w'
  go_simp
  with_reducible rfl
 rotate_left
 ·simp only [Act.put, List.setIfInBounds_toArray, List.set_cons_zero, List.set_cons_succ, i64_w, i32_w]
  rfl
 refine pure_ (i := 6) (N := (some 13)) (v := ?_) (a' := ?_) #[true, true, true, false, true, true, true, false, false, false, false, false, false, false, false, false] rfl rfl (by kernel_rfl) (fun _ _ _ h => h) (Or.inl ⟨by rfl, ?_⟩) ?_ ?_
 rotate_left
 ·intro w'
  go_simp
  with_reducible rfl
 rotate_left
 ·simp only [Act.put, List.setIfInBounds_toArray, List.set_cons_zero, List.set_cons_succ, i64_w, i32_w]
  rfl
 refine pure_ (i := 11) (N := (some 18)) (v := ?_) (a' := ?_) #[true, true, true, false, true, true, true, false, false, false, false, true, false, false, false, false] rfl rfl (by kernel_rfl) (fun _ _ _ h => h) (Or.inl ⟨by rfl, ?_⟩) ?_ ?_
 rotate_left
 ·intro w'
  go_simp
  with_reducible rfl
 rotate_left
 ·simp only [Act.put, List.setIfInBounds_toArray, List.set_cons_zero, List.set_cons_succ, i64_w, i32_w]
  rfl
 refine take_ (i := 3) (N := (some 10)) (v := ?_) (a' := ?_) #[true, true, true, true, true, true, true, false, false, false, false, true, false, false, false, false] rfl rfl (by kernel_rfl) (fun _ _ _ h => h) (Or.inl ⟨by rfl, ?_⟩) hHeld ?_ ?_
 rotate_left
 ·rintro w' hs
  obtain ⟨s0, s1, sf⟩ := hs.cells
  go_simp
  with_reducible rfl
 rotate_left
 ·simp only [Act.put, List.setIfInBounds_toArray, List.set_cons_zero, List.set_cons_succ, i64_w, i32_w]
  rfl
 refine take_ (i := 7) (N := (some 14)) (v := ?_) (a' := ?_) #[true, true, true, true, true, true, true, true, false, false, false, true, false, false, false, false] rfl rfl (by kernel_rfl) (fun _ _ _ h => h) (Or.inl ⟨by rfl, ?_⟩) hHeld ?_ ?_
 rotate_left
 ·rintro w' hs
  obtain ⟨s0, s1, sf⟩ := hs.cells
  go_simp
  with_reducible rfl
 rotate_left
 ·simp only [Act.put, List.setIfInBounds_toArray, List.set_cons_zero, List.set_cons_succ, i64_w, i32_w]
  rfl
 refine pure_ (i := 8) (N := (some 15)) (v := ?_) (a' := ?_) #[true, true, true, true, true, true, true, true, true, false, false, true, false, false, false, false] rfl rfl (by kernel_rfl) (fun _ _ _ h => h) (Or.inl ⟨by rfl, ?_⟩) ?_ ?_
 rotate_left
 ·intro w'
  go_simp
  with_reducible rfl
 rotate_left
 ·simp only [Act.put, List.setIfInBounds_toArray, List.set_cons_zero, List.set_cons_succ, i64_w, i32_w]
  rfl
 refine pure_ (i := 9) (N := (some 16)) (v := ?_) (a' := ?_) #[true, true, true, true, true, true, true, true, true, true, false, true, false, false, false, false] rfl rfl (by kernel_rfl) (fun _ _ _ h => h) (Or.inl ⟨by rfl, ?_⟩) ?_ ?_
 rotate_left
 ·intro w'
  go_simp
  with_reducible rfl
 rotate_left
 ·simp only [Act.put, List.setIfInBounds_toArray, List.set_cons_zero, List.set_cons_succ, i64_w, i32_w]
  rfl
 refine take_ (i := 10) (N := (some 17)) (v := ?_) (a' := ?_) #[true, true, true, true, true, true, true, true, true, true, true, true, false, false, false, false] rfl rfl (by kernel_rfl) (fun _ _ _ h => h) (Or.inl ⟨by rfl, ?_⟩) hHeld ?_ ?_
 rotate_left
 ·rintro w' hs
  obtain ⟨s0, s1, sf⟩ := hs.cells
  go_simp
  with_reducible rfl
 rotate_left
 ·simp only [Act.put, List.setIfInBounds_toArray, List.set_cons_zero, List.set_cons_succ, i64_w, i32_w]
  rfl
 have HO5 := Aside0.mk (H2.out.below B5.out)
 obtain ⟨A', c', w1, hr, h2, h3⟩ := run_app appB w5 67 base n c m c2 A A2 (xs.map byteV) (ys.map byteV) (by rw [HN.out.1]; exact HO5.out) (by rw [HN.out.2]; exact SrcAt.grown HS.out B5.out) (bytes_one _) (by rw [HN.out.1, HN.out.2]; have := HL.out.1; omega) (by rw [HN.out.1, HN.out.2]; have := HL.out.1; unfold maxLen; omega) (Nat.le_trans HL.out.2.1 B5.out.size)
 refine one_ (i := 12) (N := (some 19)) #[true, true, true, true, true, true, true, true, true, true, true, true, true, false, false, false] rfl rfl (by kernel_rfl) (by decide) (fun K hK => ?_)
 refine value_ (v := .slice A' (n + m) c') (w1 := w1) (by rfl) rfl ?_ ?_
 ·exact runs_append 67 (.tmp 17) (.tmp 18) _ rfl _ _ _ _ rfl rfl hr
 have hS_ : WrAt w1 bw bs A n c := by rw [HN.out.1] at hHeld h3 ⊢; exact hHeld.keep HO5.out h3
 have HR := Aside0.mk (And.intro h2 h3)
 clear hr h2 h3
 refine hK.out _ _ hS_ (fun hHeld => ?_)
 clear hK K
 refine norm_ (a' := ?_) ?_ ?_
 rotate_left
 ·show Act.put _ (some 19) _ = _
  simp only [Act.put, List.setIfInBounds_toArray, List.set_cons_zero, List.set_cons_succ, i64_w, i32_w]
  rfl
 refine pure_ (i := 13) (N := (some 20)) (v := ?_) (a' := ?_) #[true, true, true, true, true, true, true, true, true, true, true, true, true, true, false, false] rfl rfl (by kernel_rfl) (fun _ _ _ h => h) (Or.inl ⟨by rfl, ?_⟩) ?_ ?_
 rotate_left
 ·intro w'
  go_simp
  with_reducible rfl
 rotate_left
 ·simp only [Act.put, List.setIfInBounds_toArray, List.set_cons_zero, List.set_cons_succ, i64_w, i32_w]
  rfl
 refine pure_ (i := 14) (N := (some 21)) (v := ?_) (a' := ?_) #[true, true, true, true, true, true, true, true, true, true, true, true, true, true, true, false] rfl rfl (by kernel_rfl) (fun _ _ _ h => h) (Or.inl ⟨by rfl, ?_⟩) ?_ ?_
 rotate_left
 ·intro w'
  go_simp
  with_reducible rfl
 rotate_left
 ·simp only [Act.put, List.setIfInBounds_toArray, List.set_cons_zero, List.set_cons_succ, i64_w, i32_w]
  rfl
 refine last_ (i := 15) (N := none) #[true, true, true, true, true, true, true, true, true, true, true, true, true, true, true, true] rfl rfl (by kernel_rfl) (by decide) (fun K hK => ?_)
 refine store_ (w1 := w1.setCell ⟨bs, 0, none⟩ (.slice A' (n + m) c')) (by rfl) rfl ?_ ?_
 ·exact runs_store 67 (.tmp 21) (.tmp 19) _ rfl _ _ _ rfl rfl _ (run_storeAt1 Tryz.prog w1 67 Tryz.sizeOf67 bs 0 _ rfl rfl _ hHeld.cells.2.1 hHeld.cells.2.2)
 skip
 refine hK.out _ _ ?_
 clear hK K
 refine norm_ (a' := ?_) ?_ ?_
 rotate_left
 ·show Act.put _ none _ = _
  simp only [Act.put, List.setIfInBounds_toArray, List.set_cons_zero, List.set_cons_succ, i64_w, i32_w]
  rfl
 refine done_ (by kernel_rfl) ?_
 have HH := Aside0.mk hHeld
 clear hHeld
 go_wp2
 go_ret
 refine ⟨rfl, ⟨bs, A', c', ?_, ?_, HL.out.2.2.1, HL.out.2.2.2⟩, ?_, ?_, kept_tail (by have := H1.out; exact this) B5.out HR.out.2 _⟩
 ·refine ⟨?_, ?_⟩
  ·rw [Below.heap_setCell _ _ _ _ (fun e => ?_)]
   ·exact HH.out.wr
   ·have h1 := HH.out.wr
    have h2 := HH.out.sh
    rw [e] at h1
    rw [h1] at h2
    cases h2
  ·rw [heap_setCell_same w1 bs 0 _ _ _ HH.out.sh]
   rw [List.length_append, ← HN.out.1, ← HN.out.2]
   rfl
 ·have := HR.out.1
  rw [HN.out.1, HN.out.2] at this
  have h := own_setCellT (j := 0) this HH.out.sh (by decide) (.slice A' (n + m) c')
  unfold OwnB
  rw [List.length_append, List.map_append, ← HN.out.1, ← HN.out.2]
  rw [← HN.out.1, ← HN.out.2] at h
  exact h
 ·have hb := below_own HO5.out (by have := HR.out.2; rw [HN.out.1] at this; exact this) (Nat.le_trans HL.out.2.1 B5.out.size)
  exact ((B5.out.mono HL.out.2.1).trans hb).setCell HL.out.2.2.2 _
 ·exact ((KeptT.below B5.out).trans (KeptT.grown HO5.out (by have := HR.out.2; rw [HN.out.1] at this; exact this) (by decide))).trans (KeptT.setCell HH.out.sh (by decide) _)
end Go.Proofs.YthnpiimiimiijaaGreatDoor.Dir
end
section
namespace Go.Proofs.YthnpiimiimiijaaGreatDoor.Dir
open Go Go.RowKit Go.Proofs Go.Proofs.YthnpiimiimiijaaGreatDoorW.PrintWords Go.Proofs.YthnpiimiimiijaaGreatDoorW.PrintLast Go.Proofs.YthnpiimiimiijaaGreatDoorW.PrintMore
set_option linter.unusedVariables false
set_option linter.unusedSimpArgs false
theorem row_srcs {W : World} {p : Nat} {cs : List Value} {T : TypeId} (h : W.heap[p]? = some (.cells cs.toArray T (0, 0))) (o n : Nat) (xs : List Value) (hn : xs.length = n) (hx : ∀ j u, xs[j]? = some u → cs[o + j]? = some u) : SrcAt W (some ⟨p, o, none⟩) n 1 xs :=
 ⟨by omega, fun e => (by cases e), fun a ha j u hj => (by cases ha; rw [add_at, cell_of_heap h]; exact hx j u hj)⟩
theorem len148 : Tryz.prog.arrayLen 148 = 8 := by kernel_rfl
theorem be_tail {v s : Nat} (hs : s ≤ 8) {j : Nat} {u : Value} (h : ((beN v s).map byteV)[j]? = some u) : ((beN v 8).map byteV)[8 - s + j]? = some u := by
 have := beN_drop v (8 - s) s
 rw [show 8 - s + s = 8 by omega] at this
 rw [← this, List.map_drop, List.getElem?_drop] at h
 exact h
theorem be_head {v s : Nat} (hs : s ≤ 8) (hv : v < 256 ^ s) {j : Nat} {u : Value} (h : (List.replicate (8 - s) (Value.int .u8 0))[j]? = some u) : ((beN v 8).map byteV)[0 + j]? = some u := by
 have hj : j < 8 - s := by have := (List.getElem?_eq_some_iff.1 h).1; simpa using this
 have := beN_zero v (8 - s) s hv j hj
 rw [show 8 - s + s = 8 by omega] at this
 rw [List.getElem?_replicate, if_pos hj] at h
 rw [Nat.zero_add, List.getElem?_map, this]
 exact h
set_option maxHeartbeats 4000000 in
set_option maxRecDepth 100000 in
theorem put57 (base bw : Nat) (xs : List UInt8) (v s : Nat) (w : World) (h : Wr w base bw xs) (hv : v < 9223372036854775808) (hs1 : 1 ≤ s) (hs8 : s ≤ 8) (hvs : v < 256 ^ s) (hl : xs.length + 8 ≤ 140737488355328) :
  Calls Tryz.prog 57 #[.pointer (some ⟨bw, 0, none⟩), .int .i64 v, .int .i64 s] w fun e w' => WrEnd w w' base bw (xs ++ beN v s) e := by
 have hsz := h.size
 have HW := Aside0.mk h
 obtain ⟨bs, A, c, h1, h2, h3, h4⟩ := h
 have hcall := Aside0.mk (none96 bw bs _ c A w h1)
 have hof := Aside0.mk (of97 v hv w)
 have H1 := Aside0.mk h1
 have H2 := Aside0.mk h2
 have HL := Aside0.mk (And.intro hl (And.intro hsz (And.intro h3 h4)))
 obtain ⟨n, hn⟩ : ∃ n, n = xs.length := ⟨_, rfl⟩
 have HN := Aside0.mk hn
 rw [← hn] at H1
 clear h1 h2 h3 h4 hl hsz hn
 have i1 : (1 : Int) ≤ (s : Int) := by omega
 have i8 : (s : Int) ≤ 8 := by omega
 have HV := Aside0.mk hvs
 have v0 : ¬ (v : Int) < 0 := by omega
 obtain ⟨CB, hCB⟩ : ∃ CB, CB = (beN v 8).map byteV := ⟨_, rfl⟩
 have HSZ := Aside0.mk (show CB.length = 8 by rw [hCB]; simp [beN_len])
 have HC1 := Aside0.mk (show ∀ u ∈ CB, u.oneCell' = true by rw [hCB]; exact bytes_one _)
 have HCB := Aside0.mk hCB
 rw [← hCB] at hof
 clear hCB hvs
 go_enter Tryz.func57, Tryz.ntmps57
 go_upto_region 5 with (go_at_call 96; refine hcall.out.mono ?_; rintro e w' ⟨rfl, rfl⟩)
 have HST := Aside0.mk (fun (W : World) => store_full (W.alloc (.cells #[.int .u8 0, .int .u8 0, .int .u8 0, .int .u8 0, .int .u8 0, .int .u8 0, .int .u8 0, .int .u8 0] 148)) 148 8 W.heap.size Tryz.sizeOf148 [.int .u8 0, .int .u8 0, .int .u8 0, .int .u8 0, .int .u8 0, .int .u8 0, .int .u8 0, .int .u8 0] CB (heap_alloc_new W _) rfl HSZ.out HC1.out)
 go_upto_region 6 with (first | ((with_reducible refine at_store 148 (.tmp 7) (.tmp 18) ?_); refine wpList_storeK rfl 148 (.tmp 7) (.tmp 18) rfl rfl _ _ rfl rfl _ (HST.out _) ?_) | (go_at_call 97; refine hof.out.mono ?_; rintro e w2 ⟨rfl, hb2⟩))
 obtain ⟨p, hp⟩ : ∃ p, p = w2.heap.size := ⟨_, rfl⟩
 obtain ⟨W3, hW3⟩ : ∃ W3, W3 = (w2.alloc (.cells #[.int .u8 0, .int .u8 0, .int .u8 0, .int .u8 0, .int .u8 0, .int .u8 0, .int .u8 0, .int .u8 0] 148)).setRow w2.heap.size CB.toArray := ⟨_, rfl⟩
 rw [← hW3]
 rw [← hp] at hW3 ⊢
 have HP := Aside0.mk (show W3.heap[p]? = some (.cells CB.toArray 148 (0, 0)) by rw [hW3, hp]; exact setRow_heap _ _ _ CB.toArray 148 (0, 0) (heap_alloc_new w2 _))
 have HB := Aside0.mk (show Below w'.heap.size w' W3 by rw [hW3]; exact below_setRow (hb2.alloc hb2.size _) (by rw [hp]; exact hb2.size) CB.toArray)
 clear hW3 hp hb2
 have hsl : ∀ W, (Instr.sliceAt 148 (.pointer (some ⟨p, 0, none⟩)) none (some (.int .i64 (8 - (s : Int)))) none).run Tryz.prog W = .ok (.slice (some ⟨p, 0, none⟩) (8 - s) 8) W := fun W => by
  rw [run_sliceAt_array_h W 148 ⟨p, 0, none⟩ Tryz.underlying148 .i64 (8 - (s : Int)) (by omega) (by rw [len148]; omega)]
  go_simp
 have hsh : ∀ W, (Instr.sliceAt 148 (.pointer (some ⟨p, 0, none⟩)) (some (.int .i64 (8 - (s : Int)))) none none).run Tryz.prog W = .ok (.slice (some ⟨p, 8 - s, none⟩) s s) W := fun W => by
  rw [run_sliceAt_array_l W 148 ⟨p, 0, none⟩ Tryz.underlying148 .i64 (8 - (s : Int)) (by omega) (by rw [len148]; omega)]
  go_simp
  exact ⟨fun e => by omega, by omega⟩
 have hsw : ∀ W, (Instr.sliceAt 148 (.pointer (some ⟨p, 0, none⟩)) (some (.int .i64 (Go.RowKit.wrap64 (8 - (s : Int))))) none none).run Tryz.prog W = .ok (.slice (some ⟨p, 8 - s, none⟩) s s) W := fun W => by
  rw [show Go.RowKit.wrap64 (8 - (s : Int)) = 8 - (s : Int) by unfold Go.RowKit.wrap64; omega]
  exact hsh W
 have hct := Aside0.mk (contains99 (8 - s) 8 p 0 W3 (row_srcs HP.out 0 (8 - s) _ (by simp) (fun j u hj => by rw [HCB.out]; exact be_head hs8 HV.out hj)) (by omega))
 go_wp2_with (first | (go_at_call 99; refine hct.out.mono ?_; rintro e w4 ⟨rfl, hb4⟩) | fail)
 have HB4 := Aside0.mk hb4
 clear hb4
 refine start_ (n := 18) (S := fun W => WrAt W bw bs A n c) (ds := [17]) #[false, false, false, false, false, false, false, false, false, false, false, false, false, false, false, false, false, false] (by kernel_rfl) rfl rfl (H1.out.later (below_step HB.out HB4.out).drew) (fun hHeld => ?_)
 obtain ⟨w5, hw5⟩ : ∃ w5, w5 = w4.drew := ⟨_, rfl⟩
 have B5 := Aside0.mk (show Below w'.heap.size w' w5 by rw [hw5]; exact (below_step HB.out HB4.out).drew)
 have HP5 := Aside0.mk (show w5.heap[p]? = some (.cells CB.toArray 148 (0, 0)) by rw [hw5]; exact room_at HP.out HB4.out.drew)
 rw [← hw5] at hHeld ⊢
 clear hw5
 refine pure_ (i := 0) (N := (some 28)) (v := ?_) (a' := ?_) #[true, false, false, false, false, false, false, false, false, false, false, false, false, false, false, false, false, false] rfl rfl (by kernel_rfl) (fun _ _ _ h => h) (Or.inl ⟨by rfl, ?_⟩) ?_ ?_
 rotate_left
 ·intro w'
  go_simp
  with_reducible rfl
 rotate_left
 ·simp only [Act.put, List.setIfInBounds_toArray, List.set_cons_zero, List.set_cons_succ, i64_w, i32_w]
  rfl
 refine pure_ (i := 1) (N := (some 29)) (v := ?_) (a' := ?_) #[true, true, false, false, false, false, false, false, false, false, false, false, false, false, false, false, false, false] rfl rfl (by kernel_rfl) (fun _ _ _ h => h) (Or.inl ⟨by rfl, ?_⟩) ?_ ?_
 rotate_left
 ·intro w'
  go_simp
  with_reducible rfl
 rotate_left
 ·simp only [Act.put, List.setIfInBounds_toArray, List.set_cons_zero, List.set_cons_succ, i64_w, i32_w]
  rfl
 refine pure_ (i := 2) (N := (some 30)) (v := ?_) (a' := ?_) #[true, true, true, false, false, false, false, false, false, false, false, false, false, false, false, false, false, false] rfl rfl (by kernel_rfl) (fun _ _ _ h => h) (Or.inl ⟨by rfl, ?_⟩) ?_ ?_
 rotate_left
 ·intro w'
  go_simp
  with_reducible rfl
 rotate_left
 ·simp only [Act.put, List.setIfInBounds_toArray, List.set_cons_zero, List.set_cons_succ, i64_w, i32_w]
  rfl
 refine pure_ (i := 4) (N := (some 32)) (v := ?_) (a' := ?_) #[true, true, true, false, true, false, false, false, false, false, false, false, false, false, false, false, false, false] rfl rfl (by kernel_rfl) (fun _ _ _ h => h) (Or.inl ⟨by rfl, ?_⟩) ?_ ?_
 rotate_left
 ·intro w'
  go_simp
  with_reducible rfl
 rotate_left
 ·simp only [Act.put, List.setIfInBounds_toArray, List.set_cons_zero, List.set_cons_succ, i64_w, i32_w]
  rfl
 refine pure_ (i := 5) (N := (some 33)) (v := ?_) (a' := ?_) #[true, true, true, false, true, true, false, false, false, false, false, false, false, false, false, false, false, false] rfl rfl (by kernel_rfl) (fun _ _ _ h => h) (Or.inl ⟨by rfl, ?_⟩) ?_ ?_
 rotate_left
 ·intro w'
  go_simp
  with_reducible rfl
 rotate_left
 ·simp only [Act.put, List.setIfInBounds_toArray, List.set_cons_zero, List.set_cons_succ, i64_w, i32_w]
  rfl
 refine pure_ (i := 6) (N := (some 34)) (v := ?_) (a' := ?_) #[true, true, true, false, true, true, true, false, false, false, false, false, false, false, false, false, false, false] rfl rfl (by kernel_rfl) (fun _ _ _ h => h) (Or.inl ⟨by rfl, ?_⟩) ?_ ?_
 rotate_left
 ·intro w'
  go_simp
  with_reducible rfl
 rotate_left
 ·simp only [Act.put, List.setIfInBounds_toArray, List.set_cons_zero, List.set_cons_succ, i64_w, i32_w]
  rfl
 refine pure_ (i := 11) (N := (some 39)) (v := ?_) (a' := ?_) #[true, true, true, false, true, true, true, false, false, false, false, true, false, false, false, false, false, false] rfl rfl (by kernel_rfl) (fun _ _ _ h => h) (Or.inl ⟨by rfl, ?_⟩) ?_ ?_
 rotate_left
 ·intro w'
  go_simp
  with_reducible rfl
 rotate_left
 ·simp only [Act.put, List.setIfInBounds_toArray, List.set_cons_zero, List.set_cons_succ, i64_w, i32_w]
  rfl
 refine pure_ (i := 12) (N := (some 40)) (v := ?_) (a' := ?_) #[true, true, true, false, true, true, true, false, false, false, false, true, true, false, false, false, false, false] rfl rfl (by kernel_rfl) (fun _ _ _ h => h) (Or.inl ⟨by rfl, ?_⟩) ?_ ?_
 rotate_left
 ·intro w'
  go_simp
  with_reducible rfl
 rotate_left
 ·simp only [Act.put, List.setIfInBounds_toArray, List.set_cons_zero, List.set_cons_succ, i64_w, i32_w]
  rfl
 refine pure_ (i := 13) (N := (some 41)) (v := ?_) (a' := ?_) #[true, true, true, false, true, true, true, false, false, false, false, true, true, true, false, false, false, false] rfl rfl (by kernel_rfl) (fun _ _ _ h => h) (Or.inl ⟨by rfl, ?_⟩) ?_ ?_
 rotate_left
 ·intro w'
  go_simp
  with_reducible rfl
 rotate_left
 ·simp only [Act.put, List.setIfInBounds_toArray, List.set_cons_zero, List.set_cons_succ, i64_w, i32_w]
  rfl
 refine take_ (i := 3) (N := (some 31)) (v := ?_) (a' := ?_) #[true, true, true, true, true, true, true, false, false, false, false, true, true, true, false, false, false, false] rfl rfl (by kernel_rfl) (fun _ _ _ h => h) (Or.inl ⟨by rfl, ?_⟩) hHeld ?_ ?_
 rotate_left
 ·rintro w' hs
  obtain ⟨s0, s1, sf⟩ := hs.cells
  go_simp
  with_reducible rfl
 rotate_left
 ·simp only [Act.put, List.setIfInBounds_toArray, List.set_cons_zero, List.set_cons_succ, i64_w, i32_w]
  rfl
 refine take_ (i := 7) (N := (some 35)) (v := ?_) (a' := ?_) #[true, true, true, true, true, true, true, true, false, false, false, true, true, true, false, false, false, false] rfl rfl (by kernel_rfl) (fun _ _ _ h => h) (Or.inl ⟨by rfl, ?_⟩) hHeld ?_ ?_
 rotate_left
 ·rintro w' hs
  obtain ⟨s0, s1, sf⟩ := hs.cells
  go_simp
  with_reducible rfl
 rotate_left
 ·simp only [Act.put, List.setIfInBounds_toArray, List.set_cons_zero, List.set_cons_succ, i64_w, i32_w]
  rfl
 refine pure_ (i := 8) (N := (some 36)) (v := ?_) (a' := ?_) #[true, true, true, true, true, true, true, true, true, false, false, true, true, true, false, false, false, false] rfl rfl (by kernel_rfl) (fun _ _ _ h => h) (Or.inl ⟨by rfl, ?_⟩) ?_ ?_
 rotate_left
 ·intro w'
  go_simp
  with_reducible rfl
 rotate_left
 ·simp only [Act.put, List.setIfInBounds_toArray, List.set_cons_zero, List.set_cons_succ, i64_w, i32_w]
  rfl
 refine pure_ (i := 9) (N := (some 37)) (v := ?_) (a' := ?_) #[true, true, true, true, true, true, true, true, true, true, false, true, true, true, false, false, false, false] rfl rfl (by kernel_rfl) (fun _ _ _ h => h) (Or.inl ⟨by rfl, ?_⟩) ?_ ?_
 rotate_left
 ·intro w'
  go_simp
  with_reducible rfl
 rotate_left
 ·simp only [Act.put, List.setIfInBounds_toArray, List.set_cons_zero, List.set_cons_succ, i64_w, i32_w]
  rfl
 refine take_ (i := 10) (N := (some 38)) (v := ?_) (a' := ?_) #[true, true, true, true, true, true, true, true, true, true, true, true, true, true, false, false, false, false] rfl rfl (by kernel_rfl) (fun _ _ _ h => h) (Or.inl ⟨by rfl, ?_⟩) hHeld ?_ ?_
 rotate_left
 ·rintro w' hs
  obtain ⟨s0, s1, sf⟩ := hs.cells
  go_simp
  with_reducible rfl
 rotate_left
 ·simp only [Act.put, List.setIfInBounds_toArray, List.set_cons_zero, List.set_cons_succ, i64_w, i32_w]
  rfl
 have HO5 := Aside0.mk (H2.out.below B5.out)
 obtain ⟨A', c', w1, hr, h2, h3⟩ := run_app appB w5 67 base n c s s A (some ⟨p, 8 - s, none⟩) (xs.map byteV) ((beN v s).map byteV) (by rw [HN.out]; exact HO5.out) (row_srcs HP5.out (8 - s) s _ (by rw [List.length_map, beN_len]) (fun j u hj => by rw [HCB.out]; exact be_tail hs8 hj)) (bytes_one _) (by rw [HN.out]; have := HL.out.1; omega) (by rw [HN.out]; have := HL.out.1; unfold maxLen; omega) (Nat.le_trans HL.out.2.1 B5.out.size)
 refine one_ (i := 14) (N := (some 42)) #[true, true, true, true, true, true, true, true, true, true, true, true, true, true, true, false, false, false] rfl rfl (by kernel_rfl) (by decide) (fun K hK => ?_)
 refine value_ (v := .slice A' (n + s) c') (w1 := w1) (by rfl) rfl ?_ ?_
 ·exact runs_append 67 (.tmp 38) (.tmp 41) _ rfl _ (.slice A n c) (.slice (some ⟨p, 8 - s, none⟩) s s) _ rfl rfl hr
 have hS_ : WrAt w1 bw bs A n c := by rw [HN.out] at hHeld h3 ⊢; exact hHeld.keep HO5.out h3
 have HR := Aside0.mk (And.intro h2 h3)
 clear hr h2 h3
 refine hK.out _ _ hS_ (fun hHeld => ?_)
 clear hK K
 refine norm_ (a' := ?_) ?_ ?_
 rotate_left
 ·show Act.put _ (some 42) _ = _
  simp only [Act.put, List.setIfInBounds_toArray, List.set_cons_zero, List.set_cons_succ, i64_w, i32_w]
  rfl
 refine pure_ (i := 15) (N := (some 43)) (v := ?_) (a' := ?_) #[true, true, true, true, true, true, true, true, true, true, true, true, true, true, true, true, false, false] rfl rfl (by kernel_rfl) (fun _ _ _ h => h) (Or.inl ⟨by rfl, ?_⟩) ?_ ?_
 rotate_left
 ·intro w'
  go_simp
  with_reducible rfl
 rotate_left
 ·simp only [Act.put, List.setIfInBounds_toArray, List.set_cons_zero, List.set_cons_succ, i64_w, i32_w]
  rfl
 refine pure_ (i := 16) (N := (some 44)) (v := ?_) (a' := ?_) #[true, true, true, true, true, true, true, true, true, true, true, true, true, true, true, true, true, false] rfl rfl (by kernel_rfl) (fun _ _ _ h => h) (Or.inl ⟨by rfl, ?_⟩) ?_ ?_
 rotate_left
 ·intro w'
  go_simp
  with_reducible rfl
 rotate_left
 ·simp only [Act.put, List.setIfInBounds_toArray, List.set_cons_zero, List.set_cons_succ, i64_w, i32_w]
  rfl
 refine last_ (i := 17) (N := none) #[true, true, true, true, true, true, true, true, true, true, true, true, true, true, true, true, true, true] rfl rfl (by kernel_rfl) (by decide) (fun K hK => ?_)
 refine store_ (w1 := w1.setCell ⟨bs, 0, none⟩ (.slice A' (n + s) c')) (by rfl) rfl ?_ ?_
 ·exact runs_store 67 (.tmp 44) (.tmp 42) _ rfl _ _ _ rfl rfl _ (run_storeAt1 Tryz.prog w1 67 Tryz.sizeOf67 bs 0 _ rfl rfl _ hHeld.cells.2.1 hHeld.cells.2.2)
 skip
 refine hK.out _ _ ?_
 clear hK K
 refine norm_ (a' := ?_) ?_ ?_
 rotate_left
 ·show Act.put _ none _ = _
  simp only [Act.put, List.setIfInBounds_toArray, List.set_cons_zero, List.set_cons_succ, i64_w, i32_w]
  rfl
 refine done_ (by kernel_rfl) ?_
 have HH := Aside0.mk hHeld
 clear hHeld
 go_wp2
 go_ret
 refine ⟨rfl, ⟨bs, A', c', ?_, ?_, HL.out.2.2.1, HL.out.2.2.2⟩, ?_, ?_, kept_tail (by have := H1.out; exact this) B5.out HR.out.2 _⟩
 ·refine ⟨?_, ?_⟩
  ·rw [Below.heap_setCell _ _ _ _ (fun e => ?_)]
   ·exact HH.out.wr
   ·have h1 := HH.out.wr
    have h2 := HH.out.sh
    rw [e] at h1
    rw [h1] at h2
    cases h2
  ·rw [heap_setCell_same w1 bs 0 _ _ _ HH.out.sh]
   rw [List.length_append, beN_len, ← HN.out]
   rfl
 ·have h := own_setCellT (j := 0) HR.out.1 HH.out.sh (by decide) (.slice A' (n + s) c')
  unfold OwnB
  rw [List.length_append, List.map_append, beN_len, ← HN.out]
  exact h
 ·have hb := below_own HO5.out (by have := HR.out.2; rw [HN.out] at this; exact this) (Nat.le_trans HL.out.2.1 B5.out.size)
  exact ((B5.out.mono HL.out.2.1).trans hb).setCell HL.out.2.2.2 _
 ·exact ((KeptT.below B5.out).trans (KeptT.grown HO5.out (by have := HR.out.2; rw [HN.out] at this; exact this) (by decide))).trans (KeptT.setCell HH.out.sh (by decide) _)
end Go.Proofs.YthnpiimiimiijaaGreatDoor.Dir
end
