/- acl.Parse, as the callers' print wants it. advance and rules, of an op's book. The map of ops, and what is looked up there. direct.Check: whether a book may be. The statements' keys and ops. works: the chapter's directory. The document's Same, at two books that read alike. Arrays of thirty cells beside a directory; which keys the asks name. direct.Load; two directories side by side. The document's -/
import Derived.Test.YtmgbaefgcdglpaaGreatDoorNj27
import Derived.Test.YtmgbaefgcdglpaaGreatDoorNj24
import Derived.MapKept
import Derived.Test.YtmgbaefgcdglpaaGreatDoorNj25
import Derived.Lib.MapLaws
import Derived.Lib.IndexMore
import Derived.Lib.AtoiAllCases
import Derived.Lib.ItoaMem
section
namespace Go.Proofs.YtmgbaefgcdglpaaGreatDoor.PA
open Go.RowKit Go.Proofs.YtmgbaefgcdglpaaGreatDoorW.PrintWords Go.Proofs.YtmgbaefgcdglpaaGreatDoorW.PrintLast Go.Proofs.YtmgbaefgcdglpaaGreatDoorW.PrintMore
def acl_Parse.f (a0 : ByteArray) : Option (List S96 × Int) := some (Acl.parseOf a0.data.toList)
theorem acl_Parse.calls (a0 : ByteArray) (r1 : List S96) (r2 : Int) (w : World) (hx : LaidW w) (h : acl_Parse.f a0 = some (r1, r2)) :
  Calls Tryz.prog 21 #[.string a0] w fun e w' => ∃ v0_ : Value, e = .returned (.tuple #[v0_, .int .i64 r2]) ∧ Kd.R k96 96 w' w.heap.size (fun _ => True) v0_ r1 ∧ Below w.heap.size w w' := by
 refine (Acl.parse_any a0.data.toList w hx).mono ?_
 rintro e w' ⟨hb, v, he, hr⟩
 have e2 : Acl.parseOf a0.data.toList = (r1, r2) := Option.some.inj h
 rw [e2] at he hr
 exact ⟨v, he, hr, hb⟩
end Go.Proofs.YtmgbaefgcdglpaaGreatDoor.PA
end
section
namespace Go.Proofs.YtmgbaefgcdglpaaGreatDoor.Dir
open Go Go.RowKit Go.Proofs Go.Proofs.YtmgbaefgcdglpaaGreatDoorW.PrintWords Go.Proofs.YtmgbaefgcdglpaaGreatDoorW.PrintLast Go.Proofs.YtmgbaefgcdglpaaGreatDoorW.PrintMore
set_option linter.unusedVariables false
set_option linter.unusedSimpArgs false
def OpPost (w : World) (base q : Nat) (X : Book × Int) (e : Ending) (w' : World) : Prop := e = .returned (.int .i64 X.2) ∧ (X.2 = 0 → NextAt w' base q X.1) ∧ Below base w w' ∧ w.heap.size ≤ w'.heap.size
theorem OnBook.post {w W : World} {base q : Nat} {B : Book} {A1 : Option Addr} {c1 : Nat} {A2 : Option Addr} {c2 bx : Nat} {cs : List Value} {T : TypeId} (h : OnBook w W base q B A1 c1 A2 c2 bx cs T) (B' : Book) (n : Int) (hn : n ≠ 0) : OpPost w base q (B', n) (.returned (.int .i64 n)) W :=
 ⟨rfl, fun h => absurd h hn, h.fr, h.fr.size⟩
section
variable {W : World} {base q : Nat} {B : Book} {A1 : Option Addr} {c1 : Nat} {A2 : Option Addr} {c2 : Nat}
theorem NextIs.setq (h : NextIs W base q B A1 c1 A2 c2) (B' : Book) (j : Nat) (u : Value) (hd : B'.devs = B.devs) (hs : B'.spent = B.spent) (hc : ((bookCells B A1 c1 A2 c2).toArray.setIfInBounds j u) = (bookCells B' A1 c1 A2 c2).toArray) : NextIs (W.setCell ⟨q, j, none⟩ u) base q B' A1 c1 A2 c2 := by
 refine ⟨by rw [heap_setCell_same W q j _ _ u h.box, hc], ?_, h.low, by rw [hd]; exact h.ne1, by rw [hs]; exact h.ne2⟩
 unfold Lists
 rw [hd, hs]
 exact ⟨ownsRow_setCell_other h.lists.1 (a := ⟨q, j, none⟩) h.ne1 u, ownsRow_setCell_other h.lists.2.1 (a := ⟨q, j, none⟩) h.ne2 u, h.lists.2.2⟩
theorem NextIs.clock (h : NextIs W base q B A1 c1 A2 c2) (t : Int) : NextIs (W.setCell ⟨q, 1, none⟩ (.int .i64 t)) base q { B with clock := t } A1 c1 A2 c2 := h.setq _ 1 _ rfl rfl rfl
theorem NextIs.acl (h : NextIs W base q B A1 c1 A2 c2) (t : List UInt8) : NextIs (W.setCell ⟨q, 4, none⟩ (.string ⟨t.toArray⟩)) base q { B with acl := t } A1 c1 A2 c2 := h.setq _ 4 _ rfl rfl rfl
theorem NextIs.ver (h : NextIs W base q B A1 c1 A2 c2) (t : Int) : NextIs (W.setCell ⟨q, 0, none⟩ (.int .i64 t)) base q { B with ver := t } A1 c1 A2 c2 := h.setq _ 0 _ rfl rfl rfl
end
end Go.Proofs.YtmgbaefgcdglpaaGreatDoor.Dir
/- revoke and rotate, of an op's book. -/
namespace Go.Proofs.YtmgbaefgcdglpaaGreatDoor.Dir
open Go Go.RowKit Go.Proofs Go.Proofs.YtmgbaefgcdglpaaGreatDoorW.PrintWords Go.Proofs.YtmgbaefgcdglpaaGreatDoorW.PrintLast Go.Proofs.YtmgbaefgcdglpaaGreatDoorW.PrintMore
set_option linter.unusedVariables false
set_option linter.unusedSimpArgs false
end Go.Proofs.YtmgbaefgcdglpaaGreatDoor.Dir
/- A device is built. -/
namespace Go.Proofs.YtmgbaefgcdglpaaGreatDoor.Dir
open Go Go.RowKit Go.Proofs
set_option linter.unusedVariables false
set_option linter.unusedSimpArgs false
end Go.Proofs.YtmgbaefgcdglpaaGreatDoor.Dir
/- register, of an op's book. -/
namespace Go.Proofs.YtmgbaefgcdglpaaGreatDoor.Dir
open Go Go.RowKit Go.Proofs Go.Proofs.YtmgbaefgcdglpaaGreatDoorW.PrintWords Go.Proofs.YtmgbaefgcdglpaaGreatDoorW.PrintLast Go.Proofs.YtmgbaefgcdglpaaGreatDoorW.PrintMore
set_option linter.unusedVariables false
set_option linter.unusedSimpArgs false
end Go.Proofs.YtmgbaefgcdglpaaGreatDoor.Dir
end
section
namespace Go.Proofs.YtmgbaefgcdglpaaGreatDoor.Dir
open Go Go.MapKept Go.RowKit Go.Proofs Go.Proofs.YtmgbaefgcdglpaaGreatDoorW.PrintWords Go.Proofs.YtmgbaefgcdglpaaGreatDoorW.PrintLast Go.Proofs.YtmgbaefgcdglpaaGreatDoorW.PrintMore
set_option linter.unusedVariables false
set_option linter.unusedSimpArgs false
end Go.Proofs.YtmgbaefgcdglpaaGreatDoor.Dir
/- Apply: an op done. -/
namespace Go.Proofs.YtmgbaefgcdglpaaGreatDoor.Dir
open Go Go.RowKit Go.Proofs Go.Proofs.YtmgbaefgcdglpaaGreatDoorW.PrintWords Go.Proofs.YtmgbaefgcdglpaaGreatDoorW.PrintLast Go.Proofs.YtmgbaefgcdglpaaGreatDoorW.PrintMore
set_option linter.unusedVariables false
set_option linter.unusedSimpArgs false
def rulesOf (t : List UInt8) : Int := (Acl.parseOf t).2
structure ResAt (W : World) (r : Nat) : Prop where
 at_ : ∃ x y, W.heap[r]? = some (.cells #[x, y] 30 (0, 0))
theorem ResAt.cells {W : World} {r : Nat} (h : ResAt W r) : (∃ z, W.cell? ⟨r, 0, none⟩ = some z) ∧ (∃ z, W.cell? ⟨r, 1, none⟩ = some z) ∧ (∀ j, W.frozen? ⟨r, j, none⟩ = false) := by
 obtain ⟨x, y, hk⟩ := h.at_
 simp [World.cell?, World.frozen?, hk]
theorem ResAt.filled {W : World} {r : Nat} (h : ResAt W r) (a b : Value) : ((W.setCell ⟨r, 0, none⟩ a).setCell ⟨r, 1, none⟩ b).heap[r]? = some (.cells #[a, b] 30 (0, 0)) := by
 obtain ⟨x, y, hk⟩ := h.at_
 have h1 := heap_setCell_same W r 0 _ _ a hk
 exact heap_setCell_same _ r 1 _ _ b h1
end Go.Proofs.YtmgbaefgcdglpaaGreatDoor.Dir
end
section
namespace Go.Proofs.YtmgbaefgcdglpaaGreatDoor.Dir
open Go Go.RowKit Go.Proofs Go.Proofs.YtmgbaefgcdglpaaGreatDoorW.PrintWords Go.Proofs.YtmgbaefgcdglpaaGreatDoorW.PrintLast Go.Proofs.YtmgbaefgcdglpaaGreatDoorW.PrintMore
set_option linter.unusedVariables false
set_option linter.unusedSimpArgs false
def devsOk : Int → List Dev → Bool
 | _, [] => true
 | last, d :: l => decide (last < d.node) && decide (d.node ≤ 8) && decide (1 ≤ d.exp) && number d.exp && devsOk d.node l
structure OkB (B : Book) : Prop where
 ver : number B.ver = true
 clock : number B.clock = true
 few : B.devs.length ≤ 8
 len : B.spent.length ≤ 64
 devs : devsOk 0 B.devs = true
 acl : rulesOf B.acl = 0
 sorted : SortedL B.spent
 apart : ApartL (sortL (takenB B))
 nonzero : key0 ∉ takenB B
def CheckEnd (B : Book) (e : Ending) : Prop := (e = .returned (.int .i64 0) ∧ OkB B) ∨ (e = .returned (.int .i64 2) ∧ ¬ OkB B)
theorem devsOk_next {l : List Dev} {n : Nat} {d : Dev} {last : Int} (h : l[n]? = some d) : devsOk last (l.drop n) = (decide (last < d.node) && decide (d.node ≤ 8) && decide (1 ≤ d.exp) && number d.exp && devsOk d.node (l.drop (n + 1))) := by
 obtain ⟨hl, e⟩ := List.getElem?_eq_some_iff.1 h
 rw [List.drop_eq_getElem_cons hl, e]
 rfl
theorem key0_least (k : Key) : ltK k key0 = false := by
 rcases ltK_tri k key0 with h | h | h
 ·exfalso
  have h1 : Lib.compareBytes k.1 key0.1 < 0 := of_decide_eq_true h
  have : ∀ (n : Nat) (a : List UInt8), 0 ≤ Lib.compareBytes a (List.replicate n 0) ∨ a.length < n := by
   intro n
   induction n with
   | zero =>
    intro a
    cases a with
    | nil => exact .inl (by simp [Lib.compareBytes])
    | cons b r => exact .inl (by simp [Lib.compareBytes])
   | succ n ih =>
    intro a
    cases a with
    | nil => exact .inr (by simp)
    | cons b r =>
     rw [List.replicate_succ]
     unfold Lib.compareBytes
     rw [if_neg (by rw [UInt8.lt_iff_toNat_lt]; simp)]
     split
     ·exact .inl (by omega)
     ·rcases ih r with h | h
      ·exact .inl h
      ·exact .inr (by simpa using h)
  rcases this 32 k.1 with h2 | h2
  ·exact absurd h1 (by show ¬ Lib.compareBytes k.1 (List.replicate 32 0) < 0; omega)
  ·have := k.2; omega
 ·subst h; exact ltK_irrefl _
 ·exact ltK_asymm h
theorem first_zero (l : List Key) {x : Key} (hx : (sortL l)[0]? = some x) : x = key0 ↔ key0 ∈ l := by
 have hp := sortL_perm l
 constructor
 ·rintro rfl
  exact hp.mem_iff.1 (List.mem_of_getElem? hx)
 ·intro h
  have hs := sortL_sorted l
  cases hl : sortL l with
  | nil => rw [hl] at hx; cases hx
  | cons y r =>
   rw [hl] at hx hs
   simp at hx
   subst hx
   have h0 : key0 ∈ y :: r := by rw [← hl]; exact hp.mem_iff.2 h
   rcases List.mem_cons.1 h0 with e | e
   ·exact e.symm
   ·have h1 := (List.pairwise_cons.1 hs).1 _ e
    rcases ltK_tri key0 y with h2 | h2 | h2
    ·rw [h1] at h2; cases h2
    ·exact h2.symm
    ·rw [key0_least] at h2; cases h2
end Go.Proofs.YtmgbaefgcdglpaaGreatDoor.Dir
end
section
namespace Go.Proofs.YtmgbaefgcdglpaaGreatDoor.Dir
open Go Go.RowKit Go.Proofs Go.Proofs.YtmgbaefgcdglpaaGreatDoorW.PrintWords Go.Proofs.YtmgbaefgcdglpaaGreatDoorW.PrintLast Go.Proofs.YtmgbaefgcdglpaaGreatDoorW.PrintMore
set_option linter.unusedVariables false
set_option linter.unusedSimpArgs false
def keyN (n : Nat) : Key := ⟨1 :: 0 :: 0 :: n.toUInt8 :: List.replicate 28 0, by simp⟩
section
variable {P : Program} {w : World} {ops : Array Oper} {rest : List Oper} {o : Oper} {a : Act} {Q : Exit → Act → World → Prop}
end
end Go.Proofs.YtmgbaefgcdglpaaGreatDoor.Dir
/- The statements' ops, and what is asked for by numbers. -/
namespace Go.Proofs.YtmgbaefgcdglpaaGreatDoor.Dir
open Go Go.RowKit Go.Proofs Go.Proofs.YtmgbaefgcdglpaaGreatDoorW.PrintWords Go.Proofs.YtmgbaefgcdglpaaGreatDoorW.PrintLast Go.Proofs.YtmgbaefgcdglpaaGreatDoorW.PrintMore
set_option linter.unusedVariables false
set_option linter.unusedSimpArgs false
def regOp (node : Int) (k : Nat) (e : Int) : Op := ⟨1, node, keyN k, e, [], 0⟩
def rotOp (node : Int) (k : Nat) (e : Int) : Op := ⟨2, node, keyN k, e, [], 0⟩
def revOp (node : Int) : Op := ⟨3, node, key0, 0, [], 0⟩
def advOp (t : Int) : Op := ⟨5, 0, key0, 0, [], t⟩
structure AskV where
 kind : Int
 node : Int
 key : Int
 at_ : Int
 deriving Inhabited
structure AskAt (W : World) (b : Nat) (x0 x1 x2 x3 : Int) : Prop where
 bx : W.heap[b]? = some (.cells #[.int .i64 x0, .int .i64 x1, .int .i64 x2, .int .i64 x3] 38 (0, 0))
theorem AskAt.drew {W : World} {b : Nat} {x0 x1 x2 x3 : Int} (h : AskAt W b x0 x1 x2 x3) : AskAt W.drew b x0 x1 x2 x3 := ⟨h.bx⟩
theorem AskAt.cells {W : World} {b : Nat} {x0 x1 x2 x3 : Int} (h : AskAt W b x0 x1 x2 x3) : W.cell? ⟨b, 0, none⟩ = some (.int .i64 x0) ∧ W.cell? ⟨b, 1, none⟩ = some (.int .i64 x1) ∧ W.cell? ⟨b, 2, none⟩ = some (.int .i64 x2) ∧ W.cell? ⟨b, 3, none⟩ = some (.int .i64 x3) := by
 have hk := h.bx
 simp [World.cell?, hk]
end Go.Proofs.YtmgbaefgcdglpaaGreatDoor.Dir
/- The statements' own helpers: does, counts. -/
namespace Go.Proofs.YtmgbaefgcdglpaaGreatDoor.Dir
open Go Go.RowKit Go.Proofs Go.Proofs.YtmgbaefgcdglpaaGreatDoorW.PrintWords Go.Proofs.YtmgbaefgcdglpaaGreatDoorW.PrintLast Go.Proofs.YtmgbaefgcdglpaaGreatDoorW.PrintMore
set_option linter.unusedVariables false
set_option linter.unusedSimpArgs false
structure DirSt (w W : World) (p : Nat) (B : Book) : Prop where
 at_ : DirAt W p B
 fr : Below w.heap.size w W
 new : w.heap.size ≤ p
 wf : WF B
 laid : PA.LaidW w
theorem DirSt.later {w W W' : World} {p : Nat} {B : Book} (h : DirSt w W p B) (hb : Below W.heap.size W W') : DirSt w W' p B :=
 ⟨h.at_.below hb, below_step h.fr hb, h.new, h.wf, h.laid⟩
end Go.Proofs.YtmgbaefgcdglpaaGreatDoor.Dir
end
section
namespace Go.Proofs.YtmgbaefgcdglpaaGreatDoor.Dir
open Go Go.RowKit Go.Proofs Go.Proofs.YtmgbaefgcdglpaaGreatDoorW.PrintWords Go.Proofs.YtmgbaefgcdglpaaGreatDoorW.PrintLast Go.Proofs.YtmgbaefgcdglpaaGreatDoorW.PrintMore
set_option linter.unusedVariables false
set_option linter.unusedSimpArgs false
def wb0 : Book := book0
def wo0 : Op := regOp 1 1 50
def wb1 : Book := applyOf rulesOf wb0 wo0
def wo1 : Op := regOp 1 9 50
def wb2 : Book := applyOf rulesOf wb1 wo1
def wo2 : Op := regOp 2 1 50
def wb3 : Book := applyOf rulesOf wb2 wo2
def wo3 : Op := regOp 2 2 0
def wb4 : Book := applyOf rulesOf wb3 wo3
def wo6 : Op := rotOp 1 3 60
def wb5 : Book := applyOf rulesOf wb4 wo6
def wo7 : Op := regOp 2 1 9
def wb6 : Book := applyOf rulesOf wb5 wo7
def wo10 : Op := revOp 1
def wb7 : Book := applyOf rulesOf wb6 wo10
def wo11 : Op := rotOp 1 4 70
def wb8 : Book := applyOf rulesOf wb7 wo11
def wo13 : Op := regOp 1 4 70
def wb9 : Book := applyOf rulesOf wb8 wo13
def wo15 : Op := advOp 70
def wb10 : Book := applyOf rulesOf wb9 wo15
theorem ws : wb10.spent.length = 2 := by kernel_rfl
end Go.Proofs.YtmgbaefgcdglpaaGreatDoor.Dir
/- Rows of asks, as the walks read them. -/
namespace Go.Proofs.YtmgbaefgcdglpaaGreatDoor.Dir
open Go Go.RowKit Go.Proofs Go.Proofs.YtmgbaefgcdglpaaGreatDoorW.PrintWords Go.Proofs.YtmgbaefgcdglpaaGreatDoorW.PrintLast Go.Proofs.YtmgbaefgcdglpaaGreatDoorW.PrintMore
set_option linter.unusedVariables false
set_option linter.unusedSimpArgs false
end Go.Proofs.YtmgbaefgcdglpaaGreatDoor.Dir
end
section
namespace Go.Proofs.YtmgbaefgcdglpaaGreatDoor.Dir
open Go Go.RowKit Go.Proofs Go.Proofs.YtmgbaefgcdglpaaGreatDoorW.PrintWords Go.Proofs.YtmgbaefgcdglpaaGreatDoorW.PrintLast Go.Proofs.YtmgbaefgcdglpaaGreatDoorW.PrintMore
set_option linter.unusedVariables false
set_option linter.unusedSimpArgs false
theorem src_dev {w : World} {g o n : Nat} {l : List Dev} (h : SrcAt w (some ⟨g, o, none⟩) n 35 (flatD l)) {j : Nat} {d : Dev} (hj : l[j]? = some d) {W : World} (hb : Below w.heap.size w W) :
  (Instr.loadAt 85 (.pointer (some ⟨g, o + j * 35, none⟩))).run Tryz.prog W = .ok (.agg (encD d).toArray) W := load_devS h hb hj
theorem src_bareD {w : World} {a : Addr} {n : Nat} {l : List Dev} (h : SrcAt w (some a) n 35 (flatD l)) (hn : 0 < l.length) : ∃ g o, a = ⟨g, o, none⟩ := by
 have hv : (encD l[0])[0]? = some ((encD l[0])[0]'(by rw [encD_len]; omega)) := List.getElem?_eq_getElem _
 have := h.2.2 a rfl _ _ (flatMap_at encD 35 encD_len l 0 l[0] (List.getElem?_eq_getElem hn) 0 _ hv)
 obtain ⟨b, off, sp⟩ := a
 cases sp with
 | none => exact ⟨b, off, rfl⟩
 | some s =>
  have hn : w.cell? ((⟨b, off, some s⟩ : Addr).add (0 * 35 + 0)) = none := by
   unfold World.cell?
   split
   ·rfl
   ·rfl
  rw [hn] at this
  cases this
structure SrcB (w : World) (B : Book) (A1 : Option Addr) (A2 : Option Addr) : Prop where
 devs : SrcAt w A1 B.devs.length 35 (flatD B.devs)
 spent : SrcAt w A2 B.spent.length 32 (flatK B.spent)
 few : B.devs.length ≤ 4611686018427387904
 len : B.spent.length ≤ 4611686018427387904
theorem SrcB.later {w W : World} {B : Book} {A1 A2 : Option Addr} (h : SrcB w B A1 A2) (hb : Below w.heap.size w W) : SrcB W B A1 A2 := ⟨h.devs.grown hb, h.spent.grown hb, h.few, h.len⟩
theorem SrcB.dev {w : World} {B : Book} {A1 A2 : Option Addr} (h : SrcB w B A1 A2) {j : Nat} {d : Dev} (hd : B.devs[j]? = some d) : ∃ g o, A1 = some ⟨g, o, none⟩ ∧ ∀ W, Below w.heap.size w W → (Instr.loadAt 85 (.pointer (some ⟨g, o + j * 35, none⟩))).run Tryz.prog W = .ok (.agg (encD d).toArray) W := by
 have hlt := (List.getElem?_eq_some_iff.1 hd).1
 obtain ⟨a, hA⟩ : ∃ a, A1 = some a := by
  cases hA : A1 with
  | some a => exact ⟨a, rfl⟩
  | none => exact absurd (h.devs.2.1 hA) (by omega)
 subst hA
 obtain ⟨g, o, rfl⟩ := src_bareD h.devs (by omega)
 exact ⟨g, o, rfl, fun W hb => src_dev h.devs hd hb⟩
theorem SrcB.key {w : World} {B : Book} {A1 A2 : Option Addr} (h : SrcB w B A1 A2) {j : Nat} {d : Key} (hd : B.spent[j]? = some d) : ∃ g o, A2 = some ⟨g, o, none⟩ ∧ ∀ W, Below w.heap.size w W → (Instr.loadAt 28 (.pointer (some ⟨g, o + j * 32, none⟩))).run Tryz.prog W = .ok (.agg (encK d).toArray) W := by
 have hlt := (List.getElem?_eq_some_iff.1 hd).1
 obtain ⟨a, hA⟩ : ∃ a, A2 = some a := by
  cases hA : A2 with
  | some a => exact ⟨a, rfl⟩
  | none => exact absurd (h.spent.2.1 hA) (by omega)
 subst hA
 obtain ⟨g, o, rfl⟩ := src_bare h.spent (by omega)
 exact ⟨g, o, rfl, fun W hb => src_key h.spent hd hb⟩
end Go.Proofs.YtmgbaefgcdglpaaGreatDoor.Dir
/- Books that a directory has are let in; versions. -/
namespace Go.Proofs.YtmgbaefgcdglpaaGreatDoor.Dir
open Go Go.RowKit Go.Proofs Go.Proofs.YtmgbaefgcdglpaaGreatDoorW.PrintWords Go.Proofs.YtmgbaefgcdglpaaGreatDoorW.PrintLast Go.Proofs.YtmgbaefgcdglpaaGreatDoorW.PrintMore
set_option linter.unusedVariables false
set_option linter.unusedSimpArgs false
theorem devsOk_of : ∀ (l : List Dev) (last : Int), (∀ d ∈ l, last < d.node) → l.Pairwise (fun a b => a.node < b.node) → (∀ d ∈ l, 1 ≤ d.node ∧ d.node ≤ 8) → (∀ d ∈ l, 1 ≤ d.exp ∧ d.exp ≤ maxN) → devsOk last l = true
 | [], _, _, _, _, _ => rfl
 | d :: l, last, h0, hp, hn, he => by
  obtain ⟨p1, p2⟩ := List.pairwise_cons.1 hp
  have hd := he d (List.mem_cons_self ..)
  unfold devsOk
  rw [devsOk_of l d.node p1 p2 (fun x hx => hn x (List.mem_cons_of_mem _ hx)) (fun x hx => he x (List.mem_cons_of_mem _ hx))]
  unfold number
  simp only [Bool.and_true, Bool.and_eq_true, decide_eq_true_eq]
  have h1 := h0 d (List.mem_cons_self ..)
  have h2 := hn d (List.mem_cons_self ..)
  exact ⟨⟨⟨h1, h2.2⟩, hd.1⟩, ⟨by omega, hd.2⟩⟩
theorem ok_of {B : Book} (hw : WF B) (ha : rulesOf B.acl = 0) : OkB B where
 ver := decide_eq_true hw.ver
 clock := decide_eq_true hw.clock
 few := hw.few.1
 len := hw.few.2
 devs := devsOk_of _ _ (fun d hd => by have := (hw.nodes d hd).1; omega) hw.devs hw.nodes hw.exps
 acl := ha
 sorted := fun i x y hx hy => by
  obtain ⟨h1, e1⟩ := List.getElem?_eq_some_iff.1 hx
  obtain ⟨h2, e2⟩ := List.getElem?_eq_some_iff.1 hy
  have := List.pairwise_iff_getElem.1 hw.spent i (i + 1) h1 h2 (by omega)
  rw [e1, e2] at this
  exact ltK_asymm this
 apart := fun i x y hx hy e => by
  have hn : (sortL (takenB B)).Nodup := (sortL_perm (takenB B)).nodup_iff.2 hw.keys
  obtain ⟨h1, e1⟩ := List.getElem?_eq_some_iff.1 hx
  obtain ⟨h2, e2⟩ := List.getElem?_eq_some_iff.1 hy
  have := List.pairwise_iff_getElem.1 hn i (i + 1) h1 h2 (by omega)
  rw [e1, e2] at this
  exact this e.symm
 nonzero := hw.nonzero
end Go.Proofs.YtmgbaefgcdglpaaGreatDoor.Dir
end
section
namespace Go.Proofs.YtmgbaefgcdglpaaGreatDoor.Dir
open Go Go.RowKit Go.Proofs Go.Proofs.YtmgbaefgcdglpaaGreatDoorW.PrintWords Go.Proofs.YtmgbaefgcdglpaaGreatDoorW.PrintLast Go.Proofs.YtmgbaefgcdglpaaGreatDoorW.PrintMore
set_option linter.unusedVariables false
set_option linter.unusedSimpArgs false
def row30 (V : Nat → Value) : List Value := (List.range 30).map V
theorem row30_get (V : Nat → Value) (n : Nat) (hn : n < 30) : (row30 V)[n]? = some (V n) := by simp [row30, hn]
structure Arr (w : World) (g : Nat) (T : TypeId) (V : Nat → Value) : Prop where
 at_ : w.heap[g]? = some (.cells (row30 V).toArray T (0, 0))
theorem Arr.cell {w : World} {g : Nat} {T : TypeId} {V : Nat → Value} (h : Arr w g T V) (n : Nat) (hn : n < 30) : w.cell? ⟨g, n, none⟩ = some (V n) := by
 rw [cell_of_heap h.at_]
 exact row30_get V n hn
theorem Arr.lt {w : World} {g : Nat} {T : TypeId} {V : Nat → Value} (h : Arr w g T V) : g < w.heap.size := (Array.getElem?_eq_some_iff.1 h.at_).1
theorem Arr.later {w w' : World} {g : Nat} {T : TypeId} {V : Nat → Value} (h : Arr w g T V) (hb : Below w.heap.size w w') : Arr w' g T V := ⟨(hb.block _ h.lt).trans h.at_⟩
theorem Arr.grown {w w' : World} {g q : Nat} {T : TypeId} {V : Nat → Value} (h : Arr w g T V) (hb : w.grownBy w' (some q)) (hq : g ≠ q) : Arr w' g T V := ⟨(hb.block _ h.lt (fun e => hq (Option.some.inj e))).trans h.at_⟩
theorem Arr.congr {w : World} {g : Nat} {T : TypeId} {V V' : Nat → Value} (h : Arr w g T V) (he : ∀ n, n < 30 → V n = V' n) : Arr w g T V' := by
 refine ⟨?_⟩
 rw [h.at_, show row30 V = row30 V' from List.map_congr_left fun n hn => he n (by simpa using hn)]
theorem DirAt.other {w w' : World} {p : Nat} {B : Book} (h : DirAt w p B) {g : Nat} {cs : Array Value} {T : TypeId} {fr : Nat × Nat} (hg : w.heap[g]? = some (.cells cs T fr)) (h1 : T ≠ 83) (h2 : T ≠ 85) (h3 : T ≠ 28) (hw : w.grownBy w' (some g)) : DirAt w' p B := by
 obtain ⟨A1, c1, A2, c2, q1, q2, q3, q4⟩ := h
 have ne : ∀ {b : Nat} {ds : Array Value} {T' : TypeId} {fr' : Nat × Nat}, w.heap[b]? = some (.cells ds T' fr') → T ≠ T' → b ≠ g := fun hb hT e => by
  subst e
  rw [hg] at hb
  injection hb with hb; injection hb with _ hb
  exact hT hb
 refine ⟨A1, c1, A2, c2, (hw.block _ (Array.getElem?_eq_some_iff.1 q1).1 (fun e => ne q1 h1 (Option.some.inj e))).trans q1, ?_, q3, q4⟩
 refine ListsAt.kept q2 hw ?_ ?_
 ·rcases q2.1.2 with ⟨e, _⟩ | ⟨b, _, _, e, _, hb, _⟩
  ·rw [e]; exact .inl rfl
  ·rw [e]; exact .inr fun e => ne hb h2 (Option.some.inj e)
 ·rcases q2.2.1.2 with ⟨e, _⟩ | ⟨b, _, _, e, _, hb, _⟩
  ·rw [e]; exact .inl rfl
  ·rw [e]; exact .inr fun e => ne hb h3 (Option.some.inj e)
theorem Lists.other {w w' : World} {base : Nat} {B : Book} {A1 A2 : Option Addr} {c1 c2 : Nat} (q2 : Lists w base B A1 c1 A2 c2) {g : Nat} {cs : Array Value} {T : TypeId} {fr : Nat × Nat} (hg : w.heap[g]? = some (.cells cs T fr)) (h2 : T ≠ 85) (h3 : T ≠ 28) (hw : w.grownBy w' (some g)) : Lists w' base B A1 c1 A2 c2 := by
 have ne : ∀ {b : Nat} {ds : Array Value} {T' : TypeId} {fr' : Nat × Nat}, w.heap[b]? = some (.cells ds T' fr') → T ≠ T' → b ≠ g := fun hb hT e => by
  subst e
  rw [hg] at hb
  injection hb with hb; injection hb with _ hb
  exact hT hb
 refine ListsAt.kept q2 hw ?_ ?_
 ·rcases q2.1.2 with ⟨e, _⟩ | ⟨b, _, _, e, _, hb, _⟩
  ·rw [e]; exact .inl rfl
  ·rw [e]; exact .inr fun e => ne hb h2 (Option.some.inj e)
 ·rcases q2.2.1.2 with ⟨e, _⟩ | ⟨b, _, _, e, _, hb, _⟩
  ·rw [e]; exact .inl rfl
  ·rw [e]; exact .inr fun e => ne hb h3 (Option.some.inj e)
theorem DirSt.other {w W W' : World} {p : Nat} {B : Book} (h : DirSt w W p B) {g : Nat} {cs : Array Value} {T : TypeId} {fr : Nat × Nat} (hg : W.heap[g]? = some (.cells cs T fr)) (h1 : T ≠ 83) (h2 : T ≠ 85) (h3 : T ≠ 28) (hn : w.heap.size ≤ g) (hw : W.grownBy W' (some g)) : DirSt w W' p B :=
 ⟨h.at_.other hg h1 h2 h3 hw, h.fr.grown hw h.fr.size (fun k hk => by have : g = k := Option.some.inj hk; omega), h.new, h.wf, h.laid⟩
theorem DirAt.block {w : World} {p : Nat} {B : Book} (h : DirAt w p B) : ∃ cs fr, w.heap[p]? = some (.cells cs 83 fr) := by
 obtain ⟨A1, c1, A2, c2, q1, _⟩ := h
 exact ⟨_, _, q1⟩
theorem block_ne {w : World} {p g : Nat} {cs ds : Array Value} {S T : TypeId} {fr fr' : Nat × Nat} (h1 : w.heap[p]? = some (.cells cs S fr)) (h2 : w.heap[g]? = some (.cells ds T fr')) (h : S ≠ T) : p ≠ g := fun e => by
 subst e
 rw [h1] at h2
 injection h2 with h2; injection h2 with _ h2
 exact h h2
structure BkSt (w : World) (bk : Nat) (B : Book) (A1 : Option Addr) (c1 : Nat) (A2 : Option Addr) (c2 : Nat) : Prop where
 at_ : w.heap[bk]? = some (.cells (bookCells B A1 c1 A2 c2).toArray 25 (0, 0))
 lists : Lists w 0 B A1 c1 A2 c2
section
variable {w w' : World} {bk : Nat} {B : Book} {A1 A2 : Option Addr} {c1 c2 : Nat}
theorem BkSt.lt (h : BkSt w bk B A1 c1 A2 c2) : bk < w.heap.size := (Array.getElem?_eq_some_iff.1 h.at_).1
theorem BkSt.later (h : BkSt w bk B A1 c1 A2 c2) (hb : Below w.heap.size w w') : BkSt w' bk B A1 c1 A2 c2 := ⟨(hb.block _ h.lt).trans h.at_, h.lists.below hb⟩
theorem BkSt.other (h : BkSt w bk B A1 c1 A2 c2) {g : Nat} {cs : Array Value} {T : TypeId} {fr : Nat × Nat} (hg : w.heap[g]? = some (.cells cs T fr)) (h1 : T ≠ 25) (h2 : T ≠ 85) (h3 : T ≠ 28) (hw : w.grownBy w' (some g)) : BkSt w' bk B A1 c1 A2 c2 :=
 ⟨(hw.block _ h.lt (fun e => block_ne h.at_ hg (Ne.symm h1) (Option.some.inj e))).trans h.at_, h.lists.other hg h2 h3 hw⟩
theorem BkSt.dev (h : BkSt w bk B A1 c1 A2 c2) {j : Nat} {d : Dev} (hd : B.devs[j]? = some d) : ∃ g, A1 = some ⟨g, 0, none⟩ ∧ ∀ i v, (encD d)[i]? = some v → w.cell? ⟨g, j * 35 + i, none⟩ = some v := by
 have hlt := (List.getElem?_eq_some_iff.1 hd).1
 obtain ⟨g, rfl⟩ := owned_at h.lists.1 (by omega)
 exact ⟨g, rfl, fun i v hv => row_cell h.lists.1 (Below.refl _ w) (flatMap_at encD 35 encD_len B.devs j d hd i v hv)⟩
theorem BkSt.key (h : BkSt w bk B A1 c1 A2 c2) {j : Nat} {d : Key} (hd : B.spent[j]? = some d) : ∃ g, A2 = some ⟨g, 0, none⟩ ∧ ∀ i v, (encK d)[i]? = some v → w.cell? ⟨g, j * 32 + i, none⟩ = some v := by
 have hlt := (List.getElem?_eq_some_iff.1 hd).1
 obtain ⟨g, rfl⟩ := owned_at h.lists.2.1 (by omega)
 exact ⟨g, rfl, fun i v hv => row_cell h.lists.2.1 (Below.refl _ w) (flatMap_at encK 32 encK_len B.spent j d hd i v hv)⟩
end
end Go.Proofs.YtmgbaefgcdglpaaGreatDoor.Dir
end
section
namespace Go.Proofs.YtmgbaefgcdglpaaGreatDoor.Dir
open Go Go.RowKit Go.Proofs Go.Proofs.YtmgbaefgcdglpaaGreatDoorW.PrintWords Go.Proofs.YtmgbaefgcdglpaaGreatDoorW.PrintLast Go.Proofs.YtmgbaefgcdglpaaGreatDoorW.PrintMore
set_option linter.unusedVariables false
set_option linter.unusedSimpArgs false
theorem DirAt.beside {w w' : World} {p q : Nat} {B : Book} (h : DirAt w q B) {cs : Array Value} {fr : Nat × Nat} (hp : w.heap[p]? = some (.cells cs 83 fr)) (hne : q ≠ p) (hw : w.grownBy w' (some p)) : DirAt w' q B := by
 obtain ⟨A1, c1, A2, c2, q1, q2, q3, q4⟩ := h
 exact ⟨A1, c1, A2, c2, (hw.block _ (Array.getElem?_eq_some_iff.1 q1).1 (fun e => hne (Option.some.inj e))).trans q1, q2.other hp (by decide) (by decide) hw, q3, q4⟩
theorem DirSt.beside {w W W' : World} {p q : Nat} {B C : Book} (h : DirSt w W q C) (hp : DirSt w W p B) (hne : q ≠ p) (hw : W.grownBy W' (some p)) : DirSt w W' q C := by
 obtain ⟨cs, fr, hc⟩ := hp.at_.block
 exact ⟨h.at_.beside hc hne hw, h.fr.grown hw h.fr.size (fun k hk => by have := hp.new; have : p = k := Option.some.inj hk; omega), h.new, h.wf, h.laid⟩
theorem pairwise_of_adj : ∀ (l : List Key), (∀ i x y, l[i]? = some x → l[i + 1]? = some y → ltK x y = true) → l.Pairwise (fun a b => ltK a b = true)
 | [], _ => List.Pairwise.nil
 | [a], _ => List.pairwise_singleton _ a
 | a :: b :: r, h => by
  have ih := pairwise_of_adj (b :: r) (fun i x y hx hy => h (i + 1) x y (by simpa using hx) (by simpa using hy))
  refine List.pairwise_cons.2 ⟨fun c hc => ?_, ih⟩
  have hab := h 0 a b rfl rfl
  rcases List.mem_cons.1 hc with e | e
  ·rw [e]; exact hab
  ·exact ltK_trans hab ((List.pairwise_cons.1 ih).1 c e)
theorem nodup_of_lt {l : List Key} (h : l.Pairwise (fun a b => ltK a b = true)) : l.Nodup := h.imp fun {a b} hab e => by
 subst e
 rw [ltK_irrefl] at hab; cases hab
theorem devsOk_to : ∀ (l : List Dev) (last : Int), devsOk last l = true → (∀ d ∈ l, last < d.node) ∧ l.Pairwise (fun a b => a.node < b.node) ∧ (∀ d ∈ l, d.node ≤ 8) ∧ (∀ d ∈ l, 1 ≤ d.exp ∧ d.exp ≤ maxN)
 | [], _, _ => ⟨by simp, List.Pairwise.nil, by simp, by simp⟩
 | d :: l, last, h => by
  unfold devsOk number at h
  simp only [Bool.and_eq_true, decide_eq_true_eq] at h
  obtain ⟨⟨⟨⟨h1, h2⟩, h3⟩, h4⟩, h5⟩ := h
  obtain ⟨i1, i2, i3, i4⟩ := devsOk_to l d.node h5
  refine ⟨fun x hx => ?_, List.pairwise_cons.2 ⟨i1, i2⟩, fun x hx => ?_, fun x hx => ?_⟩
  ·rcases List.mem_cons.1 hx with e | e
   ·rw [e]; exact h1
   ·have := i1 x e; omega
  ·rcases List.mem_cons.1 hx with e | e
   ·rw [e]; exact h2
   ·exact i3 x e
  ·rcases List.mem_cons.1 hx with e | e
   ·rw [e]; exact ⟨h3, h4.2⟩
   ·exact i4 x e
theorem wf_of_ok {B : Book} (h : OkB B) : WF B := by
 obtain ⟨d1, d2, d3, d4⟩ := devsOk_to _ _ h.devs
 have hs : (sortL (takenB B)).Pairwise (fun a b => ltK a b = true) := pairwise_of_adj _ fun i x y hx hy => by
  obtain ⟨h1, e1⟩ := List.getElem?_eq_some_iff.1 hx
  obtain ⟨h2, e2⟩ := List.getElem?_eq_some_iff.1 hy
  have h3 := List.pairwise_iff_getElem.1 (sortL_sorted (takenB B)) i (i + 1) h1 h2 (by omega)
  rw [e1, e2] at h3
  rcases ltK_tri x y with e | e | e
  ·exact e
  ·exact absurd e.symm (h.apart i x y hx hy)
  ·rw [h3] at e; cases e
 have hn : (takenB B).Nodup := (sortL_perm (takenB B)).nodup_iff.1 (nodup_of_lt hs)
 refine ⟨of_decide_eq_true h.ver, of_decide_eq_true h.clock, d2, fun d hd => ⟨by have := d1 d hd; omega, d3 d hd⟩, d4, pairwise_of_adj _ fun i x y hx hy => ?_, h.len, hn, h.nonzero⟩
 have h3 := h.sorted i x y hx hy
 rcases ltK_tri x y with e | e | e
 ·exact e
 ·exfalso
  obtain ⟨h1, e1⟩ := List.getElem?_eq_some_iff.1 hx
  obtain ⟨h2, e2⟩ := List.getElem?_eq_some_iff.1 hy
  have := List.pairwise_iff_getElem.1 (List.nodup_append.1 hn).1 i (i + 1) h1 h2 (by omega)
  rw [e1, e2] at this
  exact this e
 ·rw [h3] at e; cases e
end Go.Proofs.YtmgbaefgcdglpaaGreatDoor.Dir
end
section
namespace Go.Proofs.YtmgbaefgcdglpaaGreatDoor.Dir
open Go Go.RowKit Go.Proofs Go.Proofs.YtmgbaefgcdglpaaGreatDoorW.PrintWords Go.Proofs.YtmgbaefgcdglpaaGreatDoorW.PrintLast Go.Proofs.YtmgbaefgcdglpaaGreatDoorW.PrintMore
set_option linter.unusedVariables false
set_option linter.unusedSimpArgs false
structure InB (w W : World) (b : Nat) (B : Book) (A1 : Option Addr) (c1 : Nat) (A2 : Option Addr) (c2 : Nat) : Prop where
 fr : Below w.heap.size w W
 bx : W.heap[b]? = some (.cells (bookCells B A1 c1 A2 c2).toArray 25 (0, 0))
 src : SrcB W B A1 A2
section
variable {w W W' : World} {b : Nat} {B : Book} {A1 : Option Addr} {c1 : Nat} {A2 : Option Addr} {c2 : Nat}
theorem InB.start (h : SrcB w B A1 A2) : InB w (w.alloc (.cells (bookCells B A1 c1 A2 c2).toArray 25)) w.heap.size B A1 c1 A2 c2 :=
 ⟨(Below.refl _ w).alloc (Nat.le_refl _) _, heap_alloc_new w _, h.later ((Below.refl _ w).alloc (Nat.le_refl _) _)⟩
theorem InB.later (h : InB w W b B A1 c1 A2 c2) (hb : Below W.heap.size W W') : InB w W' b B A1 c1 A2 c2 :=
 ⟨below_step h.fr hb, (hb.block _ (Array.getElem?_eq_some_iff.1 h.bx).1).trans h.bx, h.src.later hb⟩
theorem InB.base {V : World} (h : InB w W b B A1 c1 A2 c2) (h0 : Below V.heap.size V W) (h1 : Below V.heap.size W W') (hV : InB w V b B A1 c1 A2 c2) : InB w W' b B A1 c1 A2 c2 := hV.later (h0.trans h1)
theorem InB.lt (h : InB w W b B A1 c1 A2 c2) : b < W.heap.size := (Array.getElem?_eq_some_iff.1 h.bx).1
theorem InB.cells (h : InB w W b B A1 c1 A2 c2) : W.cell? ⟨b, 0, none⟩ = some (.int .i64 B.ver) ∧ W.cell? ⟨b, 1, none⟩ = some (.int .i64 B.clock) ∧ W.cell? ⟨b, 2, none⟩ = some (.slice A1 B.devs.length c1) ∧ W.cell? ⟨b, 3, none⟩ = some (.slice A2 B.spent.length c2) ∧ W.cell? ⟨b, 4, none⟩ = some (.string (str B.acl)) := by
 have hq := h.bx
 refine ⟨?_, ?_, ?_, ?_, ?_⟩ <;> (rw [cell_of_heap hq]; rfl)
theorem InB.load (h : InB w W b B A1 c1 A2 c2) : (Instr.loadAt 25 (.pointer (some ⟨b, 0, none⟩))).run Tryz.prog W = .ok (.agg (bookCells B A1 c1 A2 c2).toArray) W :=
 run_loadAtK Tryz.prog W 25 5 Tryz.isAgg25 Tryz.sizeOf25 b 0 (bookCells B A1 c1 A2 c2) rfl (cells_of_heap h.bx)
end
def OwnK (w : World) (base : Nat) (A : Option Addr) (c : Nat) (l : List Key) : Prop := w.ownsRow base 28 32 (.slice A l.length c) l.length (flatK l)
def OwnD (w : World) (base : Nat) (A : Option Addr) (c : Nat) (l : List Dev) : Prop := w.ownsRow base 85 35 (.slice A l.length c) l.length (flatD l)
theorem ownK_nil (w : World) (base : Nat) : OwnK w base none 0 [] := World.ownsRow_nil _ _ _ _
theorem ownD_nil (w : World) (base : Nat) : OwnD w base none 0 [] := World.ownsRow_nil _ _ _ _
theorem OwnK.below {w W : World} {base : Nat} {A : Option Addr} {c : Nat} {l : List Key} (h : OwnK w base A c l) (hb : Below w.heap.size w W) : OwnK W base A c l := pw_own_below h hb
theorem OwnD.below {w W : World} {base : Nat} {A : Option Addr} {c : Nat} {l : List Dev} (h : OwnD w base A c l) (hb : Below w.heap.size w W) : OwnD W base A c l := pw_own_below h hb
theorem OwnK.src {w : World} {base : Nat} {A : Option Addr} {c : Nat} {l : List Key} (h : OwnK w base A c l) : SrcAt w A l.length 32 (flatK l) := by
 obtain ⟨A', c', e, hs, -⟩ := src_owns h
 cases e
 exact hs
theorem OwnD.src {w : World} {base : Nat} {A : Option Addr} {c : Nat} {l : List Dev} (h : OwnD w base A c l) : SrcAt w A l.length 35 (flatD l) := by
 obtain ⟨A', c', e, hs, -⟩ := src_owns h
 cases e
 exact hs
theorem below_own {w w' : World} {base : Nat} {e : TypeId} {size n : Nat} {v : Value} {xs : List Value} (h : w.ownsRow base e size v n xs) (hg : w.grownBy w' v.ownBlock) (hb : base ≤ w.heap.size) : Below base w w' :=
 (Below.refl base w).grown hg hb (fun k hk => own_base h k hk)
def AppT (t e : TypeId) (size bytes : Nat) : Prop := Tryz.prog.underlying t = some (.slice e) ∧ ∃ i z, Tryz.prog.info? e = some i ∧ i.zero = some z ∧ i.size = size ∧ i.bytes = bytes ∧ z.cells.size = size ∧ 0 < size
theorem appT_of {t e : TypeId} {size bytes : Nat} (ht : Tryz.prog.underlying t = some (.slice e)) (hi : (Tryz.prog.info? e).map (fun i => (i.size, i.bytes)) = some (size, bytes)) (hz : ∃ z, ((Tryz.prog.info? e).bind (·.zero)) = some z ∧ z.cells.size = size) (hp : 0 < size) : AppT t e size bytes := by
 obtain ⟨z, hz, hzs⟩ := hz
 obtain ⟨i0, hi0⟩ : ∃ i0, Tryz.prog.info? e = some i0 := by
  cases h : Tryz.prog.info? e with
  | some i => exact ⟨i, rfl⟩
  | none => rw [h] at hi; cases hi
 rw [hi0] at hi hz
 simp only [Option.map_some, Option.some.injEq, Prod.mk.injEq, Option.bind_some] at hi hz
 exact ⟨ht, i0, z, hi0, hz, hi.1, hi.2, hzs, hp⟩
theorem appK : AppT 23 28 32 32 := appT_of Tryz.underlying23 info34 zero34 (by decide)
theorem run_app {t e : TypeId} {size bytes : Nat} (T : AppT t e size bytes) (w : World) (ty : TypeId) (base n c m c2 : Nat) (A A2 : Option Addr) (xs ys : List Value) (hown : w.ownsRow base e size (.slice A n c) n xs) (hs : SrcAt w A2 m size ys) (h1 : ∀ u ∈ ys, u.oneCell' = true) (hsz : (n + m) * bytes ≤ 140737488355328) (hmx : n + m ≤ maxLen) (hb : base ≤ w.heap.size) :
  ∃ A' c' w', (Builtin.append_ #[t, t] ty #[.slice A n c, .slice A2 m c2]).run Tryz.prog w = .ok (.slice A' (n + m) c') w' ∧ w'.ownsRow base e size (.slice A' (n + m) c') (n + m) (xs ++ ys) ∧ w.grownBy w' (Value.slice A n c).ownBlock := by
 obtain ⟨ht, i, z, hi, hz, e1, e2, e3, e4⟩ := T
 cases A2 with
 | some a =>
  obtain ⟨v', w', hr, h2, h3, -⟩ := run_append_own (P := Tryz.prog) w base t ty e i z size bytes ht hi hz e1 e2 e3 e4 (.slice A n c) n xs hown a m c2 ys hs.1 (hs.2.2 a rfl) h1 hmx hsz hb
  obtain ⟨A', c', rfl, -, -⟩ := src_owns h2
  exact ⟨A', c', w', hr, h2, h3⟩
 | none =>
  obtain rfl := hs.2.1 rfl
  have : ys = [] := List.eq_nil_of_length_eq_zero (by simpa using hs.1)
  subst this
  refine ⟨A, c, w, ?_, by simpa using hown, grownBy_refl _ _⟩
  rcases hown.2 with ⟨he, _⟩ | ⟨g, cap, cur, he, _, _, hnc, _⟩
  ·cases he
   simp [Builtin.append_, run_underlying ht, sizeOf, typeInfo, hi, Builtin.lenOf, Builtin.firstCells]
  ·cases he
   simp [Builtin.append_, run_underlying ht, sizeOf, typeInfo, hi, Builtin.lenOf, Builtin.firstCells, hnc, storeCells]
theorem exec_app {t e : TypeId} {size bytes : Nat} (T : AppT t e size bytes) (w : World) (base n c m c2 : Nat) (A A2 : Option Addr) (xs ys : List Value) (hown : w.ownsRow base e size (.slice A n c) n xs) (hs : SrcAt w A2 m size ys) (h1 : ∀ u ∈ ys, u.oneCell' = true) (hsz : (n + m) * bytes ≤ 140737488355328) (hmx : n + m ≤ maxLen) (hb : base ≤ w.heap.size)
  (o : Oper) (s x : Operand) (a : Act) (ho : o.op = .call { callee := .builtin .append, args := #[s, x], argTypes := #[t, t] }) (es : a.eval s = .slice A n c) (ex : a.eval x = .slice A2 m c2) :
  ∃ A' c' w', (execOp a.eval o).run Tryz.prog w = .ok (.value (.slice A' (n + m) c')) w' ∧ w'.ownsRow base e size (.slice A' (n + m) c') (n + m) (xs ++ ys) ∧ w.grownBy w' (Value.slice A n c).ownBlock := by
 obtain ⟨A', c', w', hr, h2, h3⟩ := run_app T w o.type base n c m c2 A A2 xs ys hown hs h1 hsz hmx hb
 refine ⟨A', c', w', ?_, h2, h3⟩
 unfold execOp
 simp only [ho, resolve, invoke, builtin, Sem.run_bind, Sem.run_pure, Result.andThen_ok, List.map_toArray, List.map_cons, List.map_nil, es, ex, hr]
section
variable {w : World} {ops : Array Oper} {rest : List Oper} {o : Oper} {a : Act} {Q : Exit → Act → World → Prop}
theorem wpList_app (hgd : o.guard = none) (s x : Operand) {t e : TypeId} {size bytes : Nat} (T : AppT t e size bytes) (ho : o.op = .call { callee := .builtin .append, args := #[s, x], argTypes := #[t, t] })
  (base n c m c2 : Nat) (A A2 : Option Addr) (xs ys : List Value) (es : a.eval s = .slice A n c) (hown : w.ownsRow base e size (.slice A n c) n xs) (ex : a.eval x = .slice A2 m c2) (hs : SrcAt w A2 m size ys) (h1 : ∀ u ∈ ys, u.oneCell' = true) (hsz : (n + m) * bytes ≤ 140737488355328) (hmx : n + m ≤ maxLen) (hb : base ≤ w.heap.size)
  (h : ∀ A' c' w', w'.ownsRow base e size (.slice A' (n + m) c') (n + m) (xs ++ ys) → w.grownBy w' (Value.slice A n c).ownBlock → wpList Tryz.prog ops Q rest (a.put o.dst (.slice A' (n + m) c')) w') : wpList Tryz.prog ops Q (o :: rest) a w := by
 refine wpList_plain hgd fun K hK => ?_
 obtain ⟨A', c', w', hr, h2, h3⟩ := exec_app T w base n c m c2 A A2 xs ys hown hs h1 hsz hmx hb o s x a ho es ex
 unfold Oper.wp
 rw [hr]
 exact hK _ _ (h A' c' w' h2 h3)
theorem wpList_appK (hgd : o.guard = none) (s x : Operand) (ho : o.op = .call { callee := .builtin .append, args := #[s, x], argTypes := #[23, 23] })
  (base : Nat) (A : Option Addr) (c : Nat) (l : List Key) (es : a.eval s = .slice A l.length c) (hown : OwnK w base A c l) (A2 : Option Addr) (c2 : Nat) (l2 : List Key) (ex : a.eval x = .slice A2 l2.length c2) (hs : SrcAt w A2 l2.length 32 (flatK l2)) (hl : l.length + l2.length ≤ 4398046511104) (hb : base ≤ w.heap.size)
  (h : ∀ A' c' w', OwnK w' base A' c' (l ++ l2) → Below base w w' → w.heap.size ≤ w'.heap.size → wpList Tryz.prog ops Q rest (a.put o.dst (.slice A' (l ++ l2).length c')) w') : wpList Tryz.prog ops Q (o :: rest) a w :=
 wpList_app hgd s x appK ho base l.length c l2.length c2 A A2 (flatK l) (flatK l2) es hown ex hs (flatK_one _) (by omega) (by unfold maxLen; omega) hb fun A' c' w' h2 h3 => by
  have hk : OwnK w' base A' c' (l ++ l2) := by unfold OwnK; rw [flatK_append, List.length_append]; exact h2
  have := h A' c' w' hk (below_own hown h3 hb) h3.size
  rwa [List.length_append] at this
theorem src_new {T : TypeId} {size : Nat} {cs : List Value} {b : Nat} (h : w.heap[b]? = some (.cells cs.toArray T (0, 0))) (hl : cs.length = size) : SrcAt w (some ⟨b, 0, none⟩) 1 size cs :=
 ⟨by omega, fun e => (by cases e), fun a ha j u hj => (by cases ha; rw [add_at, Nat.zero_add, cell_of_heap h]; exact hj)⟩
end
theorem wpList_pushK {w : World} {ops : Array Oper} {rest : List Oper} {o o2 : Oper} {a : Act} {Q : Exit → Act → World → Prop} (hgd : o.guard = none) (hgd2 : o2.guard = none) (x s y : Operand) (ho : o.op = .buildSlice 23 1 #[(0, x)]) (ho2 : o2.op = .call { callee := .builtin .append, args := #[s, y], argTypes := #[23, 23] })
  (k : Key) (ex : a.eval x = .agg (encK k).toArray) (base : Nat) (A : Option Addr) (c n : Nat) (l : List Key) (hown : OwnK w base A c l) (es : (a.put o.dst (.slice (some ⟨w.heap.size, 0, none⟩) 1 1)).eval s = .slice A n c) (hn : l.length = n) (ey : (a.put o.dst (.slice (some ⟨w.heap.size, 0, none⟩) 1 1)).eval y = .slice (some ⟨w.heap.size, 0, none⟩) 1 1) (hl : l.length ≤ 100000000000) (hb : base ≤ w.heap.size)
  (h : ∀ A' c' w', OwnK w' base A' c' (l ++ [k]) → Below base w w' → w.heap.size ≤ w'.heap.size → wpList Tryz.prog ops Q rest ((a.put o.dst (.slice (some ⟨w.heap.size, 0, none⟩) 1 1)).put o2.dst (.slice A' (l ++ [k]).length c')) w') : wpList Tryz.prog ops Q (o :: o2 :: rest) a w := by
 subst hn
 refine wpList_buildSlice1 hgd 23 x ho _ ex _ _ (buildK w k) ?_
 have hbw := (Below.refl w.heap.size w).alloc (Nat.le_refl _) (.cells (encK k).toArray 28)
 refine wpList_appK hgd2 s y ho2 base A c l es (hown.below hbw) (some ⟨w.heap.size, 0, none⟩) 1 [k] ey ?_ (by simp; omega) (Nat.le_trans hb hbw.size) fun A' c' w' h1 h2 h3 => h A' c' w' h1 ((hbw.mono hb).trans h2) (Nat.le_trans hbw.size h3)
 rw [show flatK [k] = encK k by unfold flatK; simp]
 exact src_new (heap_alloc_new w _) (encK_len k)
theorem wpQuiet_loadK {P : Program} {ops : Array Oper} {C : World → Prop} {Q : Act → Prop} {rest : List Oper} {o : Oper} {a : Act} (t : TypeId) (x : Operand) (ho : o.op = .load t x) (p : Value) (hx : a.eval x = p) (v : Value) (hw : Region.wanted o (yielded ops a.tmps) = true)
  (hr : ∀ w, C w → (Instr.loadAt t p).run P w = .ok v w) (h : wpQuiet P ops C Q rest (a.put o.dst v)) : wpQuiet P ops C Q (o :: rest) a :=
 BigFrame.wpQuiet_want hw fun K hK => ⟨v, fun w hc => by unfold Oper.quietAt; rw [execOp_load t x o ho, hx, hr w hc]; exact ⟨rfl, rfl⟩, hK _ h⟩
theorem wpQuiet_callK {P : Program} {ops : Array Oper} {C : World → Prop} {Q : Act → Prop} {rest : List Oper} {o : Oper} {a : Act} {f : FuncId} {fn : Func} {os : Array Operand} {ts : Array TypeId} (hf : P.funcs[f]? = some fn) (hname : (fn.name == "runtime.NumGoroutine") = false) (hb : fn.body.isSome = true) (args : Array Value)
  (hop : o.op = .call { callee := .value (.func f), args := os, argTypes := ts }) (hargs : os.map a.eval = args) (v : Value) (hw : Region.wanted o (yielded ops a.tmps) = true)
  (hr : ∀ w, C w → Calls P f args w fun e w' => e = .returned v ∧ C w') (h : wpQuiet P ops C Q rest (a.put o.dst v)) : wpQuiet P ops C Q (o :: rest) a :=
 BigFrame.wpQuiet_want hw fun K hK => ⟨v, fun w hc => by
  unfold Oper.quietAt
  have he := enters_ hf hname hb args w
  have hx : (execOp a.eval o).run P w = .ok (.enter f args) w := by
   unfold execOp
   simp [hop, resolve, Deferred.ofValue, invoke, Act.eval, hargs, he]
  rw [hx]
  exact ⟨rfl, hr w hc⟩, hK _ h⟩
theorem at_ql {P : Program} {ops : Array Oper} {C : World → Prop} {Q : Act → Prop} {rest : List Oper} {dst : Option Tmp} {ty : TypeId} {pos : String} {after : Array Edge} {g : Option (Nat × Bool)} {a : Act} (t : TypeId) (x : Operand) (h : wpQuiet P ops C Q (⟨dst, .load t x, ty, pos, after, g⟩ :: rest) a) : wpQuiet P ops C Q (⟨dst, .load t x, ty, pos, after, g⟩ :: rest) a := h
theorem at_qc {P : Program} {ops : Array Oper} {C : World → Prop} {Q : Act → Prop} {rest : List Oper} {dst : Option Tmp} {ty : TypeId} {pos : String} {after : Array Edge} {g : Option (Nat × Bool)} {a : Act} (f : FuncId) {os : Array Operand} {ts : Array TypeId} (h : wpQuiet P ops C Q (⟨dst, .call { callee := .value (.func f), args := os, argTypes := ts }, ty, pos, after, g⟩ :: rest) a) : wpQuiet P ops C Q (⟨dst, .call { callee := .value (.func f), args := os, argTypes := ts }, ty, pos, after, g⟩ :: rest) a := h
theorem run_load1 {P : Program} {W : World} (t : TypeId) (hA : ∀ w, (isAgg t).run P w = .ok false w) {b o : Nat} {v : Value} (h : W.cell? ⟨b, o, none⟩ = some v) : (Instr.loadAt t (.pointer (some ⟨b, o, none⟩))).run P W = .ok v W := by
 simp [Instr.loadAt, hA, Instr.sureAddr, h, go_sem]
theorem region_quietC {P : Program} {C : World → Prop} {id : Nat} {Q : Exit → Act → World → Prop} {a : Act} {w : World} {l : List Oper} (hm : P.follows .mixedOrders = true) (hB : Region.lexB .any l.toArray = true) (hC : C w.drew)
  (h : wpQuiet P l.toArray C (fun a' => ∀ w', C w' → Q .normal a' w') l a) : (Code.region id l.toArray true).wp P Q a w :=
 wp_region_quiet hm hB hC (by simpa using h)
end Go.Proofs.YtmgbaefgcdglpaaGreatDoor.Dir
end
section
namespace Go.Proofs.YtmgbaefgcdglpaaGreatDoor.Dir
open Go Go.RowKit Go.Proofs Go.Proofs.YtmgbaefgcdglpaaGreatDoorW.PrintWords Go.Proofs.YtmgbaefgcdglpaaGreatDoorW.PrintLast Go.Proofs.YtmgbaefgcdglpaaGreatDoorW.PrintMore
set_option linter.unusedVariables false
set_option linter.unusedSimpArgs false
end Go.Proofs.YtmgbaefgcdglpaaGreatDoor.Dir
end
section

end
section
namespace Go.Proofs.YtmgbaefgcdglpaaGreatDoor.Dir
open Go Go.RowKit Go.Proofs Go.Proofs.YtmgbaefgcdglpaaGreatDoorW.PrintWords Go.Proofs.YtmgbaefgcdglpaaGreatDoorW.PrintLast Go.Proofs.YtmgbaefgcdglpaaGreatDoorW.PrintMore
set_option linter.unusedVariables false
set_option linter.unusedSimpArgs false
def TyA (W : World) (A : Option Addr) (T : TypeId) : Prop := ∀ a, A = some a → ∃ cs fr, W.heap[a.block]? = some (.cells cs T fr)
theorem TyA.below {W W' : World} {A : Option Addr} {T : TypeId} (h : TyA W A T) (hb : Below W.heap.size W W') : TyA W' A T := fun a ha => by
 obtain ⟨cs, fr, hq⟩ := h a ha
 exact ⟨cs, fr, (hb.block _ (Array.getElem?_eq_some_iff.1 hq).1).trans hq⟩
theorem TyA.setRow {W : World} {A : Option Addr} {T : TypeId} (h : TyA W A T) (g : Nat) (cs : Array Value) : TyA (W.setRow g cs) A T := fun a ha => by
 obtain ⟨cs', fr, hq⟩ := h a ha
 by_cases e : a.block = g
 ·rw [e] at hq ⊢; exact ⟨cs, fr, setRow_heap _ _ _ _ _ _ hq⟩
 ·exact ⟨cs', fr, by rw [setRow_other _ _ _ _ e]; exact hq⟩
theorem own_typed {w : World} {base : Nat} {e : TypeId} {size n c : Nat} {A : Option Addr} {xs : List Value} (h : w.ownsRow base e size (.slice A n c) n xs) : TyA w A e := fun a ha => by
 subst ha
 rcases h.2 with ⟨e, -⟩ | ⟨g, cap, cur, e, hb, hg, -⟩
 ·cases e
 ·cases e; exact ⟨_, _, hg⟩
def NewT (n : Nat) (W : World) (T : TypeId) (A : Option Addr) : Prop := ∀ a, A = some a → n ≤ a.block ∧ ∃ cs fr, W.heap[a.block]? = some (.cells cs T fr)
theorem NewT.ty {n : Nat} {W : World} {T : TypeId} {A : Option Addr} (h : NewT n W T A) : TyA W A T := fun a ha => (h a ha).2
def NewA (n : Nat) (W : World) (T : TypeId) (A A' : Option Addr) : Prop := A' = A ∨ NewT n W T A'
theorem cells5 (B : Book) (A1 : Option Addr) (c1 : Nat) (A2 : Option Addr) (c2 : Nat) : (bookCells B A1 c1 A2 c2).length = 5 := rfl
end Go.Proofs.YtmgbaefgcdglpaaGreatDoor.Dir
end
section
namespace Go.Proofs.YtmgbaefgcdglpaaGreatDoor.Dir
open Go Go.RowKit Go.Proofs Go.Proofs.YtmgbaefgcdglpaaGreatDoorW.PrintWords Go.Proofs.YtmgbaefgcdglpaaGreatDoorW.PrintLast Go.Proofs.YtmgbaefgcdglpaaGreatDoorW.PrintMore
set_option linter.unusedVariables false
set_option linter.unusedSimpArgs false
end Go.Proofs.YtmgbaefgcdglpaaGreatDoor.Dir
end
section
namespace Go.Proofs.YtmgbaefgcdglpaaGreatDoor.Acl
open Go.Lib
end Go.Proofs.YtmgbaefgcdglpaaGreatDoor.Acl
end
section
namespace Go.Proofs.YtmgbaefgcdglpaaGreatDoor.Acl
open Go.Lib Go.RowKit Go.Proofs.YtmgbaefgcdglpaaGreatDoor.PA Go.Proofs.YtmgbaefgcdglpaaGreatDoorW.PrintWords Go.Proofs.YtmgbaefgcdglpaaGreatDoorW.PrintLast Go.Proofs.YtmgbaefgcdglpaaGreatDoorW.PrintMore
end Go.Proofs.YtmgbaefgcdglpaaGreatDoor.Acl
end
