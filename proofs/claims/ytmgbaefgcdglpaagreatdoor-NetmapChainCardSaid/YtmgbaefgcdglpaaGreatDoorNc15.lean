/- The map of ops, and what is looked up there. direct.Check: whether a book may be. The statements' keys and ops. works: the chapter's directory. The document's Same, at two books that read alike. direct.Load; two directories side by side. The document's directory, word by word: what its functions read and write. The document's directory: spend, put. The document’s lines, words, nodes, numbers, port -/
import Derived.Test.YtmgbaefgcdglpaaGreatDoorNc11
import Derived.Test.YtmgbaefgcdglpaaGreatDoorNc14
import Derived.MapKept
import Derived.Test.YtmgbaefgcdglpaaGreatDoorNc12
import Derived.Test.YtmgbaefgcdglpaaGreatDoorNc13
import Derived.Lib.MapLaws
import Derived.Lib.IndexMore
import Derived.Lib.AtoiAllCases
import Derived.Lib.ItoaMem
import Derived.Laws.IdiomStrings
section
namespace Go.Proofs.YtmgbaefgcdglpaaGreatDoor.Dir
open Go Go.MapKept Go.RowKit Go.Proofs Go.Proofs.YtmgbaefgcdglpaaGreatDoorW.PrintWords Go.Proofs.YtmgbaefgcdglpaaGreatDoorW.PrintLast Go.Proofs.YtmgbaefgcdglpaaGreatDoorW.PrintMore
set_option linter.unusedVariables false
set_option linter.unusedSimpArgs false
end Go.Proofs.YtmgbaefgcdglpaaGreatDoor.Dir
/- Apply: an op done. -/
namespace Go.Proofs.YtmgbaefgcdglpaaGreatDoor.Dir
open Go Go.RowKit Go.Proofs Go.Proofs.YtmgbaefgcdglpaaGreatDoorW.PrintWords Go.Proofs.YtmgbaefgcdglpaaGreatDoorW.PrintLast Go.Proofs.YtmgbaefgcdglpaaGreatDoorW.PrintMore
set_option linter.unusedVariables false
set_option linter.unusedSimpArgs false
def rulesOf (t : List UInt8) : Int := (Acl.parseOf t).2
end Go.Proofs.YtmgbaefgcdglpaaGreatDoor.Dir
end
section
namespace Go.Proofs.YtmgbaefgcdglpaaGreatDoor.Dir
open Go Go.RowKit Go.Proofs Go.Proofs.YtmgbaefgcdglpaaGreatDoorW.PrintWords Go.Proofs.YtmgbaefgcdglpaaGreatDoorW.PrintLast Go.Proofs.YtmgbaefgcdglpaaGreatDoorW.PrintMore
set_option linter.unusedVariables false
set_option linter.unusedSimpArgs false
def devsOk : Int → List Dev → Bool
 | _, [] => true
 | last, d :: l => decide (last < d.node) && decide (d.node ≤ 8) && decide (1 ≤ d.exp) && number d.exp && devsOk d.node l
structure OkB (B : Book) : Prop where
 ver : number B.ver = true
 clock : number B.clock = true
 few : B.devs.length ≤ 8
 len : B.spent.length ≤ 64
 devs : devsOk 0 B.devs = true
 acl : rulesOf B.acl = 0
 sorted : SortedL B.spent
 apart : ApartL (sortL (takenB B))
 nonzero : key0 ∉ takenB B
def CheckEnd (B : Book) (e : Ending) : Prop := (e = .returned (.int .i64 0) ∧ OkB B) ∨ (e = .returned (.int .i64 2) ∧ ¬ OkB B)
theorem devsOk_next {l : List Dev} {n : Nat} {d : Dev} {last : Int} (h : l[n]? = some d) : devsOk last (l.drop n) = (decide (last < d.node) && decide (d.node ≤ 8) && decide (1 ≤ d.exp) && number d.exp && devsOk d.node (l.drop (n + 1))) := by
 obtain ⟨hl, e⟩ := List.getElem?_eq_some_iff.1 h
 rw [List.drop_eq_getElem_cons hl, e]
 rfl
theorem key0_least (k : Key) : ltK k key0 = false := by
 rcases ltK_tri k key0 with h | h | h
 ·exfalso
  have h1 : Lib.compareBytes k.1 key0.1 < 0 := of_decide_eq_true h
  have : ∀ (n : Nat) (a : List UInt8), 0 ≤ Lib.compareBytes a (List.replicate n 0) ∨ a.length < n := by
   intro n
   induction n with
   | zero =>
    intro a
    cases a with
    | nil => exact .inl (by simp [Lib.compareBytes])
    | cons b r => exact .inl (by simp [Lib.compareBytes])
   | succ n ih =>
    intro a
    cases a with
    | nil => exact .inr (by simp)
    | cons b r =>
     rw [List.replicate_succ]
     unfold Lib.compareBytes
     rw [if_neg (by rw [UInt8.lt_iff_toNat_lt]; simp)]
     split
     ·exact .inl (by omega)
     ·rcases ih r with h | h
      ·exact .inl h
      ·exact .inr (by simpa using h)
  rcases this 32 k.1 with h2 | h2
  ·exact absurd h1 (by show ¬ Lib.compareBytes k.1 (List.replicate 32 0) < 0; omega)
  ·have := k.2; omega
 ·subst h; exact ltK_irrefl _
 ·exact ltK_asymm h
theorem first_zero (l : List Key) {x : Key} (hx : (sortL l)[0]? = some x) : x = key0 ↔ key0 ∈ l := by
 have hp := sortL_perm l
 constructor
 ·rintro rfl
  exact hp.mem_iff.1 (List.mem_of_getElem? hx)
 ·intro h
  have hs := sortL_sorted l
  cases hl : sortL l with
  | nil => rw [hl] at hx; cases hx
  | cons y r =>
   rw [hl] at hx hs
   simp at hx
   subst hx
   have h0 : key0 ∈ y :: r := by rw [← hl]; exact hp.mem_iff.2 h
   rcases List.mem_cons.1 h0 with e | e
   ·exact e.symm
   ·have h1 := (List.pairwise_cons.1 hs).1 _ e
    rcases ltK_tri key0 y with h2 | h2 | h2
    ·rw [h1] at h2; cases h2
    ·exact h2.symm
    ·rw [key0_least] at h2; cases h2
end Go.Proofs.YtmgbaefgcdglpaaGreatDoor.Dir
end
section
namespace Go.Proofs.YtmgbaefgcdglpaaGreatDoor.Dir
open Go Go.RowKit Go.Proofs Go.Proofs.YtmgbaefgcdglpaaGreatDoorW.PrintWords Go.Proofs.YtmgbaefgcdglpaaGreatDoorW.PrintLast Go.Proofs.YtmgbaefgcdglpaaGreatDoorW.PrintMore
set_option linter.unusedVariables false
set_option linter.unusedSimpArgs false
def keyN (n : Nat) : Key := ⟨1 :: 0 :: 0 :: n.toUInt8 :: List.replicate 28 0, by simp⟩
section
variable {P : Program} {w : World} {ops : Array Oper} {rest : List Oper} {o : Oper} {a : Act} {Q : Exit → Act → World → Prop}
end
end Go.Proofs.YtmgbaefgcdglpaaGreatDoor.Dir
/- The statements' ops, and what is asked for by numbers. -/
namespace Go.Proofs.YtmgbaefgcdglpaaGreatDoor.Dir
open Go Go.RowKit Go.Proofs Go.Proofs.YtmgbaefgcdglpaaGreatDoorW.PrintWords Go.Proofs.YtmgbaefgcdglpaaGreatDoorW.PrintLast Go.Proofs.YtmgbaefgcdglpaaGreatDoorW.PrintMore
set_option linter.unusedVariables false
set_option linter.unusedSimpArgs false
def regOp (node : Int) (k : Nat) (e : Int) : Op := ⟨1, node, keyN k, e, [], 0⟩
def rotOp (node : Int) (k : Nat) (e : Int) : Op := ⟨2, node, keyN k, e, [], 0⟩
def revOp (node : Int) : Op := ⟨3, node, key0, 0, [], 0⟩
def advOp (t : Int) : Op := ⟨5, 0, key0, 0, [], t⟩
structure AskV where
 kind : Int
 node : Int
 key : Int
 at_ : Int
 deriving Inhabited
end Go.Proofs.YtmgbaefgcdglpaaGreatDoor.Dir
/- The statements' own helpers: does, counts. -/
namespace Go.Proofs.YtmgbaefgcdglpaaGreatDoor.Dir
open Go Go.RowKit Go.Proofs Go.Proofs.YtmgbaefgcdglpaaGreatDoorW.PrintWords Go.Proofs.YtmgbaefgcdglpaaGreatDoorW.PrintLast Go.Proofs.YtmgbaefgcdglpaaGreatDoorW.PrintMore
set_option linter.unusedVariables false
set_option linter.unusedSimpArgs false
end Go.Proofs.YtmgbaefgcdglpaaGreatDoor.Dir
end
section
namespace Go.Proofs.YtmgbaefgcdglpaaGreatDoor.Dir
open Go Go.RowKit Go.Proofs Go.Proofs.YtmgbaefgcdglpaaGreatDoorW.PrintWords Go.Proofs.YtmgbaefgcdglpaaGreatDoorW.PrintLast Go.Proofs.YtmgbaefgcdglpaaGreatDoorW.PrintMore
set_option linter.unusedVariables false
set_option linter.unusedSimpArgs false
def wb0 : Book := book0
def wo0 : Op := regOp 1 1 50
def wb1 : Book := applyOf rulesOf wb0 wo0
def wo1 : Op := regOp 1 9 50
def wb2 : Book := applyOf rulesOf wb1 wo1
def wo2 : Op := regOp 2 1 50
def wb3 : Book := applyOf rulesOf wb2 wo2
def wo3 : Op := regOp 2 2 0
def wb4 : Book := applyOf rulesOf wb3 wo3
def wo6 : Op := rotOp 1 3 60
def wb5 : Book := applyOf rulesOf wb4 wo6
def wo7 : Op := regOp 2 1 9
def wb6 : Book := applyOf rulesOf wb5 wo7
def wo10 : Op := revOp 1
def wb7 : Book := applyOf rulesOf wb6 wo10
def wo11 : Op := rotOp 1 4 70
def wb8 : Book := applyOf rulesOf wb7 wo11
def wo13 : Op := regOp 1 4 70
def wb9 : Book := applyOf rulesOf wb8 wo13
def wo15 : Op := advOp 70
def wb10 : Book := applyOf rulesOf wb9 wo15
theorem ws : wb10.spent.length = 2 := by kernel_rfl
end Go.Proofs.YtmgbaefgcdglpaaGreatDoor.Dir
/- Rows of asks, as the walks read them. -/
namespace Go.Proofs.YtmgbaefgcdglpaaGreatDoor.Dir
open Go Go.RowKit Go.Proofs Go.Proofs.YtmgbaefgcdglpaaGreatDoorW.PrintWords Go.Proofs.YtmgbaefgcdglpaaGreatDoorW.PrintLast Go.Proofs.YtmgbaefgcdglpaaGreatDoorW.PrintMore
set_option linter.unusedVariables false
set_option linter.unusedSimpArgs false
end Go.Proofs.YtmgbaefgcdglpaaGreatDoor.Dir
end
section
namespace Go.Proofs.YtmgbaefgcdglpaaGreatDoor.Dir
open Go Go.RowKit Go.Proofs Go.Proofs.YtmgbaefgcdglpaaGreatDoorW.PrintWords Go.Proofs.YtmgbaefgcdglpaaGreatDoorW.PrintLast Go.Proofs.YtmgbaefgcdglpaaGreatDoorW.PrintMore
set_option linter.unusedVariables false
set_option linter.unusedSimpArgs false
theorem src_dev {w : World} {g o n : Nat} {l : List Dev} (h : SrcAt w (some ⟨g, o, none⟩) n 35 (flatD l)) {j : Nat} {d : Dev} (hj : l[j]? = some d) {W : World} (hb : Below w.heap.size w W) :
  (Instr.loadAt 85 (.pointer (some ⟨g, o + j * 35, none⟩))).run Tryz.prog W = .ok (.agg (encD d).toArray) W := load_devS h hb hj
theorem src_bareD {w : World} {a : Addr} {n : Nat} {l : List Dev} (h : SrcAt w (some a) n 35 (flatD l)) (hn : 0 < l.length) : ∃ g o, a = ⟨g, o, none⟩ := by
 have hv : (encD l[0])[0]? = some ((encD l[0])[0]'(by rw [encD_len]; omega)) := List.getElem?_eq_getElem _
 have := h.2.2 a rfl _ _ (flatMap_at encD 35 encD_len l 0 l[0] (List.getElem?_eq_getElem hn) 0 _ hv)
 obtain ⟨b, off, sp⟩ := a
 cases sp with
 | none => exact ⟨b, off, rfl⟩
 | some s =>
  have hn : w.cell? ((⟨b, off, some s⟩ : Addr).add (0 * 35 + 0)) = none := by
   unfold World.cell?
   split
   ·rfl
   ·rfl
  rw [hn] at this
  cases this
structure SrcB (w : World) (B : Book) (A1 : Option Addr) (A2 : Option Addr) : Prop where
 devs : SrcAt w A1 B.devs.length 35 (flatD B.devs)
 spent : SrcAt w A2 B.spent.length 32 (flatK B.spent)
 few : B.devs.length ≤ 4611686018427387904
 len : B.spent.length ≤ 4611686018427387904
theorem SrcB.later {w W : World} {B : Book} {A1 A2 : Option Addr} (h : SrcB w B A1 A2) (hb : Below w.heap.size w W) : SrcB W B A1 A2 := ⟨h.devs.grown hb, h.spent.grown hb, h.few, h.len⟩
theorem SrcB.dev {w : World} {B : Book} {A1 A2 : Option Addr} (h : SrcB w B A1 A2) {j : Nat} {d : Dev} (hd : B.devs[j]? = some d) : ∃ g o, A1 = some ⟨g, o, none⟩ ∧ ∀ W, Below w.heap.size w W → (Instr.loadAt 85 (.pointer (some ⟨g, o + j * 35, none⟩))).run Tryz.prog W = .ok (.agg (encD d).toArray) W := by
 have hlt := (List.getElem?_eq_some_iff.1 hd).1
 obtain ⟨a, hA⟩ : ∃ a, A1 = some a := by
  cases hA : A1 with
  | some a => exact ⟨a, rfl⟩
  | none => exact absurd (h.devs.2.1 hA) (by omega)
 subst hA
 obtain ⟨g, o, rfl⟩ := src_bareD h.devs (by omega)
 exact ⟨g, o, rfl, fun W hb => src_dev h.devs hd hb⟩
end Go.Proofs.YtmgbaefgcdglpaaGreatDoor.Dir
/- Books that a directory has are let in; versions. -/
namespace Go.Proofs.YtmgbaefgcdglpaaGreatDoor.Dir
open Go Go.RowKit Go.Proofs Go.Proofs.YtmgbaefgcdglpaaGreatDoorW.PrintWords Go.Proofs.YtmgbaefgcdglpaaGreatDoorW.PrintLast Go.Proofs.YtmgbaefgcdglpaaGreatDoorW.PrintMore
set_option linter.unusedVariables false
set_option linter.unusedSimpArgs false
theorem devsOk_of : ∀ (l : List Dev) (last : Int), (∀ d ∈ l, last < d.node) → l.Pairwise (fun a b => a.node < b.node) → (∀ d ∈ l, 1 ≤ d.node ∧ d.node ≤ 8) → (∀ d ∈ l, 1 ≤ d.exp ∧ d.exp ≤ maxN) → devsOk last l = true
 | [], _, _, _, _, _ => rfl
 | d :: l, last, h0, hp, hn, he => by
  obtain ⟨p1, p2⟩ := List.pairwise_cons.1 hp
  have hd := he d (List.mem_cons_self ..)
  unfold devsOk
  rw [devsOk_of l d.node p1 p2 (fun x hx => hn x (List.mem_cons_of_mem _ hx)) (fun x hx => he x (List.mem_cons_of_mem _ hx))]
  unfold number
  simp only [Bool.and_true, Bool.and_eq_true, decide_eq_true_eq]
  have h1 := h0 d (List.mem_cons_self ..)
  have h2 := hn d (List.mem_cons_self ..)
  exact ⟨⟨⟨h1, h2.2⟩, hd.1⟩, ⟨by omega, hd.2⟩⟩
theorem ok_of {B : Book} (hw : WF B) (ha : rulesOf B.acl = 0) : OkB B where
 ver := decide_eq_true hw.ver
 clock := decide_eq_true hw.clock
 few := hw.few.1
 len := hw.few.2
 devs := devsOk_of _ _ (fun d hd => by have := (hw.nodes d hd).1; omega) hw.devs hw.nodes hw.exps
 acl := ha
 sorted := fun i x y hx hy => by
  obtain ⟨h1, e1⟩ := List.getElem?_eq_some_iff.1 hx
  obtain ⟨h2, e2⟩ := List.getElem?_eq_some_iff.1 hy
  have := List.pairwise_iff_getElem.1 hw.spent i (i + 1) h1 h2 (by omega)
  rw [e1, e2] at this
  exact ltK_asymm this
 apart := fun i x y hx hy e => by
  have hn : (sortL (takenB B)).Nodup := (sortL_perm (takenB B)).nodup_iff.2 hw.keys
  obtain ⟨h1, e1⟩ := List.getElem?_eq_some_iff.1 hx
  obtain ⟨h2, e2⟩ := List.getElem?_eq_some_iff.1 hy
  have := List.pairwise_iff_getElem.1 hn i (i + 1) h1 h2 (by omega)
  rw [e1, e2] at this
  exact this e.symm
 nonzero := hw.nonzero
end Go.Proofs.YtmgbaefgcdglpaaGreatDoor.Dir
end
section
namespace Go.Proofs.YtmgbaefgcdglpaaGreatDoor.Dir
open Go Go.RowKit Go.Proofs Go.Proofs.YtmgbaefgcdglpaaGreatDoorW.PrintWords Go.Proofs.YtmgbaefgcdglpaaGreatDoorW.PrintLast Go.Proofs.YtmgbaefgcdglpaaGreatDoorW.PrintMore
set_option linter.unusedVariables false
set_option linter.unusedSimpArgs false
theorem pairwise_of_adj : ∀ (l : List Key), (∀ i x y, l[i]? = some x → l[i + 1]? = some y → ltK x y = true) → l.Pairwise (fun a b => ltK a b = true)
 | [], _ => List.Pairwise.nil
 | [a], _ => List.pairwise_singleton _ a
 | a :: b :: r, h => by
  have ih := pairwise_of_adj (b :: r) (fun i x y hx hy => h (i + 1) x y (by simpa using hx) (by simpa using hy))
  refine List.pairwise_cons.2 ⟨fun c hc => ?_, ih⟩
  have hab := h 0 a b rfl rfl
  rcases List.mem_cons.1 hc with e | e
  ·rw [e]; exact hab
  ·exact ltK_trans hab ((List.pairwise_cons.1 ih).1 c e)
theorem nodup_of_lt {l : List Key} (h : l.Pairwise (fun a b => ltK a b = true)) : l.Nodup := h.imp fun {a b} hab e => by
 subst e
 rw [ltK_irrefl] at hab; cases hab
theorem devsOk_to : ∀ (l : List Dev) (last : Int), devsOk last l = true → (∀ d ∈ l, last < d.node) ∧ l.Pairwise (fun a b => a.node < b.node) ∧ (∀ d ∈ l, d.node ≤ 8) ∧ (∀ d ∈ l, 1 ≤ d.exp ∧ d.exp ≤ maxN)
 | [], _, _ => ⟨by simp, List.Pairwise.nil, by simp, by simp⟩
 | d :: l, last, h => by
  unfold devsOk number at h
  simp only [Bool.and_eq_true, decide_eq_true_eq] at h
  obtain ⟨⟨⟨⟨h1, h2⟩, h3⟩, h4⟩, h5⟩ := h
  obtain ⟨i1, i2, i3, i4⟩ := devsOk_to l d.node h5
  refine ⟨fun x hx => ?_, List.pairwise_cons.2 ⟨i1, i2⟩, fun x hx => ?_, fun x hx => ?_⟩
  ·rcases List.mem_cons.1 hx with e | e
   ·rw [e]; exact h1
   ·have := i1 x e; omega
  ·rcases List.mem_cons.1 hx with e | e
   ·rw [e]; exact h2
   ·exact i3 x e
  ·rcases List.mem_cons.1 hx with e | e
   ·rw [e]; exact ⟨h3, h4.2⟩
   ·exact i4 x e
theorem wf_of_ok {B : Book} (h : OkB B) : WF B := by
 obtain ⟨d1, d2, d3, d4⟩ := devsOk_to _ _ h.devs
 have hs : (sortL (takenB B)).Pairwise (fun a b => ltK a b = true) := pairwise_of_adj _ fun i x y hx hy => by
  obtain ⟨h1, e1⟩ := List.getElem?_eq_some_iff.1 hx
  obtain ⟨h2, e2⟩ := List.getElem?_eq_some_iff.1 hy
  have h3 := List.pairwise_iff_getElem.1 (sortL_sorted (takenB B)) i (i + 1) h1 h2 (by omega)
  rw [e1, e2] at h3
  rcases ltK_tri x y with e | e | e
  ·exact e
  ·exact absurd e.symm (h.apart i x y hx hy)
  ·rw [h3] at e; cases e
 have hn : (takenB B).Nodup := (sortL_perm (takenB B)).nodup_iff.1 (nodup_of_lt hs)
 refine ⟨of_decide_eq_true h.ver, of_decide_eq_true h.clock, d2, fun d hd => ⟨by have := d1 d hd; omega, d3 d hd⟩, d4, pairwise_of_adj _ fun i x y hx hy => ?_, h.len, hn, h.nonzero⟩
 have h3 := h.sorted i x y hx hy
 rcases ltK_tri x y with e | e | e
 ·exact e
 ·exfalso
  obtain ⟨h1, e1⟩ := List.getElem?_eq_some_iff.1 hx
  obtain ⟨h2, e2⟩ := List.getElem?_eq_some_iff.1 hy
  have := List.pairwise_iff_getElem.1 (List.nodup_append.1 hn).1 i (i + 1) h1 h2 (by omega)
  rw [e1, e2] at this
  exact this e
 ·rw [h3] at e; cases e
end Go.Proofs.YtmgbaefgcdglpaaGreatDoor.Dir
end
section
namespace Go.Proofs.YtmgbaefgcdglpaaGreatDoor.Dir
open Go Go.RowKit Go.Proofs Go.Proofs.YtmgbaefgcdglpaaGreatDoorW.PrintWords Go.Proofs.YtmgbaefgcdglpaaGreatDoorW.PrintLast Go.Proofs.YtmgbaefgcdglpaaGreatDoorW.PrintMore
set_option linter.unusedVariables false
set_option linter.unusedSimpArgs false
section
variable {w W W' : World} {b : Nat} {B : Book} {A1 : Option Addr} {c1 : Nat} {A2 : Option Addr} {c2 : Nat}
end
def OwnK (w : World) (base : Nat) (A : Option Addr) (c : Nat) (l : List Key) : Prop := w.ownsRow base 28 32 (.slice A l.length c) l.length (flatK l)
def OwnD (w : World) (base : Nat) (A : Option Addr) (c : Nat) (l : List Dev) : Prop := w.ownsRow base 85 35 (.slice A l.length c) l.length (flatD l)
theorem OwnK.below {w W : World} {base : Nat} {A : Option Addr} {c : Nat} {l : List Key} (h : OwnK w base A c l) (hb : Below w.heap.size w W) : OwnK W base A c l := pw_own_below h hb
theorem below_own {w w' : World} {base : Nat} {e : TypeId} {size n : Nat} {v : Value} {xs : List Value} (h : w.ownsRow base e size v n xs) (hg : w.grownBy w' v.ownBlock) (hb : base ≤ w.heap.size) : Below base w w' :=
 (Below.refl base w).grown hg hb (fun k hk => own_base h k hk)
def AppT (t e : TypeId) (size bytes : Nat) : Prop := Tryz.prog.underlying t = some (.slice e) ∧ ∃ i z, Tryz.prog.info? e = some i ∧ i.zero = some z ∧ i.size = size ∧ i.bytes = bytes ∧ z.cells.size = size ∧ 0 < size
theorem appT_of {t e : TypeId} {size bytes : Nat} (ht : Tryz.prog.underlying t = some (.slice e)) (hi : (Tryz.prog.info? e).map (fun i => (i.size, i.bytes)) = some (size, bytes)) (hz : ∃ z, ((Tryz.prog.info? e).bind (·.zero)) = some z ∧ z.cells.size = size) (hp : 0 < size) : AppT t e size bytes := by
 obtain ⟨z, hz, hzs⟩ := hz
 obtain ⟨i0, hi0⟩ : ∃ i0, Tryz.prog.info? e = some i0 := by
  cases h : Tryz.prog.info? e with
  | some i => exact ⟨i, rfl⟩
  | none => rw [h] at hi; cases hi
 rw [hi0] at hi hz
 simp only [Option.map_some, Option.some.injEq, Prod.mk.injEq, Option.bind_some] at hi hz
 exact ⟨ht, i0, z, hi0, hz, hi.1, hi.2, hzs, hp⟩
theorem appK : AppT 23 28 32 32 := appT_of Tryz.underlying23 info34 zero34 (by decide)
theorem run_app {t e : TypeId} {size bytes : Nat} (T : AppT t e size bytes) (w : World) (ty : TypeId) (base n c m c2 : Nat) (A A2 : Option Addr) (xs ys : List Value) (hown : w.ownsRow base e size (.slice A n c) n xs) (hs : SrcAt w A2 m size ys) (h1 : ∀ u ∈ ys, u.oneCell' = true) (hsz : (n + m) * bytes ≤ 140737488355328) (hmx : n + m ≤ maxLen) (hb : base ≤ w.heap.size) :
  ∃ A' c' w', (Builtin.append_ #[t, t] ty #[.slice A n c, .slice A2 m c2]).run Tryz.prog w = .ok (.slice A' (n + m) c') w' ∧ w'.ownsRow base e size (.slice A' (n + m) c') (n + m) (xs ++ ys) ∧ w.grownBy w' (Value.slice A n c).ownBlock := by
 obtain ⟨ht, i, z, hi, hz, e1, e2, e3, e4⟩ := T
 cases A2 with
 | some a =>
  obtain ⟨v', w', hr, h2, h3, -⟩ := run_append_own (P := Tryz.prog) w base t ty e i z size bytes ht hi hz e1 e2 e3 e4 (.slice A n c) n xs hown a m c2 ys hs.1 (hs.2.2 a rfl) h1 hmx hsz hb
  obtain ⟨A', c', rfl, -, -⟩ := src_owns h2
  exact ⟨A', c', w', hr, h2, h3⟩
 | none =>
  obtain rfl := hs.2.1 rfl
  have : ys = [] := List.eq_nil_of_length_eq_zero (by simpa using hs.1)
  subst this
  refine ⟨A, c, w, ?_, by simpa using hown, grownBy_refl _ _⟩
  rcases hown.2 with ⟨he, _⟩ | ⟨g, cap, cur, he, _, _, hnc, _⟩
  ·cases he
   simp [Builtin.append_, run_underlying ht, sizeOf, typeInfo, hi, Builtin.lenOf, Builtin.firstCells]
  ·cases he
   simp [Builtin.append_, run_underlying ht, sizeOf, typeInfo, hi, Builtin.lenOf, Builtin.firstCells, hnc, storeCells]
theorem exec_app {t e : TypeId} {size bytes : Nat} (T : AppT t e size bytes) (w : World) (base n c m c2 : Nat) (A A2 : Option Addr) (xs ys : List Value) (hown : w.ownsRow base e size (.slice A n c) n xs) (hs : SrcAt w A2 m size ys) (h1 : ∀ u ∈ ys, u.oneCell' = true) (hsz : (n + m) * bytes ≤ 140737488355328) (hmx : n + m ≤ maxLen) (hb : base ≤ w.heap.size)
  (o : Oper) (s x : Operand) (a : Act) (ho : o.op = .call { callee := .builtin .append, args := #[s, x], argTypes := #[t, t] }) (es : a.eval s = .slice A n c) (ex : a.eval x = .slice A2 m c2) :
  ∃ A' c' w', (execOp a.eval o).run Tryz.prog w = .ok (.value (.slice A' (n + m) c')) w' ∧ w'.ownsRow base e size (.slice A' (n + m) c') (n + m) (xs ++ ys) ∧ w.grownBy w' (Value.slice A n c).ownBlock := by
 obtain ⟨A', c', w', hr, h2, h3⟩ := run_app T w o.type base n c m c2 A A2 xs ys hown hs h1 hsz hmx hb
 refine ⟨A', c', w', ?_, h2, h3⟩
 unfold execOp
 simp only [ho, resolve, invoke, builtin, Sem.run_bind, Sem.run_pure, Result.andThen_ok, List.map_toArray, List.map_cons, List.map_nil, es, ex, hr]
section
variable {w : World} {ops : Array Oper} {rest : List Oper} {o : Oper} {a : Act} {Q : Exit → Act → World → Prop}
theorem wpList_app (hgd : o.guard = none) (s x : Operand) {t e : TypeId} {size bytes : Nat} (T : AppT t e size bytes) (ho : o.op = .call { callee := .builtin .append, args := #[s, x], argTypes := #[t, t] })
  (base n c m c2 : Nat) (A A2 : Option Addr) (xs ys : List Value) (es : a.eval s = .slice A n c) (hown : w.ownsRow base e size (.slice A n c) n xs) (ex : a.eval x = .slice A2 m c2) (hs : SrcAt w A2 m size ys) (h1 : ∀ u ∈ ys, u.oneCell' = true) (hsz : (n + m) * bytes ≤ 140737488355328) (hmx : n + m ≤ maxLen) (hb : base ≤ w.heap.size)
  (h : ∀ A' c' w', w'.ownsRow base e size (.slice A' (n + m) c') (n + m) (xs ++ ys) → w.grownBy w' (Value.slice A n c).ownBlock → wpList Tryz.prog ops Q rest (a.put o.dst (.slice A' (n + m) c')) w') : wpList Tryz.prog ops Q (o :: rest) a w := by
 refine wpList_plain hgd fun K hK => ?_
 obtain ⟨A', c', w', hr, h2, h3⟩ := exec_app T w base n c m c2 A A2 xs ys hown hs h1 hsz hmx hb o s x a ho es ex
 unfold Oper.wp
 rw [hr]
 exact hK _ _ (h A' c' w' h2 h3)
theorem wpList_appK (hgd : o.guard = none) (s x : Operand) (ho : o.op = .call { callee := .builtin .append, args := #[s, x], argTypes := #[23, 23] })
  (base : Nat) (A : Option Addr) (c : Nat) (l : List Key) (es : a.eval s = .slice A l.length c) (hown : OwnK w base A c l) (A2 : Option Addr) (c2 : Nat) (l2 : List Key) (ex : a.eval x = .slice A2 l2.length c2) (hs : SrcAt w A2 l2.length 32 (flatK l2)) (hl : l.length + l2.length ≤ 4398046511104) (hb : base ≤ w.heap.size)
  (h : ∀ A' c' w', OwnK w' base A' c' (l ++ l2) → Below base w w' → w.heap.size ≤ w'.heap.size → wpList Tryz.prog ops Q rest (a.put o.dst (.slice A' (l ++ l2).length c')) w') : wpList Tryz.prog ops Q (o :: rest) a w :=
 wpList_app hgd s x appK ho base l.length c l2.length c2 A A2 (flatK l) (flatK l2) es hown ex hs (flatK_one _) (by omega) (by unfold maxLen; omega) hb fun A' c' w' h2 h3 => by
  have hk : OwnK w' base A' c' (l ++ l2) := by unfold OwnK; rw [flatK_append, List.length_append]; exact h2
  have := h A' c' w' hk (below_own hown h3 hb) h3.size
  rwa [List.length_append] at this
theorem src_new {T : TypeId} {size : Nat} {cs : List Value} {b : Nat} (h : w.heap[b]? = some (.cells cs.toArray T (0, 0))) (hl : cs.length = size) : SrcAt w (some ⟨b, 0, none⟩) 1 size cs :=
 ⟨by omega, fun e => (by cases e), fun a ha j u hj => (by cases ha; rw [add_at, Nat.zero_add, cell_of_heap h]; exact hj)⟩
end
theorem wpList_pushK {w : World} {ops : Array Oper} {rest : List Oper} {o o2 : Oper} {a : Act} {Q : Exit → Act → World → Prop} (hgd : o.guard = none) (hgd2 : o2.guard = none) (x s y : Operand) (ho : o.op = .buildSlice 23 1 #[(0, x)]) (ho2 : o2.op = .call { callee := .builtin .append, args := #[s, y], argTypes := #[23, 23] })
  (k : Key) (ex : a.eval x = .agg (encK k).toArray) (base : Nat) (A : Option Addr) (c n : Nat) (l : List Key) (hown : OwnK w base A c l) (es : (a.put o.dst (.slice (some ⟨w.heap.size, 0, none⟩) 1 1)).eval s = .slice A n c) (hn : l.length = n) (ey : (a.put o.dst (.slice (some ⟨w.heap.size, 0, none⟩) 1 1)).eval y = .slice (some ⟨w.heap.size, 0, none⟩) 1 1) (hl : l.length ≤ 100000000000) (hb : base ≤ w.heap.size)
  (h : ∀ A' c' w', OwnK w' base A' c' (l ++ [k]) → Below base w w' → w.heap.size ≤ w'.heap.size → wpList Tryz.prog ops Q rest ((a.put o.dst (.slice (some ⟨w.heap.size, 0, none⟩) 1 1)).put o2.dst (.slice A' (l ++ [k]).length c')) w') : wpList Tryz.prog ops Q (o :: o2 :: rest) a w := by
 subst hn
 refine wpList_buildSlice1 hgd 23 x ho _ ex _ _ (buildK w k) ?_
 have hbw := (Below.refl w.heap.size w).alloc (Nat.le_refl _) (.cells (encK k).toArray 28)
 refine wpList_appK hgd2 s y ho2 base A c l es (hown.below hbw) (some ⟨w.heap.size, 0, none⟩) 1 [k] ey ?_ (by simp; omega) (Nat.le_trans hb hbw.size) fun A' c' w' h1 h2 h3 => h A' c' w' h1 ((hbw.mono hb).trans h2) (Nat.le_trans hbw.size h3)
 rw [show flatK [k] = encK k by unfold flatK; simp]
 exact src_new (heap_alloc_new w _) (encK_len k)
theorem wpQuiet_loadK {P : Program} {ops : Array Oper} {C : World → Prop} {Q : Act → Prop} {rest : List Oper} {o : Oper} {a : Act} (t : TypeId) (x : Operand) (ho : o.op = .load t x) (p : Value) (hx : a.eval x = p) (v : Value) (hw : Region.wanted o (yielded ops a.tmps) = true)
  (hr : ∀ w, C w → (Instr.loadAt t p).run P w = .ok v w) (h : wpQuiet P ops C Q rest (a.put o.dst v)) : wpQuiet P ops C Q (o :: rest) a :=
 BigFrame.wpQuiet_want hw fun K hK => ⟨v, fun w hc => by unfold Oper.quietAt; rw [execOp_load t x o ho, hx, hr w hc]; exact ⟨rfl, rfl⟩, hK _ h⟩
theorem wpQuiet_callK {P : Program} {ops : Array Oper} {C : World → Prop} {Q : Act → Prop} {rest : List Oper} {o : Oper} {a : Act} {f : FuncId} {fn : Func} {os : Array Operand} {ts : Array TypeId} (hf : P.funcs[f]? = some fn) (hname : (fn.name == "runtime.NumGoroutine") = false) (hb : fn.body.isSome = true) (args : Array Value)
  (hop : o.op = .call { callee := .value (.func f), args := os, argTypes := ts }) (hargs : os.map a.eval = args) (v : Value) (hw : Region.wanted o (yielded ops a.tmps) = true)
  (hr : ∀ w, C w → Calls P f args w fun e w' => e = .returned v ∧ C w') (h : wpQuiet P ops C Q rest (a.put o.dst v)) : wpQuiet P ops C Q (o :: rest) a :=
 BigFrame.wpQuiet_want hw fun K hK => ⟨v, fun w hc => by
  unfold Oper.quietAt
  have he := enters_ hf hname hb args w
  have hx : (execOp a.eval o).run P w = .ok (.enter f args) w := by
   unfold execOp
   simp [hop, resolve, Deferred.ofValue, invoke, Act.eval, hargs, he]
  rw [hx]
  exact ⟨rfl, hr w hc⟩, hK _ h⟩
theorem at_ql {P : Program} {ops : Array Oper} {C : World → Prop} {Q : Act → Prop} {rest : List Oper} {dst : Option Tmp} {ty : TypeId} {pos : String} {after : Array Edge} {g : Option (Nat × Bool)} {a : Act} (t : TypeId) (x : Operand) (h : wpQuiet P ops C Q (⟨dst, .load t x, ty, pos, after, g⟩ :: rest) a) : wpQuiet P ops C Q (⟨dst, .load t x, ty, pos, after, g⟩ :: rest) a := h
theorem at_qc {P : Program} {ops : Array Oper} {C : World → Prop} {Q : Act → Prop} {rest : List Oper} {dst : Option Tmp} {ty : TypeId} {pos : String} {after : Array Edge} {g : Option (Nat × Bool)} {a : Act} (f : FuncId) {os : Array Operand} {ts : Array TypeId} (h : wpQuiet P ops C Q (⟨dst, .call { callee := .value (.func f), args := os, argTypes := ts }, ty, pos, after, g⟩ :: rest) a) : wpQuiet P ops C Q (⟨dst, .call { callee := .value (.func f), args := os, argTypes := ts }, ty, pos, after, g⟩ :: rest) a := h
theorem run_load1 {P : Program} {W : World} (t : TypeId) (hA : ∀ w, (isAgg t).run P w = .ok false w) {b o : Nat} {v : Value} (h : W.cell? ⟨b, o, none⟩ = some v) : (Instr.loadAt t (.pointer (some ⟨b, o, none⟩))).run P W = .ok v W := by
 simp [Instr.loadAt, hA, Instr.sureAddr, h, go_sem]
theorem region_quietC {P : Program} {C : World → Prop} {id : Nat} {Q : Exit → Act → World → Prop} {a : Act} {w : World} {l : List Oper} (hm : P.follows .mixedOrders = true) (hB : Region.lexB .any l.toArray = true) (hC : C w.drew)
  (h : wpQuiet P l.toArray C (fun a' => ∀ w', C w' → Q .normal a' w') l a) : (Code.region id l.toArray true).wp P Q a w :=
 wp_region_quiet hm hB hC (by simpa using h)
end Go.Proofs.YtmgbaefgcdglpaaGreatDoor.Dir
end
section
namespace Go.Proofs.YtmgbaefgcdglpaaGreatDoor.Dir
open Go Go.RowKit Go.Proofs Go.Proofs.YtmgbaefgcdglpaaGreatDoorW.PrintWords Go.Proofs.YtmgbaefgcdglpaaGreatDoorW.PrintLast Go.Proofs.YtmgbaefgcdglpaaGreatDoorW.PrintMore
set_option linter.unusedVariables false
set_option linter.unusedSimpArgs false
def TyA (W : World) (A : Option Addr) (T : TypeId) : Prop := ∀ a, A = some a → ∃ cs fr, W.heap[a.block]? = some (.cells cs T fr)
theorem own_typed {w : World} {base : Nat} {e : TypeId} {size n c : Nat} {A : Option Addr} {xs : List Value} (h : w.ownsRow base e size (.slice A n c) n xs) : TyA w A e := fun a ha => by
 subst ha
 rcases h.2 with ⟨e, -⟩ | ⟨g, cap, cur, e, hb, hg, -⟩
 ·cases e
 ·cases e; exact ⟨_, _, hg⟩
theorem cells5 (B : Book) (A1 : Option Addr) (c1 : Nat) (A2 : Option Addr) (c2 : Nat) : (bookCells B A1 c1 A2 c2).length = 5 := rfl
end Go.Proofs.YtmgbaefgcdglpaaGreatDoor.Dir
end
section
namespace Go.Proofs.YtmgbaefgcdglpaaGreatDoor.PA
open Go.RowKit Go.Proofs.YtmgbaefgcdglpaaGreatDoorW.PrintWords Go.Proofs.YtmgbaefgcdglpaaGreatDoorW.PrintLast Go.Proofs.YtmgbaefgcdglpaaGreatDoorW.PrintMore
attribute [local go_sem] max2_int min2_int max_two min_two max_three min_three max_four min_four   -- for this text's walks alone
set_option linter.unusedVariables false
set_option linter.unusedSimpArgs false
mutual
def causewayref20_words.l0 : Nat → ByteArray → List ByteArray → Int → Int → Option (List ByteArray)
 | 0, _, _, _, _ => none
 | k + 1, x0, x3, x4, x5 => if x5 ≤ (x0.size : Int) then (if x5 = (x0.size : Int) then (causewayref20_words.j1 k x0 x3 x4 x5 true) else (if 0 ≤ x5 then (if x5 < (x0.size : Int) then (causewayref20_words.j1 k x0 x3 x4 x5 ((bt x0 x5) == 32)) else (none)) else (none))) else (some x3)
def causewayref20_words.j1 : Nat → ByteArray → List ByteArray → Int → Int → Bool → Option (List ByteArray)
 | 0, _, _, _, _, _ => none
 | k + 1, x0, x3, x4, x5, x21 => if x21 = true then (if x5 > x4 then (if 0 ≤ x4 then (if x4 ≤ x5 then (if x5 ≤ (x0.size : Int) then (if x3.length < 8796093022208 then (causewayref20_words.l0 k x0 (x3 ++ [x0.extract (x4 : Int).toNat (x5 : Int).toNat]) (wrap64 (x5 + 1)) (wrap64 (x5 + 1))) else (none)) else (none)) else (none)) else (none)) else (causewayref20_words.l0 k x0 x3 (wrap64 (x5 + 1)) (wrap64 (x5 + 1)))) else (causewayref20_words.l0 k x0 x3 x4 (wrap64 (x5 + 1)))
end
def causewayref20_words.f (k : Nat) (a0 : ByteArray) : Option (List ByteArray) := causewayref20_words.l0 k a0 ([] : List ByteArray) 0 0
def causewayref20_nodes.l0 : Nat → ByteArray → Int → Int → Option (Int × Bool)
 | 0, _, _, _ => none
 | k + 1, x0, x4, x5 => if x5 < (x0.size : Int) then (if (Int.tmod x5 2) = 1 then (if 0 ≤ x5 then (if (bt x0 x5) = 44 then (causewayref20_nodes.l0 k x0 x4 (wrap64 (x5 + 1))) else (some (0, false))) else (none)) else (if 0 ≤ x5 then (if (wrap64 ((wrap64 (bt x0 x5)) - 48)) < 1 then (some (0, false)) else (if (wrap64 ((wrap64 (bt x0 x5)) - 48)) > 8 then (some (0, false)) else (if 0 ≤ (wrap64 ((wrap64 (bt x0 x5)) - 48)) then (if (Int.tmod (shr .i64 x4 (wrap64 ((wrap64 (bt x0 x5)) - 48))) 2) = 1 then (some (0, false)) else (causewayref20_nodes.l0 k x0 (wrap64 (x4 + (shl .i64 1 (wrap64 ((wrap64 (bt x0 x5)) - 48))))) (wrap64 (x5 + 1)))) else (none)))) else (none))) else (some (x4, (((x0.size : Int) % 2) == 1)))
def causewayref20_nodes.f (k : Nat) (a0 : ByteArray) : Option (Int × Bool) := if a0.toList = ([42] : List UInt8) then (some (510, true)) else (causewayref20_nodes.l0 k a0 0 0)
mutual
def causewayref20_number.j0 : Nat → ByteArray → Bool → Option (Int × Bool)
 | 0, _, _ => none
 | k + 1, x0, x22 => if x22 = true then (some (0, false)) else (causewayref20_number.l0 k x0 0 0)
def causewayref20_number.l0 : Nat → ByteArray → Int → Int → Option (Int × Bool)
 | 0, _, _, _ => none
 | k + 1, x0, x4, x5 => if x5 < (x0.size : Int) then (if 0 ≤ x5 then (if (bt x0 x5) < 48 then (some (0, false)) else (if (bt x0 x5) > 57 then (some (0, false)) else (causewayref20_number.l0 k x0 (wrap64 ((wrap64 (x4 * 10)) + (((bt x0 x5) - 48) % 256))) (wrap64 (x5 + 1))))) else (none)) else (some (x4, decide (x4 ≤ 65535)))
end
def causewayref20_number.f (k : Nat) (a0 : ByteArray) : Option (Int × Bool) := if a0.toList = ([] : List UInt8) then (causewayref20_number.j0 k a0 true) else (if (a0.size : Int) > 5 then (causewayref20_number.j0 k a0 true) else (if (a0.size : Int) > 1 then (if 0 < (a0.size : Int) then (causewayref20_number.j0 k a0 ((bt a0 0) == 48)) else (none)) else (causewayref20_number.j0 k a0 false)))
def causewayref20_ports.l0 : Nat → ByteArray → Int → Option (Int × Int × Bool)
 | 0, _, _ => none
 | k + 1, x0, x5 => if x5 < (x0.size : Int) then (if 0 ≤ x5 then (if (bt x0 x5) = 45 then (if x5 ≤ (x0.size : Int) then ((causewayref20_number.f k (x0.extract 0 (x5 : Int).toNat)).bind fun bt152 => (if 0 ≤ (wrap64 (x5 + 1)) then (if (wrap64 (x5 + 1)) ≤ (x0.size : Int) then ((causewayref20_number.f k (x0.extract ((wrap64 (x5 + 1)) : Int).toNat x0.size)).bind fun bt154 => (if bt152.2 = true then (if bt154.2 = true then (some (bt152.1, bt154.1, decide (bt152.1 ≤ bt154.1))) else (some (bt152.1, bt154.1, false))) else (some (bt152.1, bt154.1, false)))) else (none)) else (none))) else (none)) else (causewayref20_ports.l0 k x0 (wrap64 (x5 + 1)))) else (none)) else ((causewayref20_number.f k x0).bind fun bt150 => (some (bt150.1, bt150.1, bt150.2)))
def causewayref20_ports.f (k : Nat) (a0 : ByteArray) : Option (Int × Int × Bool) := if a0.toList = ([42] : List UInt8) then (some (0, 65535, true)) else (causewayref20_ports.l0 k a0 0)
end Go.Proofs.YtmgbaefgcdglpaaGreatDoor.PA
end
section
namespace Go.Proofs.YtmgbaefgcdglpaaGreatDoor.PA
open Go.RowKit Go.Proofs.YtmgbaefgcdglpaaGreatDoorW.PrintWords Go.Proofs.YtmgbaefgcdglpaaGreatDoorW.PrintLast Go.Proofs.YtmgbaefgcdglpaaGreatDoorW.PrintMore
attribute [local go_sem] max2_int min2_int max_two min_two max_three min_three max_four min_four   -- for this text's walks alone
set_option linter.unusedVariables false
set_option linter.unusedSimpArgs false
def causewayref20_rule.j0 : Nat → List ByteArray → Bool → Option (Bool × Int × Int × Int × Int × Bool)
 | 0, _, _ => none
 | k + 1, x0, x31 => if x31 = true then (some (false, 0, 0, 0, 0, false)) else (if 1 < (x0.length : Int) then ((causewayref20_nodes.f k (rdOf ByteArray.empty x0 1)).bind fun bt162 => (if 3 < (x0.length : Int) then ((causewayref20_nodes.f k (rdOf ByteArray.empty x0 3)).bind fun bt165 => (if 4 < (x0.length : Int) then ((causewayref20_ports.f k (rdOf ByteArray.empty x0 4)).bind fun bt168 => (if 0 < (x0.length : Int) then (if bt162.2 = true then (if bt165.2 = true then (some (((rdOf ByteArray.empty x0 0).toList == ([97, 108, 108, 111, 119] : List UInt8)), bt162.1, bt165.1, bt168.1, bt168.2.1, bt168.2.2)) else (some (((rdOf ByteArray.empty x0 0).toList == ([97, 108, 108, 111, 119] : List UInt8)), bt162.1, bt165.1, bt168.1, bt168.2.1, false))) else (some (((rdOf ByteArray.empty x0 0).toList == ([97, 108, 108, 111, 119] : List UInt8)), bt162.1, bt165.1, bt168.1, bt168.2.1, false))) else (none))) else (none))) else (none))) else (none))
def causewayref20_rule.f (k : Nat) (l0 : List ByteArray) : Option (Bool × Int × Int × Int × Int × Bool) := if (l0.length : Int) = 5 then (if 0 < (l0.length : Int) then (if (rdOf ByteArray.empty l0 0).toList = ([97, 108, 108, 111, 119] : List UInt8) then (if 2 < (l0.length : Int) then (causewayref20_rule.j0 k l0 ((rdOf ByteArray.empty l0 2).toList != ([62] : List UInt8))) else (none)) else (if (rdOf ByteArray.empty l0 0).toList = ([100, 101, 110, 121] : List UInt8) then (if 2 < (l0.length : Int) then (causewayref20_rule.j0 k l0 ((rdOf ByteArray.empty l0 2).toList != ([62] : List UInt8))) else (none)) else (causewayref20_rule.j0 k l0 true))) else (none)) else (causewayref20_rule.j0 k l0 true)
mutual
def causewayref20_Parse.l0 : Nat → List (S96) → List ByteArray → Int → Option ((List (S96)) × Int)
 | 0, _, _, _ => none
 | k + 1, x4, x5, x6 => if x6 < (x5.length : Int) then (if 0 ≤ x6 then ((causewayref20_words.f k (rdOf ByteArray.empty x5 x6)).bind fun t176 => (if (t176.length : Int) = 0 then (causewayref20_Parse.j1 k x4 x5 x6 t176 true) else (if 0 < (t176.length : Int) then (if 0 < ((rdOf ByteArray.empty t176 0).size : Int) then (causewayref20_Parse.j1 k x4 x5 x6 t176 ((bt (rdOf ByteArray.empty t176 0) 0) == 35)) else (none)) else (none)))) else (none)) else (some (x4, 0))
def causewayref20_Parse.j1 : Nat → List (S96) → List ByteArray → Int → List ByteArray → Bool → Option ((List (S96)) × Int)
 | 0, _, _, _, _, _ => none
 | k + 1, x4, x5, x6, x7, x35 => if x35 = true then (causewayref20_Parse.l0 k x4 x5 (wrap64 (x6 + 1))) else ((causewayref20_rule.f k x7).bind fun bt180 => (if bt180.2.2.2.2.2 = true then (if (x4.length : Int) = 32 then (some (([] : List (S96)), 5)) else (if x4.length < 3518437208883 then (causewayref20_Parse.l0 k (x4 ++ [(⟨bt180.1, bt180.2.1, bt180.2.2.1, bt180.2.2.2.1, bt180.2.2.2.2.1⟩ : S96)]) x5 (wrap64 (x6 + 1))) else (none))) else (some (([] : List (S96)), 210))))
end
end Go.Proofs.YtmgbaefgcdglpaaGreatDoor.PA
end
section
namespace Go.Proofs.YtmgbaefgcdglpaaGreatDoor.Dir
open Go Go.RowKit Go.Proofs Go.Proofs.YtmgbaefgcdglpaaGreatDoorW.PrintWords Go.Proofs.YtmgbaefgcdglpaaGreatDoorW.PrintLast Go.Proofs.YtmgbaefgcdglpaaGreatDoorW.PrintMore
set_option linter.unusedVariables false
set_option linter.unusedSimpArgs false
def MayB (B : Book) : Prop := WF B ∧ rulesOf B.acl = 0
end Go.Proofs.YtmgbaefgcdglpaaGreatDoor.Dir
end
section
namespace Go.Proofs.YtmgbaefgcdglpaaGreatDoor.Dir
open Go Go.RowKit Go.Proofs Go.Proofs.YtmgbaefgcdglpaaGreatDoorW.PrintWords Go.Proofs.YtmgbaefgcdglpaaGreatDoorW.PrintLast Go.Proofs.YtmgbaefgcdglpaaGreatDoorW.PrintMore
set_option linter.unusedVariables false
set_option linter.unusedSimpArgs false
theorem store_full (W : World) (T : TypeId) (n r : Nat) (hT : ∀ w, (Go.sizeOf T).run Tryz.prog w = .ok n w) (cs0 xs : List Value) (h : W.heap[r]? = some (.cells cs0.toArray T (0, 0))) (h5 : cs0.length = n) (hx : xs.length = n) (h1 : ∀ u ∈ xs, u.oneCell' = true) :
  (Instr.storeAt T (.pointer (some ⟨r, 0, none⟩)) (.agg xs.toArray)).run Tryz.prog W = .ok () (W.setRow r xs.toArray) := by
 have := run_storeAtK Tryz.prog W T n hT r 0 xs hx h1 cs0 T h (by omega)
 rw [this]
 have e : splice cs0 0 xs = xs := by
  unfold splice
  rw [List.take_zero, List.nil_append, List.drop_eq_nil_of_le (by omega), List.append_nil]
 rw [e]
end Go.Proofs.YtmgbaefgcdglpaaGreatDoor.Dir
end
section
namespace Go.Proofs.YtmgbaefgcdglpaaGreatDoor.Dir
open Go Go.RowKit Go.Proofs Go.Proofs.YtmgbaefgcdglpaaGreatDoorW.PrintWords Go.Proofs.YtmgbaefgcdglpaaGreatDoorW.PrintLast Go.Proofs.YtmgbaefgcdglpaaGreatDoorW.PrintMore
set_option linter.unusedVariables false
set_option linter.unusedSimpArgs false
theorem and_one (n : Int) : bits .and .i64 n 1 = n % 2 := by
 have h1 : (BitVec.ofInt 64 1).toNat = 2 ^ 1 - 1 := by decide
 have key : (BitVec.ofInt 64 n &&& BitVec.ofInt 64 1).toNat = (n % ((2 ^ 64 : Nat) : Int)).toNat % 2 ^ 1 := by
  rw [BitVec.toNat_and, BitVec.toNat_ofInt, h1, Nat.and_two_pow_sub_one_eq_mod]
 show IntKind.i64.wrap ((BitVec.ofInt 64 n &&& BitVec.ofInt 64 1).toNat : Nat) = n % 2
 rw [key, IntKind.wrap_i64]
 omega
end Go.Proofs.YtmgbaefgcdglpaaGreatDoor.Dir
end
section
namespace Go.Proofs.YtmgbaefgcdglpaaGreatDoor.Dir
open Go Go.RowKit Go.Proofs Go.Proofs.YtmgbaefgcdglpaaGreatDoorW.PrintWords Go.Proofs.YtmgbaefgcdglpaaGreatDoorW.PrintLast Go.Proofs.YtmgbaefgcdglpaaGreatDoorW.PrintMore
set_option linter.unusedVariables false
set_option linter.unusedSimpArgs false
theorem own_slice {w : World} {base : Nat} {e : TypeId} {size n : Nat} {v : Value} {xs : List Value} (h : w.ownsRow base e size v n xs) : ∃ A c, v = .slice A n c := by
 obtain ⟨A, c, rfl, -⟩ := src_owns h
 exact ⟨A, c, rfl⟩
end Go.Proofs.YtmgbaefgcdglpaaGreatDoor.Dir
end
section
namespace Go.Proofs.YtmgbaefgcdglpaaGreatDoor.Dir
open Go Go.RowKit Go.Proofs Go.Proofs.YtmgbaefgcdglpaaGreatDoorW.PrintWords Go.Proofs.YtmgbaefgcdglpaaGreatDoorW.PrintLast Go.Proofs.YtmgbaefgcdglpaaGreatDoorW.PrintMore
set_option linter.unusedVariables false
set_option linter.unusedSimpArgs false
set_option maxHeartbeats 2000000 in
set_option maxRecDepth 100000 in
theorem index_devS (l : List Dev) (k : Key) (A : Option Addr) (c cb : Nat) (w : World) (h : SrcAt w A l.length 35 (flatD l)) (hl : l.length ≤ 4611686018427387904) (hc : w.heap[cb]? = some (.cells (encK k).toArray 28 (0, 0))) :
  Calls Tryz.prog 101 #[.slice A l.length c, .func (.func 102) #[] #[.pointer (some ⟨cb, 0, none⟩)]] w fun e w' => ((e = .returned (.int .i64 (-1)) ∧ ∀ d ∈ l, d.key ≠ k) ∨ ∃ (i : Nat) (d : Dev), e = .returned (.int .i64 i) ∧ l[i]? = some d ∧ d.key = k ∧ ∀ j, j < i → ∀ d', l[j]? = some d' → d'.key ≠ k) ∧ Below w.heap.size w w' := by
 have HW := Aside0.mk h
 have HC := Aside0.mk hc
 have HL := Aside0.mk hl
 have hcl : cb < w.heap.size := (Array.getElem?_eq_some_iff.1 hc).1
 have HCL := Aside0.mk hcl
 clear h hc hl hcl
 go_enter Tryz.func101, Tryz.ntmps101
 go_wp2
 go_loopg [5, 8] l.length (fun gg _ s8 wr => ∃ kk : Nat, kk ≤ l.length ∧ l.length - kk ≤ gg ∧ s8 = .int .i64 kk ∧ Aside0 (Below w.heap.size w wr) ∧ Aside0 (∀ j, j < kk → ∀ d', l[j]? = some d' → d'.key ≠ k))
 case atStart => exact ⟨0, Nat.zero_le _, by omega, rfl, ⟨Below.refl _ w⟩, ⟨fun j hj => absurd hj (Nat.not_lt_zero _)⟩⟩
 case round =>
  obtain ⟨kk, hkk, hg, rfl, BW, AL⟩ := hrel
  have LL := HL.out
  by_cases hlt : kk < l.length
  ·have hltz : (kk : Int) < (l.length : Int) := by omega
   obtain ⟨d, hd⟩ : ∃ d, l[kk]? = some d := ⟨_, List.getElem?_eq_getElem hlt⟩
   obtain ⟨g, o, hA, -⟩ : ∃ g o, A = some ⟨g, o, none⟩ ∧ True := by
    cases hA : A with
    | none => exact absurd (HW.out.2.1 hA) (by omega)
    | some a =>
     subst hA
     obtain ⟨g, o, rfl⟩ := src_bareD HW.out (by omega)
     exact ⟨g, o, rfl, trivial⟩
   subst hA
   have l1 := Aside0.mk (src_dev HW.out hd BW.out)
   have hcall := Aside0.mk (same_any d k cb wr ((BW.out.block _ HCL.out).trans HC.out))
   have HD := Aside0.mk hd
   clear hd
   by_cases hq : d.key = k
   ·rw [show decide (d.key = k) = true from decide_eq_true hq] at hcall
    go_wp2_with (first | (refine wpList_loadK rfl 85 _ rfl _ rfl _ l1.out ?_) | (go_at_call 102; refine hcall.out.mono ?_; rintro e w' ⟨rfl, rfl⟩))
    go_ret
    exact ⟨.inr ⟨kk, d, rfl, HD.out, hq, AL.out⟩, BW.out.alloc BW.out.size _⟩
   ·rw [show decide (d.key = k) = false from decide_eq_false hq] at hcall
    have HQ := Aside0.mk hq
    clear hq
    go_wp2_with (first | (refine wpList_loadK rfl 85 _ rfl _ rfl _ l1.out ?_) | (go_at_call 102; refine hcall.out.mono ?_; rintro e w' ⟨rfl, rfl⟩))
    go_roundg (l.length - (kk + 1))
    case measure => omega
    case rel =>
     refine ⟨kk + 1, by omega, by omega, by go_num, ⟨BW.out.alloc BW.out.size _⟩, ⟨fun j hj d' hd' => ?_⟩⟩
     by_cases e : j = kk
     ·subst e
      rw [HD.out] at hd'
      cases hd'
      exact HQ.out
     ·exact AL.out j (by omega) d' hd'
  ·have hltz : ¬ (kk : Int) < (l.length : Int) := by omega
   have : kk = l.length := by omega
   subst this
   go_wp2
   go_ret
   refine ⟨.inl ⟨rfl, fun d hd => ?_⟩, BW.out⟩
   obtain ⟨j, hj⟩ := List.getElem?_of_mem hd
   exact AL.out j (List.getElem?_eq_some_iff.1 hj).1 d hj
def devRes (d : Dev) (now cl : Int) : Value := if d.rev = true ∨ d.exp ≤ now ∨ d.exp ≤ cl then .tuple #[.int .i64 0, .bool false] else .tuple #[.int .i64 d.node, .bool true]
theorem valid_some {B : Book} {k : Key} {now : Int} {d : Dev} (h : B.devs.find? (fun d => decide (d.key = k)) = some d) : validRes (validOf B k now) = devRes d now B.clock := by
 unfold validOf devRes
 rw [h]
 show validRes (if _ then _ else _) = _
 split <;> rfl
theorem valid_none {B : Book} {k : Key} {now : Int} (h : B.devs.find? (fun d => decide (d.key = k)) = none) : validRes (validOf B k now) = .tuple #[.int .i64 0, .bool false] := by
 unfold validOf
 rw [h]
 rfl
set_option maxHeartbeats 2000000 in
set_option maxRecDepth 100000 in
theorem valid_src (B : Book) (k : Key) (now : Int) (A1 : Option Addr) (c1 : Nat) (A2 : Option Addr) (c2 : Nat) (w : World) (h : SrcB w B A1 A2) :
  Calls Tryz.prog 50 #[.agg (bookCells B A1 c1 A2 c2).toArray, .agg (encK k).toArray, .int .i64 now] w fun e w' => e = .returned (validRes (validOf B k now)) ∧ Below w.heap.size w w' := by
 obtain ⟨W0, hW0⟩ : ∃ W0, W0 = (w.alloc (.cells (bookCells B A1 c1 A2 c2).toArray 25)).alloc (.cells (encK k).toArray 28) := ⟨_, rfl⟩
 have hb0 : Below w.heap.size w W0 := by rw [hW0]; exact ((Below.refl _ w).alloc (Nat.le_refl _) _).alloc (by simp) _
 have q1 : W0.heap[w.heap.size]? = some (.cells (bookCells B A1 c1 A2 c2).toArray 25 (0, 0)) := by rw [hW0, Below.heap_alloc _ _ _ (by simp)]; exact heap_alloc_new w _
 have q2 : W0.heap[w.heap.size + 1]? = some (.cells (encK k).toArray 28 (0, 0)) := by rw [hW0]; have := heap_alloc_new (w.alloc (.cells (bookCells B A1 c1 A2 c2).toArray 25)) (.cells (encK k).toArray 28); simpa using this
 have hS := h.later hb0
 have HI := Aside0.mk (index_devS B.devs k A1 c1 (w.heap.size + 1) W0 hS.devs hS.few q2)
 have HS := Aside0.mk hS
 have hc1 := cell_of_heap (j := 1) q1
 have hc2 := cell_of_heap (j := 2) q1
 have HB := Aside0.mk hb0
 obtain ⟨R, hR⟩ : ∃ R, R = validRes (validOf B k now) := ⟨_, rfl⟩
 rw [← hR]
 have HRR := Aside0.mk hR
 have hF := hS.few
 obtain ⟨cl, hcl⟩ : ∃ cl, cl = B.clock := ⟨_, rfl⟩
 obtain ⟨n1, hn1⟩ : ∃ n1, n1 = B.devs.length := ⟨_, rfl⟩
 have c1' : W0.cell? ⟨w.heap.size, 1, none⟩ = some (.int .i64 cl) := by rw [hc1, hcl]; rfl
 have c2' : W0.cell? ⟨w.heap.size, 2, none⟩ = some (.slice A1 n1 c1) := by rw [hc2, hn1]; rfl
 have HCL := Aside0.mk hcl
 have HN := Aside0.mk hn1
 rw [← hn1] at hF
 clear hc1 hc2 hR hb0 q1 q2 hS h hcl hn1
 go_enter Tryz.func50, Tryz.ntmps50
 go_upto_region 1 with fail
 rw [← hW0]
 clear hW0
 go_wp2_with fail
 rw [HN.out]
 refine HI.out.mono ?_
 rintro e w1 ⟨hres, hb1⟩
 have d1 := (hb1.cell (p := ⟨w.heap.size, 1, none⟩) (World.block_lt_of_cell? W0 _ c1')).trans c1'
 have d2 := (hb1.cell (p := ⟨w.heap.size, 2, none⟩) (World.block_lt_of_cell? W0 _ c2')).trans c2'
 have HB1 := Aside0.mk hb1
 clear hb1 c1' c2'
 rcases hres with ⟨rfl, hno⟩ | ⟨i, d, rfl, hi, hk, hfst⟩
 ·have HNO := Aside0.mk hno
  clear hno
  go_wp2_with fail
  go_ret2
  refine ⟨?_, below_step HB.out HB1.out⟩
  rw [HRR.out, valid_none (List.find?_eq_none.2 fun d hd => by simpa using HNO.out d hd)]
  rfl
 ·have hfind : B.devs.find? (fun d => decide (d.key = k)) = some d := find_at hi (decide_eq_true hk) (fun j hj d' hd' => decide_eq_false (hfst j hj d' hd'))
  have hlt := (List.getElem?_eq_some_iff.1 hi).1
  have hin : (i : Int) < (n1 : Int) := by rw [HN.out]; omega
  obtain ⟨g, o, hA, hld⟩ := HS.out.dev hi
  subst hA
  have l1 := Aside0.mk (hld w1 HB1.out)
  have st := Aside0.mk (fun (c : Array Value) (hc : c.size = 35) => run_storeNew Tryz.prog w1 85 35 sizeD c (encD d).toArray hc (by simpa using encD_len d) (by simpa using encD_one d))
  have a0 : (encD d).toArray[0]? = some (.int .i64 d.node) := rfl
  have a33 : (encD d).toArray[33]? = some (.int .i64 d.exp) := by simpa using expOfD d
  have a34 : (encD d).toArray[34]? = some (.bool d.rev) := by simpa using revOfD d
  have HV := Aside0.mk (HRR.out.trans (by rw [valid_some hfind, ← HCL.out]; rfl : validRes (validOf B k now) = if d.rev = true ∨ d.exp ≤ now ∨ d.exp ≤ cl then .tuple #[.int .i64 0, .bool false] else .tuple #[.int .i64 d.node, .bool true]))
  generalize (encD d).toArray = A at l1 st a0 a33 a34
  generalize d.rev = rv at a34 HV
  generalize d.exp = ex at a33 HV
  generalize d.node = nd at a0 HV
  clear hi hk hfst hfind hlt hld
  have d1' : ∀ o, (w1.alloc o).cell? ⟨w.heap.size, 1, none⟩ = some (.int .i64 cl) := fun o => Lib.cell?_alloc_some o d1
  go_wp2_with (first | (refine wpList_loadK rfl 85 _ rfl _ rfl _ l1.out ?_) | (refine wpList_storeK rfl 85 _ _ rfl rfl _ _ rfl rfl _ (st.out _ rfl) ?_))
  all_goals
   go_ret2
   refine ⟨?_, (below_step HB.out HB1.out).alloc (below_step HB.out HB1.out).size _⟩
   rw [HV.out]
  all_goals first
   | (rw [if_pos (by first | (left; assumption) | (right; assumption) | (right; left; assumption) | (right; omega))]; rfl)
   | (rw [if_neg (by rintro (h | h | h) <;> first | contradiction | omega)]; rfl)
end Go.Proofs.YtmgbaefgcdglpaaGreatDoor.Dir
end
section
namespace Go.Proofs.YtmgbaefgcdglpaaGreatDoor.Dir
open Go Go.RowKit Go.Proofs Go.Proofs.YtmgbaefgcdglpaaGreatDoorW.PrintWords Go.Proofs.YtmgbaefgcdglpaaGreatDoorW.PrintLast Go.Proofs.YtmgbaefgcdglpaaGreatDoorW.PrintMore
set_option linter.unusedVariables false
set_option linter.unusedSimpArgs false
theorem src_none {w : World} {size : Nat} : SrcAt w none 0 size [] := ⟨by simp, fun _ => rfl, fun a e => by cases e⟩
end Go.Proofs.YtmgbaefgcdglpaaGreatDoor.Dir
end
section
namespace Go.Proofs.YtmgbaefgcdglpaaGreatDoor.Dir
open Go Go.RowKit Go.Proofs Go.Proofs.YtmgbaefgcdglpaaGreatDoorW.PrintWords Go.Proofs.YtmgbaefgcdglpaaGreatDoorW.PrintLast Go.Proofs.YtmgbaefgcdglpaaGreatDoorW.PrintMore
set_option linter.unusedVariables false
set_option linter.unusedSimpArgs false
def natB (l : List UInt8) : Nat := l.foldl (fun n b => n * 256 + b.toNat) 0
end Go.Proofs.YtmgbaefgcdglpaaGreatDoor.Dir
end
section
namespace Go.Proofs.YtmgbaefgcdglpaaGreatDoor.Dir
open Go Go.RowKit Go.Proofs Go.Proofs.YtmgbaefgcdglpaaGreatDoorW.PrintWords Go.Proofs.YtmgbaefgcdglpaaGreatDoorW.PrintLast Go.Proofs.YtmgbaefgcdglpaaGreatDoorW.PrintMore
set_option linter.unusedVariables false
set_option linter.unusedSimpArgs false
def takeP (s : Nat) (l : List UInt8) : Except Int (List UInt8 × List UInt8) := if l.length < s then .error 3 else .ok (l.take s, l.drop s)
def getP (s : Nat) (l : List UInt8) : Except Int (Nat × List UInt8) :=
 match takeP s l with
 | .error c => .error c
 | .ok (a, r) => .ok (natB a, r)
def octP (m : Nat) (l : List UInt8) : Except Int (List UInt8 × List UInt8) :=
 match getP 2 l with
 | .error c => .error c
 | .ok (n, r) => if m < n then .error 5 else takeP n r
end Go.Proofs.YtmgbaefgcdglpaaGreatDoor.Dir
end
section
namespace Go.Proofs.YtmgbaefgcdglpaaGreatDoor.Dir
open Go Go.RowKit Go.Proofs Go.Proofs.YtmgbaefgcdglpaaGreatDoorW.PrintWords Go.Proofs.YtmgbaefgcdglpaaGreatDoorW.PrintLast Go.Proofs.YtmgbaefgcdglpaaGreatDoorW.PrintMore
set_option linter.unusedVariables false
set_option linter.unusedSimpArgs false
def thrown (c : Int) : Ending := .panicked [{ v := .iface 225 (.int .i64 c), recovered := false }]
def mostP (m : Nat) (l : List UInt8) : Except Int (Nat × List UInt8) :=
 match getP 1 l with
 | .error c => .error c
 | .ok (n, r) => if m < n then .error 4 else .ok (n, r)
def toKey (l : List UInt8) : Key := ⟨(l ++ List.replicate 32 0).take 32, by simp⟩
def keyP (l : List UInt8) : Except Int (Key × List UInt8) :=
 match takeP 32 l with
 | .error c => .error c
 | .ok (a, r) => .ok (toKey a, r)
end Go.Proofs.YtmgbaefgcdglpaaGreatDoor.Dir
end
section
namespace Go.Proofs.YtmgbaefgcdglpaaGreatDoor.Dir
open Go Go.RowKit Go.Proofs Go.Proofs.YtmgbaefgcdglpaaGreatDoorW.PrintWords Go.Proofs.YtmgbaefgcdglpaaGreatDoorW.PrintLast Go.Proofs.YtmgbaefgcdglpaaGreatDoorW.PrintMore
set_option linter.unusedVariables false
set_option linter.unusedSimpArgs false
def devP (l : List UInt8) : Except Int (Dev × List UInt8) :=
 match getP 1 l with
 | .error c => .error c
 | .ok (n, r1) =>
  match keyP r1 with
  | .error c => .error c
  | .ok (k, r2) =>
   match getP 7 r2 with
   | .error c => .error c
   | .ok (e, r3) =>
    match mostP 1 r3 with
    | .error c => .error c
    | .ok (v, r4) => .ok (⟨(n : Int), k, (e : Int), decide (v = 1)⟩, r4)
def manyP {α : Type} (f : List UInt8 → Except Int (α × List UInt8)) : Nat → List UInt8 → Except Int (List α × List UInt8)
 | 0, l => .ok ([], l)
 | n + 1, l =>
  match f l with
  | .error c => .error c
  | .ok (d, r) =>
   match manyP f n r with
   | .error c => .error c
   | .ok (ds, r') => .ok (d :: ds, r')
def rawP (l : List UInt8) : Except Int (Book × List UInt8) :=
 match getP 7 l with
 | .error c => .error c
 | .ok (v, r1) =>
  match getP 7 r1 with
  | .error c => .error c
  | .ok (k, r2) =>
   match mostP 8 r2 with
   | .error c => .error c
   | .ok (n, r3) =>
    match manyP devP n r3 with
    | .error c => .error c
    | .ok (ds, r4) =>
     match mostP 64 r4 with
     | .error c => .error c
     | .ok (m, r5) =>
      match manyP keyP m r5 with
      | .error c => .error c
      | .ok (ks, r6) =>
       match octP 1024 r6 with
       | .error c => .error c
       | .ok (t, r7) => .ok (⟨(v : Int), (k : Int), ds, ks, t⟩, r7)
def bookSaid (l : List UInt8) (x : Except Int Book) : Prop :=
 match rawP l with
 | .error c => x = .error c
 | .ok (B, r) => (r = [] ∧ MayB B ∧ x = .ok B) ∨ (¬ (r = [] ∧ MayB B) ∧ x = .error 4)
section
variable {w W W' : World} {base p q br : Nat} {B : Book} {A1 : Option Addr} {c1 : Nat} {A2 : Option Addr} {c2 : Nat} {r r' : List UInt8}
end
end Go.Proofs.YtmgbaefgcdglpaaGreatDoor.Dir
end
section
namespace Go.Proofs.YtmgbaefgcdglpaaGreatDoor.Dir
open Go Go.RowKit Go.Proofs Go.Proofs.YtmgbaefgcdglpaaGreatDoorW.PrintWords Go.Proofs.YtmgbaefgcdglpaaGreatDoorW.PrintLast Go.Proofs.YtmgbaefgcdglpaaGreatDoorW.PrintMore
set_option linter.unusedVariables false
set_option linter.unusedSimpArgs false
def ParseEnd (w w' : World) (l : List UInt8) (e : Ending) : Prop :=
 (∃ c, c ≠ 0 ∧ bookSaid l (.error c) ∧ e = .returned (.tuple #[.agg (bookCells book0 none 0 none 0).toArray, .int .i64 c])) ∨
 (∃ B A1 c1 A2 c2, bookSaid l (.ok B) ∧ e = .returned (.tuple #[.agg (bookCells B A1 c1 A2 c2).toArray, .int .i64 0]) ∧ OwnD w' w.heap.size A1 c1 B.devs ∧ OwnK w' w.heap.size A2 c2 B.spent)
end Go.Proofs.YtmgbaefgcdglpaaGreatDoor.Dir
end
section
namespace Go.Proofs.YtmgbaefgcdglpaaGreatDoor.Dir
open Go Go.RowKit Go.Proofs Go.Proofs.YtmgbaefgcdglpaaGreatDoorW.PrintWords Go.Proofs.YtmgbaefgcdglpaaGreatDoorW.PrintLast Go.Proofs.YtmgbaefgcdglpaaGreatDoorW.PrintMore
set_option linter.unusedVariables false
set_option linter.unusedSimpArgs false
abbrev St2 := Int × List UInt8
end Go.Proofs.YtmgbaefgcdglpaaGreatDoor.Dir
end
