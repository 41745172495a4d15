/- direct.Load; two directories side by side. -/
import Derived.Test.YthnpiimiimiijaaGreatDoorDirOk
import Derived.Test.YthnpiimiimiijaaGreatDoorDirArr
namespace Go.Proofs.YthnpiimiimiijaaGreatDoor.Dir
open Go Go.RowKit Go.Proofs Go.Proofs.YthnpiimiimiijaaGreatDoorW.PrintWords Go.Proofs.YthnpiimiimiijaaGreatDoorW.PrintLast Go.Proofs.YthnpiimiimiijaaGreatDoorW.PrintMore
set_option linter.unusedVariables false
set_option linter.unusedSimpArgs false
/-- A directory beside another one that is written. -/
theorem DirAt.beside {w w' : World} {p q : Nat} {B : Book} (h : DirAt w q B) {cs : Array Value} {fr : Nat × Nat} (hp : w.heap[p]? = some (.cells cs 83 fr)) (hne : q ≠ p) (hw : w.grownBy w' (some p)) : DirAt w' q B := by
 obtain ⟨A1, c1, A2, c2, q1, q2, q3, q4⟩ := h
 exact ⟨A1, c1, A2, c2, (hw.block _ (Array.getElem?_eq_some_iff.1 q1).1 (fun e => hne (Option.some.inj e))).trans q1, q2.other hp (by decide) (by decide) hw, q3, q4⟩
theorem DirSt.beside {w W W' : World} {p q : Nat} {B C : Book} (h : DirSt w W q C) (hp : DirSt w W p B) (hne : q ≠ p) (hw : W.grownBy W' (some p)) : DirSt w W' q C := by
 obtain ⟨cs, fr, hc⟩ := hp.at_.block
 exact ⟨h.at_.beside hc hne hw, h.fr.grown hw h.fr.size (fun k hk => by have := hp.new; have : p = k := Option.some.inj hk; omega), h.new, h.wf, h.laid⟩
theorem pairwise_of_adj : ∀ (l : List Key), (∀ i x y, l[i]? = some x → l[i + 1]? = some y → ltK x y = true) → l.Pairwise (fun a b => ltK a b = true)
 | [], _ => List.Pairwise.nil
 | [a], _ => List.pairwise_singleton _ a
 | a :: b :: r, h => by
  have ih := pairwise_of_adj (b :: r) (fun i x y hx hy => h (i + 1) x y (by simpa using hx) (by simpa using hy))
  refine List.pairwise_cons.2 ⟨fun c hc => ?_, ih⟩
  have hab := h 0 a b rfl rfl
  rcases List.mem_cons.1 hc with e | e
  ·rw [e]; exact hab
  ·exact ltK_trans hab ((List.pairwise_cons.1 ih).1 c e)
theorem nodup_of_lt {l : List Key} (h : l.Pairwise (fun a b => ltK a b = true)) : l.Nodup := h.imp fun {a b} hab e => by
 subst e
 rw [ltK_irrefl] at hab; cases hab
theorem devsOk_to : ∀ (l : List Dev) (last : Int), devsOk last l = true → (∀ d ∈ l, last < d.node) ∧ l.Pairwise (fun a b => a.node < b.node) ∧ (∀ d ∈ l, d.node ≤ 8) ∧ (∀ d ∈ l, 1 ≤ d.exp ∧ d.exp ≤ maxN)
 | [], _, _ => ⟨by simp, List.Pairwise.nil, by simp, by simp⟩
 | d :: l, last, h => by
  unfold devsOk number at h
  simp only [Bool.and_eq_true, decide_eq_true_eq] at h
  obtain ⟨⟨⟨⟨h1, h2⟩, h3⟩, h4⟩, h5⟩ := h
  obtain ⟨i1, i2, i3, i4⟩ := devsOk_to l d.node h5
  refine ⟨fun x hx => ?_, List.pairwise_cons.2 ⟨i1, i2⟩, fun x hx => ?_, fun x hx => ?_⟩
  ·rcases List.mem_cons.1 hx with e | e
   ·rw [e]; exact h1
   ·have := i1 x e; omega
  ·rcases List.mem_cons.1 hx with e | e
   ·rw [e]; exact h2
   ·exact i3 x e
  ·rcases List.mem_cons.1 hx with e | e
   ·rw [e]; exact ⟨h3, h4.2⟩
   ·exact i4 x e
theorem wf_of_ok {B : Book} (h : OkB B) : WF B := by
 obtain ⟨d1, d2, d3, d4⟩ := devsOk_to _ _ h.devs
 have hs : (sortL (takenB B)).Pairwise (fun a b => ltK a b = true) := pairwise_of_adj _ fun i x y hx hy => by
  obtain ⟨h1, e1⟩ := List.getElem?_eq_some_iff.1 hx
  obtain ⟨h2, e2⟩ := List.getElem?_eq_some_iff.1 hy
  have h3 := List.pairwise_iff_getElem.1 (sortL_sorted (takenB B)) i (i + 1) h1 h2 (by omega)
  rw [e1, e2] at h3
  rcases ltK_tri x y with e | e | e
  ·exact e
  ·exact absurd e.symm (h.apart i x y hx hy)
  ·rw [h3] at e; cases e
 have hn : (takenB B).Nodup := (sortL_perm (takenB B)).nodup_iff.1 (nodup_of_lt hs)
 refine ⟨of_decide_eq_true h.ver, of_decide_eq_true h.clock, d2, fun d hd => ⟨by have := d1 d hd; omega, d3 d hd⟩, d4, pairwise_of_adj _ fun i x y hx hy => ?_, h.len, hn, h.nonzero⟩
 have h3 := h.sorted i x y hx hy
 rcases ltK_tri x y with e | e | e
 ·exact e
 ·exfalso
  obtain ⟨h1, e1⟩ := List.getElem?_eq_some_iff.1 hx
  obtain ⟨h2, e2⟩ := List.getElem?_eq_some_iff.1 hy
  have := List.pairwise_iff_getElem.1 (List.nodup_append.1 hn).1 i (i + 1) h1 h2 (by omega)
  rw [e1, e2] at this
  exact this e
 ·rw [h3] at e; cases e
end Go.Proofs.YthnpiimiimiijaaGreatDoor.Dir
