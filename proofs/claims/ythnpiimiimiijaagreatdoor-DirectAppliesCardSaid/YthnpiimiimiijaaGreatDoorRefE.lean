/- The document's directory in plain words: what find, put and spend come to at books that may be; and its Parse. -/
import Derived.Test.YthnpiimiimiijaaGreatDoorRefD
import Derived.Test.YthnpiimiimiijaaGreatDoorDocRef
namespace Go.Proofs.YthnpiimiimiijaaGreatDoor.Dir
open Go Go.RowKit Go.Proofs Go.Proofs.YthnpiimiimiijaaGreatDoorW.PrintWords Go.Proofs.YthnpiimiimiijaaGreatDoorW.PrintLast Go.Proofs.YthnpiimiimiijaaGreatDoorW.PrintMore
set_option linter.unusedVariables false
set_option linter.unusedSimpArgs false
def ParsedR (r : Int) (e : Ending) : Prop := ∃ v0, e = .returned (.tuple #[v0, .int .i64 r])
theorem parse_ref (t : List UInt8) (w : World) : Calls Tryz.prog 69 #[.string (str t)] w fun e w' => ParsedR (rulesOf t) e ∧ Below w.heap.size w w' := by
 refine (PA.causewayref20_Parse.calls 5000 (PA.toB t) (Acl.parseOf t).1 (Acl.parseOf t).2 w (PA.ref_Parse_eq t 5000 (Nat.le_refl _))).mono ?_
 rintro e w' ⟨v0, he, -, hb⟩
 exact ⟨⟨v0, he⟩, hb⟩
theorem idx_pos {B : Book} (hw : WF B) (n : Int) : idxF B.devs n 0 = if hasD B.devs n = true then (posD B.devs n : Int) else -1 := by
 rcases idxF_spec B.devs n 0 (by omega) with ⟨h1, h2⟩ | ⟨i, x, h1, h2, h3, -⟩
 ·have : hasD B.devs n = false := by
   cases hh : hasD B.devs n
   ·rfl
   ·obtain ⟨d, hd, hn⟩ := List.any_eq_true.1 hh
    exact absurd (of_decide_eq_true hn) (h2 d hd)
  rw [h1, this]
  rfl
 ·have hh : hasD B.devs n = true := List.any_eq_true.2 ⟨x, List.mem_of_getElem? h1, decide_eq_true h2⟩
  rw [h3, hh, if_pos rfl]
  obtain ⟨g1, g2, g3, g4⟩ := has_at hw.devs hh
  have e : i = posD B.devs n := by
   rcases Nat.lt_trichotomy i (posD B.devs n) with h | h | h
   ·have := nodes_lt hw.devs h h1 g2; omega
   ·exact h
   ·have := nodes_lt hw.devs h g2 h1; omega
  omega
theorem sorted_ext : ∀ (l1 l2 : List Dev), l1.Pairwise (·.node < ·.node) → l2.Pairwise (·.node < ·.node) → (∀ x, x ∈ l1 ↔ x ∈ l2) → l1 = l2
 | [], [], _, _, _ => rfl
 | [], b :: l2, _, _, h => by have := (h b).2 (List.mem_cons_self ..); cases this
 | a :: l1, [], _, _, h => by have := (h a).1 (List.mem_cons_self ..); cases this
 | a :: l1, b :: l2, h1, h2, h => by
  obtain ⟨p1, p2⟩ := List.pairwise_cons.1 h1
  obtain ⟨q1, q2⟩ := List.pairwise_cons.1 h2
  have hab : a = b := by
   rcases List.mem_cons.1 ((h a).1 (List.mem_cons_self ..)) with e | e
   ·exact e
   ·rcases List.mem_cons.1 ((h b).2 (List.mem_cons_self ..)) with e2 | e2
    ·exact e2.symm
    ·have := q1 a e; have := p1 b e2; omega
  subst hab
  congr 1
  refine sorted_ext l1 l2 p2 q2 fun x => ⟨fun hx => ?_, fun hx => ?_⟩
  ·rcases List.mem_cons.1 ((h x).1 (List.mem_cons_of_mem _ hx)) with e | e
   ·subst e; have := p1 _ hx; omega
   ·exact e
  ·rcases List.mem_cons.1 ((h x).2 (List.mem_cons_of_mem _ hx)) with e | e
   ·subst e; have := q1 _ hx; omega
   ·exact e
theorem putAt_mem {l : List Dev} (hs : l.Pairwise (·.node < ·.node)) (d : Dev) (n : Int) (x : Dev) : x ∈ putAt l d n ↔ (x = d ∨ (x ∈ l ∧ x.node ≠ d.node)) ∧ x.node = n := by
 unfold putAt
 by_cases hn : n = d.node
 ·rw [if_pos hn, List.mem_singleton]
  constructor
  ·rintro rfl; exact ⟨.inl rfl, hn.symm⟩
  ·rintro ⟨h | ⟨-, h⟩, h2⟩
   ·exact h
   ·exact absurd (h2.trans hn) h
 ·rw [if_neg hn]
  rcases idxF_spec l n 0 (by omega) with ⟨h1, h2⟩ | ⟨i, y, h1, h2, h3, -⟩
  ·rw [if_neg (by rw [h1]; decide)]
   constructor
   ·intro h; cases h
   ·rintro ⟨rfl | ⟨h, -⟩, h4⟩
    ·exact absurd h4.symm hn
    ·exact absurd h4 (h2 x h)
  ·rw [if_pos (by omega), show (idxF l n 0).toNat = i by omega, List.getD_eq_getElem?_getD, h1, Option.getD_some, List.mem_singleton]
   constructor
   ·rintro rfl; exact ⟨.inr ⟨List.mem_of_getElem? h1, by omega⟩, h2⟩
   ·rintro ⟨rfl | ⟨h, -⟩, h4⟩
    ·exact absurd h4.symm hn
    ·obtain ⟨j, hj⟩ := List.getElem?_of_mem h
     rcases Nat.lt_trichotomy i j with e | e | e
     ·have := nodes_lt hs e h1 hj; omega
     ·subst e; rw [h1] at hj; exact (Option.some.inj hj).symm
     ·have := nodes_lt hs e hj h1; omega
theorem putR_mem {l : List Dev} (hs : l.Pairwise (·.node < ·.node)) (d x : Dev) : ∀ k : Nat, x ∈ putR l d k ↔ (x = d ∨ (x ∈ l ∧ x.node ≠ d.node)) ∧ 1 ≤ x.node ∧ x.node ≤ k
 | 0 => by constructor; (intro h; simp [putR] at h); (rintro ⟨-, h1, h2⟩; exfalso; omega)
 | k + 1 => by
  rw [putR_next, List.mem_append, putR_mem hs d x k, putAt_mem hs]
  constructor
  ·rintro (⟨h, h1, h2⟩ | ⟨h, h1⟩)
   ·exact ⟨h, h1, by omega⟩
   ·exact ⟨h, by omega, by omega⟩
  ·rintro ⟨h, h1, h2⟩
   by_cases e : x.node = k + 1
   ·exact .inr ⟨h, e⟩
   ·exact .inl ⟨h, h1, by omega⟩
theorem putR_sorted {l : List Dev} (hs : l.Pairwise (·.node < ·.node)) (d : Dev) : ∀ k : Nat, (putR l d k).Pairwise (·.node < ·.node)
 | 0 => by simp [putR]
 | k + 1 => by
  rw [putR_next]
  refine List.pairwise_append.2 ⟨putR_sorted hs d k, ?_, fun a ha b hb => ?_⟩
  ·have := putAt_len l d (k + 1)
   match hp : putAt l d (k + 1), this with
   | [], _ => exact List.Pairwise.nil
   | [a], _ => exact List.pairwise_singleton _ a
   | a :: b :: r, h => simp at h
  ·have h1 := ((putR_mem hs d a k).1 ha).2.2
   have h2 := ((putAt_mem hs d _ b).1 hb).2
   omega
theorem put_plain {B : Book} (hw : WF B) (d : Dev) (h1 : 1 ≤ d.node) (h8 : d.node ≤ 8) : putR B.devs d 8 = if hasD B.devs d.node = true then B.devs.set (posD B.devs d.node) d else insertAt B.devs (posD B.devs d.node) d := by
 by_cases hh : hasD B.devs d.node = true
 ·rw [if_pos hh]
  obtain ⟨e, r, s1, s2, s3, s4, s5⟩ := set_split hw.devs hh d
  have hsort : (B.devs.set (posD B.devs d.node) d).Pairwise (·.node < ·.node) := by
   have hp := hw.devs
   rw [s1] at hp
   obtain ⟨q1, q2, q3⟩ := List.pairwise_append.1 hp
   obtain ⟨q4, q5⟩ := List.pairwise_cons.1 q2
   rw [s2]
   refine List.pairwise_append.2 ⟨q1, List.pairwise_cons.2 ⟨fun y hy => s4 y hy, q5⟩, fun y hy z hz => ?_⟩
   rcases List.mem_cons.1 hz with rfl | hz
   ·exact s5 y hy
   ·exact q3 y hy z (List.mem_cons_of_mem _ hz)
  refine sorted_ext _ _ (putR_sorted hw.devs d 8) hsort fun x => ?_
  rw [putR_mem hw.devs]
  constructor
  ·rintro ⟨rfl | ⟨hx, hne⟩, -, -⟩
   ·rw [s2]; exact List.mem_append_right _ (List.mem_cons_self ..)
   ·rw [s1] at hx
    rw [s2]
    rcases List.mem_append.1 hx with h | h
    ·exact List.mem_append_left _ h
    ·rcases List.mem_cons.1 h with e2 | h
     ·rw [e2] at hne; exact absurd s3 hne
     ·exact List.mem_append_right _ (List.mem_cons_of_mem _ h)
  ·intro hx
   rw [s2] at hx
   rcases List.mem_append.1 hx with h | h
   ·have hm : x ∈ B.devs := by rw [s1]; exact List.mem_append_left _ h
    have := s5 x h
    have := hw.nodes x hm
    exact ⟨.inr ⟨hm, by omega⟩, by omega, by omega⟩
   ·rcases List.mem_cons.1 h with rfl | h
    ·exact ⟨.inl rfl, h1, h8⟩
    ·have hm : x ∈ B.devs := by rw [s1]; exact List.mem_append_right _ (List.mem_cons_of_mem _ h)
     have := s4 x h
     have := hw.nodes x hm
     exact ⟨.inr ⟨hm, by omega⟩, by omega, by omega⟩
 ·rw [if_neg hh]
  have hne := not_has (by simpa using hh : hasD B.devs d.node = false)
  have hsort : (insertAt B.devs (posD B.devs d.node) d).Pairwise (·.node < ·.node) :=
   insertAt_sorted _ _ B.devs _ hw.devs (devs_down hw.devs _) (fun a ha h => of_decide_eq_true h) (fun a ha h => by
    have := of_decide_eq_false h
    have := hne a ha
    show d.node < a.node
    omega)
  refine sorted_ext _ _ (putR_sorted hw.devs d 8) hsort fun x => ?_
  rw [putR_mem hw.devs, mem_insertAt]
  constructor
  ·rintro ⟨rfl | ⟨hx, -⟩, -, -⟩
   ·exact .inl rfl
   ·exact .inr hx
  ·rintro (rfl | hx)
   ·exact ⟨.inl rfl, h1, h8⟩
   ·have := hw.nodes x hx
    exact ⟨.inr ⟨hx, hne x hx⟩, by omega, by omega⟩
theorem spR_plain : ∀ (l : List Key) (k : Key), l.Pairwise (fun a b => ltK a b = true) → k ∉ l → spR l k false = insertAt l (posK l k) k
 | [], k, _, _ => rfl
 | x :: l, k, hs, hk => by
  obtain ⟨p1, p2⟩ := List.pairwise_cons.1 hs
  unfold spR
  cases h : ltK k x
  ·have hx : ltK x k = true := by
    rcases ltK_tri k x with e | e | e
    ·rw [h] at e; cases e
    ·exact absurd (e ▸ List.mem_cons_self ..) hk
    ·exact e
   rw [if_neg (by simp), spR_plain l k p2 (fun e => hk (List.mem_cons_of_mem _ e))]
   have hp : posK (x :: l) k = posK l k + 1 := by unfold posK; exact List.countP_cons_of_pos (p := fun y => ltK y k) hx
   rw [hp]
   rfl
  ·rw [if_pos (by simp), spR_len.spR_true]
   have hp : posK (x :: l) k = 0 := by
    unfold posK
    refine List.countP_eq_zero.2 fun y hy => ?_
    rcases List.mem_cons.1 hy with rfl | hy
    ·rw [ltK_asymm h]; decide
    ·rw [ltK_asymm (ltK_trans h (p1 y hy))]; decide
   rw [hp]
   rfl
end Go.Proofs.YthnpiimiimiijaaGreatDoor.Dir
