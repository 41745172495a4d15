/- What an op does to a book keeps what holds of all books. -/
import Derived.Test.YthnpiimiimiijaaGreatDoorDirWide
set_option linter.unusedVariables false
set_option linter.unusedSimpArgs false
namespace Go.Proofs.YthnpiimiimiijaaGreatDoor.Dir
/-! ### lists that a mark parts in two -/
theorem count_split {α : Type} (p : α → Bool) : ∀ (l : List α), l.Pairwise (fun a b => p b = true → p a = true) → l.take (l.countP p) = l.filter p ∧ l.drop (l.countP p) = l.filter (fun a => !p a)
 | [], _ => by simp
 | a :: l, h => by
  obtain ⟨h1, h2⟩ := List.pairwise_cons.1 h
  obtain ⟨i1, i2⟩ := count_split p l h2
  cases ha : p a
  ·have hl : ∀ x ∈ l, p x = false := fun x hx => by
    cases hp : p x
    ·rfl
    ·rw [h1 x hx hp] at ha; cases ha
   have h0 : l.countP p = 0 := List.countP_eq_zero.2 (fun x hx => by rw [hl x hx]; decide)
   have e1 : l.filter p = [] := List.filter_eq_nil_iff.2 (fun x hx => by rw [hl x hx]; decide)
   have e2 : l.filter (fun a => !p a) = l := List.filter_eq_self.2 (fun x hx => by rw [hl x hx]; rfl)
   simp [List.countP_cons, ha, h0, e1, e2]
  ·simp [List.countP_cons, ha, i1, i2]
theorem insertAt_perm {α : Type} (l : List α) (i : Nat) (x : α) : (insertAt l i x).Perm (x :: l) := by
 unfold insertAt
 refine List.perm_middle.trans ?_
 rw [List.take_append_drop]
theorem mem_insertAt {α : Type} {l : List α} {i : Nat} {x y : α} : y ∈ insertAt l i x ↔ y = x ∨ y ∈ l := by
 rw [(insertAt_perm l i x).mem_iff]; simp
theorem len_insertAt {α : Type} (l : List α) (i : Nat) (x : α) : (insertAt l i x).length = l.length + 1 := (insertAt_perm l i x).length_eq
theorem insertAt_sorted {α : Type} (R : α → α → Prop) (p : α → Bool) (l : List α) (x : α) (hR : l.Pairwise R) (hp : l.Pairwise (fun a b => p b = true → p a = true)) (h1 : ∀ a ∈ l, p a = true → R a x) (h2 : ∀ a ∈ l, p a = false → R x a) :
  (insertAt l (l.countP p) x).Pairwise R := by
 obtain ⟨e1, e2⟩ := count_split p l hp
 have hparts := hR
 rw [← List.take_append_drop (l.countP p) l] at hparts
 obtain ⟨q1, q2, q3⟩ := List.pairwise_append.1 hparts
 unfold insertAt
 refine List.pairwise_append.2 ⟨q1, List.pairwise_cons.2 ⟨fun a ha => ?_, q2⟩, fun a ha b hb => ?_⟩
 ·rw [e2] at ha
  obtain ⟨m, hm⟩ := List.mem_filter.1 ha
  exact h2 a m (by simpa using hm)
 ·rcases List.mem_cons.1 hb with rfl | hb
  ·rw [e1] at ha
   obtain ⟨m, hm⟩ := List.mem_filter.1 ha
   exact h1 a m hm
  ·exact q3 a ha b hb
theorem devs_down {l : List Dev} (h : l.Pairwise (·.node < ·.node)) (n : Int) : l.Pairwise (fun a b => decide (b.node < n) = true → decide (a.node < n) = true) :=
 h.imp (fun {a b} hab hb => decide_eq_true (by have := of_decide_eq_true hb; omega))
theorem keys_down {l : List Key} (h : l.Pairwise (fun a b => ltK a b = true)) (k : Key) : l.Pairwise (fun a b => ltK b k = true → ltK a k = true) :=
 h.imp (fun {a b} hab hb => ltK_trans hab hb)
/-! ### where a node's device is -/
theorem has_split {l : List Dev} (h : l.Pairwise (·.node < ·.node)) {n : Int} (hh : hasD l n = true) : ∃ d r, l.drop (posD l n) = d :: r ∧ d.node = n ∧ (∀ x ∈ r, n < x.node) ∧ (∀ x ∈ l.take (posD l n), x.node < n) := by
 obtain ⟨e1, e2⟩ := count_split _ l (devs_down h n)
 obtain ⟨d, hd, hn⟩ := List.any_eq_true.1 hh
 have hn := of_decide_eq_true hn
 have hm : d ∈ l.drop (posD l n) := by unfold posD; rw [e2]; exact List.mem_filter.2 ⟨hd, by simp; omega⟩
 have hp : (l.drop (posD l n)).Pairwise (·.node < ·.node) := h.sublist (List.drop_sublist _ _)
 have hlow : ∀ x ∈ l.drop (posD l n), n ≤ x.node := fun x hx => by
  unfold posD at hx
  rw [e2] at hx
  have := (List.mem_filter.1 hx).2
  simp at this; omega
 have htake : ∀ x ∈ l.take (posD l n), x.node < n := fun x hx => by
  unfold posD at hx
  rw [e1] at hx
  exact of_decide_eq_true (List.mem_filter.1 hx).2
 cases hc : l.drop (posD l n) with
 | nil => rw [hc] at hm; cases hm
 | cons a r =>
  rw [hc] at hm hp hlow
  obtain ⟨p1, p2⟩ := List.pairwise_cons.1 hp
  have ha := hlow a (List.mem_cons_self ..)
  have hdn : a.node = n := by
   rcases List.mem_cons.1 hm with rfl | hdr
   ·exact hn
   ·have := p1 d hdr; omega
  exact ⟨a, r, rfl, hdn, fun x hx => by have := p1 x hx; omega, htake⟩
theorem has_at {b : Book} (h : b.devs.Pairwise (·.node < ·.node)) {n : Int} (hh : hasD b.devs n = true) : posD b.devs n < b.devs.length ∧ b.devs[posD b.devs n]? = some (devAt b n) ∧ (devAt b n).node = n ∧ devAt b n ∈ b.devs := by
 obtain ⟨d, r, h1, h2, -, -⟩ := has_split h hh
 have hg : b.devs[posD b.devs n]? = some d := by
  have := congrArg (fun l => l[0]?) h1
  simpa using this
 obtain ⟨hlt, he⟩ := List.getElem?_eq_some_iff.1 hg
 have hdv : devAt b n = d := by unfold devAt; rw [List.getD_eq_getElem?_getD, hg]; rfl
 rw [hdv]
 exact ⟨hlt, hg, h2, he ▸ List.getElem_mem hlt⟩
theorem not_has {l : List Dev} {n : Int} (h : hasD l n = false) : ∀ d ∈ l, d.node ≠ n := fun d hd e => by
 have : hasD l n = true := List.any_eq_true.2 ⟨d, hd, decide_eq_true e⟩
 rw [h] at this; cases this
theorem set_split {l : List Dev} (h : l.Pairwise (·.node < ·.node)) {n : Int} (hh : hasD l n = true) (x : Dev) : ∃ d r, l = l.take (posD l n) ++ d :: r ∧ l.set (posD l n) x = l.take (posD l n) ++ x :: r ∧ d.node = n ∧ (∀ y ∈ r, n < y.node) ∧ (∀ y ∈ l.take (posD l n), y.node < n) := by
 obtain ⟨d, r, h1, h2, h3, h4⟩ := has_split h hh
 have hl : l = l.take (posD l n) ++ d :: r := by rw [← h1, List.take_append_drop]
 have hlen : (l.take (posD l n)).length = posD l n := by
  rw [List.length_take]
  have : (l.drop (posD l n)).length ≠ 0 := by rw [h1]; simp
  rw [List.length_drop] at this
  omega
 refine ⟨d, r, hl, ?_, h2, h3, h4⟩
 generalize posD l n = i at *
 conv => lhs; rw [hl]
 rw [List.set_append_right _ _ (by omega), hlen, Nat.sub_self, List.set_cons_zero]
/-! ### what an op keeps -/
theorem fresh_ok {b : Book} {o : Op} {m : Bool} (h : freshOf b o m = 0) : o.key ≠ key0 ∧ o.key ∉ takenB b ∧ 1 ≤ o.exp ∧ o.exp ≤ maxN ∧ b.clock < o.exp ∧ (m = true → b.spent.length ≠ 64) := by
 unfold freshOf at h
 by_cases h1 : o.key = key0 ∨ o.key ∈ takenB b
 ·rw [if_pos h1] at h; exact absurd h (by simp)
 ·rw [if_neg h1] at h
  by_cases h2 : o.exp < 1 ∨ number o.exp = false ∨ o.exp ≤ b.clock
  ·rw [if_pos h2] at h; exact absurd h (by simp)
  ·rw [if_neg h2] at h
   by_cases h3 : m = true ∧ b.spent.length = 64
   ·rw [if_pos h3] at h; exact absurd h (by simp)
   ·have h4 : number o.exp = true := by
     cases hq : number o.exp
     ·exact absurd (.inr (.inl hq)) h2
     ·rfl
    have h5 := of_decide_eq_true h4
    exact ⟨fun e => h1 (.inl e), fun e => h1 (.inr e), by omega, h5.2, by omega, fun hm e => h3 ⟨hm, e⟩⟩
theorem taken_put {b : Book} {n : Int} (hw : WF b) (hh : hasD b.devs n = true) (x : Dev) : (takenB { spendOf b (devAt b n).key with devs := b.devs.set (posD b.devs n) x }).Perm (x.key :: takenB b) := by
 obtain ⟨d, r, h1, h2, h3, h4, h5⟩ := set_split hw.devs hh x
 obtain ⟨g1, g2, g3, g4⟩ := has_at hw.devs hh
 have hd : devAt b n = d := by
  have := g2
  generalize posD b.devs n = i at *
  rw [h1, List.getElem?_append_right (by rw [List.length_take]; omega), List.length_take, show i - min i b.devs.length = 0 by omega] at this
  simpa using this.symm
 unfold takenB
 simp only [spendOf]
 rw [h2, hd]
 have e1 : (b.devs.map (·.key)).Perm (d.key :: ((b.devs.take (posD b.devs n) ++ r).map (·.key))) := by
  conv => lhs; rw [h1]
  rw [List.map_append, List.map_cons, List.map_append]
  exact List.perm_middle
 have e2 : ((b.devs.take (posD b.devs n) ++ x :: r).map (·.key)).Perm (x.key :: ((b.devs.take (posD b.devs n) ++ r).map (·.key))) := by
  rw [List.map_append, List.map_cons, List.map_append]
  exact List.perm_middle
 refine ((insertAt_perm _ _ _).append e2).trans ?_
 refine List.perm_middle.trans (List.Perm.cons _ ?_)
 refine List.Perm.trans ?_ ((List.Perm.refl b.spent).append e1).symm
 exact List.perm_middle.symm
theorem taken_rev {b : Book} {n : Int} (hw : WF b) (hh : hasD b.devs n = true) (x : Dev) (hx : x.key = (devAt b n).key) : takenB { b with devs := b.devs.set (posD b.devs n) x } = takenB b := by
 obtain ⟨g1, g2, g3, g4⟩ := has_at hw.devs hh
 unfold takenB
 simp only
 rw [List.map_set, hx]
 congr 1
 refine List.ext_getElem? fun j => ?_
 rw [List.getElem?_set]
 by_cases e : posD b.devs n = j
 ·subst e
  rw [if_pos rfl, List.getElem?_map, g2, if_pos (by simpa using g1)]
  rfl
 ·simp [e]
theorem WF.put {b : Book} (hw : WF b) {n : Int} (hh : hasD b.devs n = true) (x : Dev) (hn : x.node = n) (he : 1 ≤ x.exp ∧ x.exp ≤ maxN) : (b.devs.set (posD b.devs n) x).Pairwise (·.node < ·.node) ∧ (∀ d ∈ b.devs.set (posD b.devs n) x, 1 ≤ d.node ∧ d.node ≤ 8) ∧ (∀ d ∈ b.devs.set (posD b.devs n) x, 1 ≤ d.exp ∧ d.exp ≤ maxN) := by
 obtain ⟨d, r, h1, h2, h3, h4, h5⟩ := set_split hw.devs hh x
 have hp := hw.devs
 rw [h1] at hp
 obtain ⟨q1, q2, q3⟩ := List.pairwise_append.1 hp
 obtain ⟨q4, q5⟩ := List.pairwise_cons.1 q2
 obtain ⟨g1, g2, g3, g4⟩ := has_at hw.devs hh
 refine ⟨?_, fun y hy => ?_, fun y hy => ?_⟩
 ·rw [h2]
  refine List.pairwise_append.2 ⟨q1, List.pairwise_cons.2 ⟨fun y hy => by have := h4 y hy; omega, q5⟩, fun y hy z hz => ?_⟩
  rcases List.mem_cons.1 hz with rfl | hz
  ·have := h5 y hy; omega
  ·exact q3 y hy z (List.mem_cons_of_mem _ hz)
 ·rcases List.mem_or_eq_of_mem_set hy with hy | rfl
  ·exact hw.nodes y hy
  ·have := hw.nodes _ g4; omega
 ·rcases List.mem_or_eq_of_mem_set hy with hy | rfl
  ·exact hw.exps y hy
  ·exact he
theorem WF.spend {b : Book} (hw : WF b) {n : Int} (hh : hasD b.devs n = true) (hl : b.spent.length ≠ 64) (x : Dev) (hn : x.node = n) (he : 1 ≤ x.exp ∧ x.exp ≤ maxN) (hk : x.key ∉ takenB b) (h0 : x.key ≠ key0) :
  WF { spendOf b (devAt b n).key with devs := b.devs.set (posD b.devs n) x } := by
 obtain ⟨p1, p2, p3⟩ := hw.put hh x hn he
 obtain ⟨g1, g2, g3, g4⟩ := has_at hw.devs hh
 have ht := taken_put hw hh x
 have hks : (devAt b n).key ∉ b.spent := fun hm => by
  have := hw.keys
  unfold takenB at this
  exact (List.nodup_append.1 this).2.2 _ hm _ (List.mem_map.2 ⟨_, g4, rfl⟩) rfl
 refine ⟨hw.ver, hw.clock, p1, p2, p3, ?_, ?_, ?_, ?_⟩
 ·refine insertAt_sorted _ _ b.spent _ hw.spent (keys_down hw.spent _) (fun a ha h => h) (fun a ha h => ?_)
  rcases ltK_tri a (devAt b n).key with h' | rfl | h'
  ·rw [h] at h'; cases h'
  ·exact absurd ha hks
  ·exact h'
 ·have := hw.len
  show (insertAt _ _ _).length ≤ 64
  rw [len_insertAt]
  omega
 ·exact ht.nodup_iff.2 (List.nodup_cons.2 ⟨hk, hw.keys⟩)
 ·intro hm
  rcases List.mem_cons.1 (ht.mem_iff.1 hm) with e | e
  ·exact h0 e.symm
  ·exact hw.nonzero e
theorem register_wf {b : Book} (hw : WF b) (o : Op) (h : (registerOf b o).2 = 0) : WF (registerOf b o).1 := by
 unfold registerOf at h ⊢
 by_cases h1 : o.node < 1 ∨ 8 < o.node ∨ hasD b.devs o.node = true ∧ (devAt b o.node).rev = false
 ·rw [if_pos h1] at h; exact absurd h (by simp)
 ·rw [if_neg h1] at h ⊢
  by_cases hf : freshOf b o (hasD b.devs o.node) = 0
  ·rw [if_pos hf] at h ⊢
   obtain ⟨f1, f2, f3, f4, f5, f6⟩ := fresh_ok hf
   by_cases hh : hasD b.devs o.node = true
   ·rw [if_pos hh]
    exact hw.spend hh (f6 hh) (devOf o) rfl ⟨f3, f4⟩ f2 f1
   ·rw [if_neg hh]
    have hnh : hasD b.devs o.node = false := by simpa using hh
    have hne := not_has hnh
    have ht : (takenB { b with devs := insertAt b.devs (posD b.devs o.node) (devOf o) }).Perm (o.key :: takenB b) := by
     unfold takenB
     simp only
     refine ((List.Perm.refl b.spent).append ((insertAt_perm _ _ _).map _)).trans ?_
     rw [List.map_cons]
     exact List.perm_middle
    refine ⟨hw.ver, hw.clock, ?_, fun d hd => ?_, fun d hd => ?_, hw.spent, hw.len, ht.nodup_iff.2 (List.nodup_cons.2 ⟨f2, hw.keys⟩), fun hm => ?_⟩
    ·refine insertAt_sorted _ _ b.devs _ hw.devs (devs_down hw.devs _) (fun a ha h => of_decide_eq_true h) (fun a ha h => ?_)
     have := of_decide_eq_false h
     have := hne a ha
     show o.node < a.node
     omega
    ·rcases mem_insertAt.1 hd with rfl | hd
     ·show 1 ≤ o.node ∧ o.node ≤ 8
      omega
     ·exact hw.nodes d hd
    ·rcases mem_insertAt.1 hd with rfl | hd
     ·exact ⟨f3, f4⟩
     ·exact hw.exps d hd
    ·rcases List.mem_cons.1 (ht.mem_iff.1 hm) with e | e
     ·exact f1 e.symm
     ·exact hw.nonzero e
  ·rw [if_neg hf] at h; exact absurd h hf
theorem live_ok {b : Book} {n : Int} (h : liveOf b n = 0) : hasD b.devs n = true ∧ (devAt b n).rev = false := by
 unfold liveOf at h
 cases h1 : hasD b.devs n
 ·rw [h1] at h; exact absurd h (by simp)
 ·rw [h1] at h
  cases h2 : (devAt b n).rev
  ·exact ⟨rfl, rfl⟩
  ·rw [h2] at h; exact absurd h (by simp)
theorem rotate_wf {b : Book} (hw : WF b) (o : Op) (h : (rotateOf b o).2 = 0) : WF (rotateOf b o).1 := by
 unfold rotateOf at h ⊢
 by_cases h1 : liveOf b o.node = 0
 ·rw [if_pos h1] at h ⊢
  by_cases hf : freshOf b o true = 0
  ·rw [if_pos hf]
   obtain ⟨f1, f2, f3, f4, f5, f6⟩ := fresh_ok hf
   exact hw.spend (live_ok h1).1 (f6 rfl) (devOf o) rfl ⟨f3, f4⟩ f2 f1
  ·rw [if_neg hf] at h; exact absurd h hf
 ·rw [if_neg h1] at h; exact absurd h h1
theorem revoke_wf {b : Book} (hw : WF b) (o : Op) (h : (revokeOf b o).2 = 0) : WF (revokeOf b o).1 := by
 unfold revokeOf at h ⊢
 by_cases h1 : liveOf b o.node = 0
 ·rw [if_pos h1]
  obtain ⟨hh, -⟩ := live_ok h1
  obtain ⟨g1, g2, g3, g4⟩ := has_at hw.devs hh
  have ht := taken_rev hw hh { devAt b o.node with rev := true } rfl
  obtain ⟨p1, p2, p3⟩ := hw.put hh { devAt b o.node with rev := true } g3 (hw.exps (devAt b o.node) g4)
  exact ⟨hw.ver, hw.clock, p1, p2, p3, hw.spent, hw.len, by rw [ht]; exact hw.keys, by rw [ht]; exact hw.nonzero⟩
 ·rw [if_neg h1] at h; exact absurd h h1
theorem next_wf (rules : List UInt8 → Int) {b : Book} (hw : WF b) (o : Op) (h : (nextOf rules b o).2 = 0) : WF (nextOf rules b o).1 := by
 unfold nextOf at h ⊢
 by_cases k1 : o.kind = 1
 ·rw [if_pos k1] at h ⊢; exact register_wf hw o h
 rw [if_neg k1] at h ⊢
 by_cases k2 : o.kind = 2
 ·rw [if_pos k2] at h ⊢; exact rotate_wf hw o h
 rw [if_neg k2] at h ⊢
 by_cases k3 : o.kind = 3
 ·rw [if_pos k3] at h ⊢; exact revoke_wf hw o h
 rw [if_neg k3] at h ⊢
 by_cases k4 : o.kind = 4
 ·rw [if_pos k4] at h ⊢; exact ⟨hw.ver, hw.clock, hw.devs, hw.nodes, hw.exps, hw.spent, hw.len, hw.keys, hw.nonzero⟩
 rw [if_neg k4] at h ⊢
 by_cases k5 : o.kind = 5
 ·rw [if_pos k5] at h ⊢
  unfold advanceOf at h ⊢
  by_cases h1 : o.at_ ≤ b.clock ∨ number o.at_ = false
  ·rw [if_pos h1] at h; exact absurd h (by simp)
  ·rw [if_neg h1]
   have h4 : number o.at_ = true := by
    cases hq : number o.at_
    ·exact absurd (.inr hq) h1
    ·rfl
   have h5 := of_decide_eq_true h4
   exact ⟨hw.ver, h5, hw.devs, hw.nodes, hw.exps, hw.spent, hw.len, hw.keys, hw.nonzero⟩
 ·rw [if_neg k5] at h; exact absurd h (by simp)
theorem apply_wf (rules : List UInt8 → Int) {b : Book} (hw : WF b) (o : Op) : WF (applyOf rules b o) := by
 unfold applyOf
 by_cases h : errOf rules b o = 0
 ·rw [if_pos h]
  unfold errOf at h
  by_cases h1 : (nextOf rules b o).2 = 0 ∧ (nextOf rules b o).1.ver = maxN
  ·rw [if_pos h1] at h; exact absurd h (by simp)
  ·rw [if_neg h1] at h
   have hn := next_wf rules hw o h
   have hv := hn.ver
   have hne : (nextOf rules b o).1.ver ≠ maxN := fun e => h1 ⟨h, e⟩
   exact ⟨⟨by show 0 ≤ _ + 1; omega, by show _ + 1 ≤ maxN; omega⟩, hn.clock, hn.devs, hn.nodes, hn.exps, hn.spent, hn.len, hn.keys, hn.nonzero⟩
 ·rw [if_neg h]; exact hw
theorem book0_wf : WF book0 := ⟨by decide, by decide, .nil, (by intro d hd; cases hd), (by intro d hd; cases hd), .nil, by decide, .nil, by simp [takenB, book0]⟩
theorem devs_len {b : Book} (hw : WF b) : b.devs.length ≤ 8 := by
 have aux : ∀ (l : List Dev) (lo : Int), l.Pairwise (·.node < ·.node) → (∀ d ∈ l, lo ≤ d.node ∧ d.node ≤ 8) → lo ≤ 9 → (l.length : Int) ≤ 9 - lo := by
  intro l
  induction l with
  | nil => intro lo _ _ h; simp; omega
  | cons a l ih =>
   intro lo hp hr hlo
   obtain ⟨p1, p2⟩ := List.pairwise_cons.1 hp
   have ha := hr a (List.mem_cons_self ..)
   have := ih (a.node + 1) p2 (fun d hd => ⟨by have := p1 d hd; omega, (hr d (List.mem_cons_of_mem _ hd)).2⟩) (by omega)
   simp
   omega
 have := aux b.devs 1 hw.devs hw.nodes (by decide)
 omega
end Go.Proofs.YthnpiimiimiijaaGreatDoor.Dir
/- What an op does to a book, in the words that the statements ask for: which devices stay, which keys are spent. -/
namespace Go.Proofs.YthnpiimiimiijaaGreatDoor.Dir
structure Steps (b b' : Book) (err : Int) (ky : Key) : Prop where
 kept : ∀ d ∈ b.devs, (∃ d' ∈ b'.devs, d'.key = d.key ∧ d'.node = d.node ∧ (d.rev = true → d'.rev = true)) ∨ d.key ∈ b'.spent
 spent : ∀ k ∈ b.spent, k ∈ b'.spent
 came : ∀ d' ∈ b'.devs, (∃ d ∈ b.devs, d.key = d'.key ∧ d.node = d'.node) ∨ (d'.key ∉ takenB b ∧ d'.rev = false ∧ err = 0 ∧ d'.key = ky)
 out : ∀ k ∈ b'.spent, k ∈ takenB b
theorem Steps.same (b b' : Book) (err : Int) (ky : Key) (h1 : b'.devs = b.devs) (h2 : b'.spent = b.spent) : Steps b b' err ky where
 kept d hd := .inl ⟨d, by rw [h1]; exact hd, rfl, rfl, id⟩
 spent k hk := by rw [h2]; exact hk
 came d hd := .inl ⟨d, by rw [← h1]; exact hd, rfl, rfl⟩
 out k hk := List.mem_append_left _ (by rw [← h2]; exact hk)
/-! ### a key's device -/
/-! ### DirectNever -/
/-! ### DirectSpends -/
/-! ### DirectLater -/
end Go.Proofs.YthnpiimiimiijaaGreatDoor.Dir
