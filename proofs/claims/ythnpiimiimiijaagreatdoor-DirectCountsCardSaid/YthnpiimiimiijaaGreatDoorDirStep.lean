/- What an op does to a book keeps what holds of all books. -/
import Derived.Test.YthnpiimiimiijaaGreatDoorDirWide
set_option linter.unusedVariables false
set_option linter.unusedSimpArgs false
namespace Go.Proofs.YthnpiimiimiijaaGreatDoor.Dir

/-! ### lists that a mark parts in two -/
theorem count_split {α : Type} (p : α → Bool) : ∀ (l : List α), l.Pairwise (fun a b => p b = true → p a = true) → l.take (l.countP p) = l.filter p ∧ l.drop (l.countP p) = l.filter (fun a => !p a)
  | [], _ => by simp
  | a :: l, h => by
    obtain ⟨h1, h2⟩ := List.pairwise_cons.1 h
    obtain ⟨i1, i2⟩ := count_split p l h2
    cases ha : p a
    · have hl : ∀ x ∈ l, p x = false := fun x hx => by
        cases hp : p x
        · rfl
        · rw [h1 x hx hp] at ha; cases ha
      have h0 : l.countP p = 0 := List.countP_eq_zero.2 (fun x hx => by rw [hl x hx]; decide)
      have e1 : l.filter p = [] := List.filter_eq_nil_iff.2 (fun x hx => by rw [hl x hx]; decide)
      have e2 : l.filter (fun a => !p a) = l := List.filter_eq_self.2 (fun x hx => by rw [hl x hx]; rfl)
      simp [List.countP_cons, ha, h0, e1, e2]
    · simp [List.countP_cons, ha, i1, i2]
theorem insertAt_perm {α : Type} (l : List α) (i : Nat) (x : α) : (insertAt l i x).Perm (x :: l) := by
  unfold insertAt
  refine List.perm_middle.trans ?_
  rw [List.take_append_drop]
theorem mem_insertAt {α : Type} {l : List α} {i : Nat} {x y : α} : y ∈ insertAt l i x ↔ y = x ∨ y ∈ l := by
  rw [(insertAt_perm l i x).mem_iff]; simp
theorem len_insertAt {α : Type} (l : List α) (i : Nat) (x : α) : (insertAt l i x).length = l.length + 1 := (insertAt_perm l i x).length_eq
theorem insertAt_sorted {α : Type} (R : α → α → Prop) (p : α → Bool) (l : List α) (x : α) (hR : l.Pairwise R) (hp : l.Pairwise (fun a b => p b = true → p a = true)) (h1 : ∀ a ∈ l, p a = true → R a x) (h2 : ∀ a ∈ l, p a = false → R x a) :
    (insertAt l (l.countP p) x).Pairwise R := by
  obtain ⟨e1, e2⟩ := count_split p l hp
  have hparts := hR
  rw [← List.take_append_drop (l.countP p) l] at hparts
  obtain ⟨q1, q2, q3⟩ := List.pairwise_append.1 hparts
  unfold insertAt
  refine List.pairwise_append.2 ⟨q1, List.pairwise_cons.2 ⟨fun a ha => ?_, q2⟩, fun a ha b hb => ?_⟩
  · rw [e2] at ha
    obtain ⟨m, hm⟩ := List.mem_filter.1 ha
    exact h2 a m (by simpa using hm)
  · rcases List.mem_cons.1 hb with rfl | hb
    · rw [e1] at ha
      obtain ⟨m, hm⟩ := List.mem_filter.1 ha
      exact h1 a m hm
    · exact q3 a ha b hb
theorem devs_down {l : List Dev} (h : l.Pairwise (·.node < ·.node)) (n : Int) : l.Pairwise (fun a b => decide (b.node < n) = true → decide (a.node < n) = true) :=
  h.imp (fun {a b} hab hb => decide_eq_true (by have := of_decide_eq_true hb; omega))
theorem keys_down {l : List Key} (h : l.Pairwise (fun a b => ltK a b = true)) (k : Key) : l.Pairwise (fun a b => ltK b k = true → ltK a k = true) :=
  h.imp (fun {a b} hab hb => ltK_trans hab hb)

/-! ### where a node's device is -/
theorem has_split {l : List Dev} (h : l.Pairwise (·.node < ·.node)) {n : Int} (hh : hasD l n = true) : ∃ d r, l.drop (posD l n) = d :: r ∧ d.node = n ∧ (∀ x ∈ r, n < x.node) ∧ (∀ x ∈ l.take (posD l n), x.node < n) := by
  obtain ⟨e1, e2⟩ := count_split _ l (devs_down h n)
  obtain ⟨d, hd, hn⟩ := List.any_eq_true.1 hh
  have hn := of_decide_eq_true hn
  have hm : d ∈ l.drop (posD l n) := by unfold posD; rw [e2]; exact List.mem_filter.2 ⟨hd, by simp; omega⟩
  have hp : (l.drop (posD l n)).Pairwise (·.node < ·.node) := h.sublist (List.drop_sublist _ _)
  have hlow : ∀ x ∈ l.drop (posD l n), n ≤ x.node := fun x hx => by
    unfold posD at hx
    rw [e2] at hx
    have := (List.mem_filter.1 hx).2
    simp at this; omega
  have htake : ∀ x ∈ l.take (posD l n), x.node < n := fun x hx => by
    unfold posD at hx
    rw [e1] at hx
    exact of_decide_eq_true (List.mem_filter.1 hx).2
  cases hc : l.drop (posD l n) with
  | nil => rw [hc] at hm; cases hm
  | cons a r =>
    rw [hc] at hm hp hlow
    obtain ⟨p1, p2⟩ := List.pairwise_cons.1 hp
    have ha := hlow a (List.mem_cons_self ..)
    have hdn : a.node = n := by
      rcases List.mem_cons.1 hm with rfl | hdr
      · exact hn
      · have := p1 d hdr; omega
    exact ⟨a, r, rfl, hdn, fun x hx => by have := p1 x hx; omega, htake⟩
theorem has_at {b : Book} (h : b.devs.Pairwise (·.node < ·.node)) {n : Int} (hh : hasD b.devs n = true) : posD b.devs n < b.devs.length ∧ b.devs[posD b.devs n]? = some (devAt b n) ∧ (devAt b n).node = n ∧ devAt b n ∈ b.devs := by
  obtain ⟨d, r, h1, h2, -, -⟩ := has_split h hh
  have hg : b.devs[posD b.devs n]? = some d := by
    have := congrArg (fun l => l[0]?) h1
    simpa using this
  obtain ⟨hlt, he⟩ := List.getElem?_eq_some_iff.1 hg
  have hdv : devAt b n = d := by unfold devAt; rw [List.getD_eq_getElem?_getD, hg]; rfl
  rw [hdv]
  exact ⟨hlt, hg, h2, he ▸ List.getElem_mem hlt⟩
theorem not_has {l : List Dev} {n : Int} (h : hasD l n = false) : ∀ d ∈ l, d.node ≠ n := fun d hd e => by
  have : hasD l n = true := List.any_eq_true.2 ⟨d, hd, decide_eq_true e⟩
  rw [h] at this; cases this
theorem set_split {l : List Dev} (h : l.Pairwise (·.node < ·.node)) {n : Int} (hh : hasD l n = true) (x : Dev) : ∃ d r, l = l.take (posD l n) ++ d :: r ∧ l.set (posD l n) x = l.take (posD l n) ++ x :: r ∧ d.node = n ∧ (∀ y ∈ r, n < y.node) ∧ (∀ y ∈ l.take (posD l n), y.node < n) := by
  obtain ⟨d, r, h1, h2, h3, h4⟩ := has_split h hh
  have hl : l = l.take (posD l n) ++ d :: r := by rw [← h1, List.take_append_drop]
  have hlen : (l.take (posD l n)).length = posD l n := by
    rw [List.length_take]
    have : (l.drop (posD l n)).length ≠ 0 := by rw [h1]; simp
    rw [List.length_drop] at this
    omega
  refine ⟨d, r, hl, ?_, h2, h3, h4⟩
  generalize posD l n = i at *
  conv => lhs; rw [hl]
  rw [List.set_append_right _ _ (by omega), hlen, Nat.sub_self, List.set_cons_zero]

/-! ### what an op keeps -/
theorem fresh_ok {b : Book} {o : Op} {m : Bool} (h : freshOf b o m = 0) : o.key ≠ key0 ∧ o.key ∉ takenB b ∧ 1 ≤ o.exp ∧ o.exp ≤ maxN ∧ b.clock < o.exp ∧ (m = true → b.spent.length ≠ 64) := by
  unfold freshOf at h
  by_cases h1 : o.key = key0 ∨ o.key ∈ takenB b
  · rw [if_pos h1] at h; exact absurd h (by simp)
  · rw [if_neg h1] at h
    by_cases h2 : o.exp < 1 ∨ number o.exp = false ∨ o.exp ≤ b.clock
    · rw [if_pos h2] at h; exact absurd h (by simp)
    · rw [if_neg h2] at h
      by_cases h3 : m = true ∧ b.spent.length = 64
      · rw [if_pos h3] at h; exact absurd h (by simp)
      · have h4 : number o.exp = true := by
          cases hq : number o.exp
          · exact absurd (.inr (.inl hq)) h2
          · rfl
        have h5 := of_decide_eq_true h4
        exact ⟨fun e => h1 (.inl e), fun e => h1 (.inr e), by omega, h5.2, by omega, fun hm e => h3 ⟨hm, e⟩⟩
theorem taken_put {b : Book} {n : Int} (hw : WF b) (hh : hasD b.devs n = true) (x : Dev) : (takenB { spendOf b (devAt b n).key with devs := b.devs.set (posD b.devs n) x }).Perm (x.key :: takenB b) := by
  obtain ⟨d, r, h1, h2, h3, h4, h5⟩ := set_split hw.devs hh x
  obtain ⟨g1, g2, g3, g4⟩ := has_at hw.devs hh
  have hd : devAt b n = d := by
    have := g2
    generalize posD b.devs n = i at *
    rw [h1, List.getElem?_append_right (by rw [List.length_take]; omega), List.length_take, show i - min i b.devs.length = 0 by omega] at this
    simpa using this.symm
  unfold takenB
  simp only [spendOf]
  rw [h2, hd]
  have e1 : (b.devs.map (·.key)).Perm (d.key :: ((b.devs.take (posD b.devs n) ++ r).map (·.key))) := by
    conv => lhs; rw [h1]
    rw [List.map_append, List.map_cons, List.map_append]
    exact List.perm_middle
  have e2 : ((b.devs.take (posD b.devs n) ++ x :: r).map (·.key)).Perm (x.key :: ((b.devs.take (posD b.devs n) ++ r).map (·.key))) := by
    rw [List.map_append, List.map_cons, List.map_append]
    exact List.perm_middle
  refine ((insertAt_perm _ _ _).append e2).trans ?_
  refine List.perm_middle.trans (List.Perm.cons _ ?_)
  refine List.Perm.trans ?_ ((List.Perm.refl b.spent).append e1).symm
  exact List.perm_middle.symm
theorem taken_rev {b : Book} {n : Int} (hw : WF b) (hh : hasD b.devs n = true) (x : Dev) (hx : x.key = (devAt b n).key) : takenB { b with devs := b.devs.set (posD b.devs n) x } = takenB b := by
  obtain ⟨g1, g2, g3, g4⟩ := has_at hw.devs hh
  unfold takenB
  simp only
  rw [List.map_set, hx]
  congr 1
  refine List.ext_getElem? fun j => ?_
  rw [List.getElem?_set]
  by_cases e : posD b.devs n = j
  · subst e
    rw [if_pos rfl, List.getElem?_map, g2, if_pos (by simpa using g1)]
    rfl
  · simp [e]
theorem WF.put {b : Book} (hw : WF b) {n : Int} (hh : hasD b.devs n = true) (x : Dev) (hn : x.node = n) (he : 1 ≤ x.exp ∧ x.exp ≤ maxN) : (b.devs.set (posD b.devs n) x).Pairwise (·.node < ·.node) ∧ (∀ d ∈ b.devs.set (posD b.devs n) x, 1 ≤ d.node ∧ d.node ≤ 8) ∧ (∀ d ∈ b.devs.set (posD b.devs n) x, 1 ≤ d.exp ∧ d.exp ≤ maxN) := by
  obtain ⟨d, r, h1, h2, h3, h4, h5⟩ := set_split hw.devs hh x
  have hp := hw.devs
  rw [h1] at hp
  obtain ⟨q1, q2, q3⟩ := List.pairwise_append.1 hp
  obtain ⟨q4, q5⟩ := List.pairwise_cons.1 q2
  obtain ⟨g1, g2, g3, g4⟩ := has_at hw.devs hh
  refine ⟨?_, fun y hy => ?_, fun y hy => ?_⟩
  · rw [h2]
    refine List.pairwise_append.2 ⟨q1, List.pairwise_cons.2 ⟨fun y hy => by have := h4 y hy; omega, q5⟩, fun y hy z hz => ?_⟩
    rcases List.mem_cons.1 hz with rfl | hz
    · have := h5 y hy; omega
    · exact q3 y hy z (List.mem_cons_of_mem _ hz)
  · rcases List.mem_or_eq_of_mem_set hy with hy | rfl
    · exact hw.nodes y hy
    · have := hw.nodes _ g4; omega
  · rcases List.mem_or_eq_of_mem_set hy with hy | rfl
    · exact hw.exps y hy
    · exact he
theorem WF.spend {b : Book} (hw : WF b) {n : Int} (hh : hasD b.devs n = true) (hl : b.spent.length ≠ 64) (x : Dev) (hn : x.node = n) (he : 1 ≤ x.exp ∧ x.exp ≤ maxN) (hk : x.key ∉ takenB b) (h0 : x.key ≠ key0) :
    WF { spendOf b (devAt b n).key with devs := b.devs.set (posD b.devs n) x } := by
  obtain ⟨p1, p2, p3⟩ := hw.put hh x hn he
  obtain ⟨g1, g2, g3, g4⟩ := has_at hw.devs hh
  have ht := taken_put hw hh x
  have hks : (devAt b n).key ∉ b.spent := fun hm => by
    have := hw.keys
    unfold takenB at this
    exact (List.nodup_append.1 this).2.2 _ hm _ (List.mem_map.2 ⟨_, g4, rfl⟩) rfl
  refine ⟨hw.ver, hw.clock, p1, p2, p3, ?_, ?_, ?_, ?_⟩
  · refine insertAt_sorted _ _ b.spent _ hw.spent (keys_down hw.spent _) (fun a ha h => h) (fun a ha h => ?_)
    rcases ltK_tri a (devAt b n).key with h' | rfl | h'
    · rw [h] at h'; cases h'
    · exact absurd ha hks
    · exact h'
  · have := hw.len
    show (insertAt _ _ _).length ≤ 64
    rw [len_insertAt]
    omega
  · exact ht.nodup_iff.2 (List.nodup_cons.2 ⟨hk, hw.keys⟩)
  · intro hm
    rcases List.mem_cons.1 (ht.mem_iff.1 hm) with e | e
    · exact h0 e.symm
    · exact hw.nonzero e
theorem register_wf {b : Book} (hw : WF b) (o : Op) (h : (registerOf b o).2 = 0) : WF (registerOf b o).1 := by
  unfold registerOf at h ⊢
  by_cases h1 : o.node < 1 ∨ 8 < o.node ∨ hasD b.devs o.node = true ∧ (devAt b o.node).rev = false
  · rw [if_pos h1] at h; exact absurd h (by simp)
  · rw [if_neg h1] at h ⊢
    by_cases hf : freshOf b o (hasD b.devs o.node) = 0
    · rw [if_pos hf] at h ⊢
      obtain ⟨f1, f2, f3, f4, f5, f6⟩ := fresh_ok hf
      by_cases hh : hasD b.devs o.node = true
      · rw [if_pos hh]
        exact hw.spend hh (f6 hh) (devOf o) rfl ⟨f3, f4⟩ f2 f1
      · rw [if_neg hh]
        have hnh : hasD b.devs o.node = false := by simpa using hh
        have hne := not_has hnh
        have ht : (takenB { b with devs := insertAt b.devs (posD b.devs o.node) (devOf o) }).Perm (o.key :: takenB b) := by
          unfold takenB
          simp only
          refine ((List.Perm.refl b.spent).append ((insertAt_perm _ _ _).map _)).trans ?_
          rw [List.map_cons]
          exact List.perm_middle
        refine ⟨hw.ver, hw.clock, ?_, fun d hd => ?_, fun d hd => ?_, hw.spent, hw.len, ht.nodup_iff.2 (List.nodup_cons.2 ⟨f2, hw.keys⟩), fun hm => ?_⟩
        · refine insertAt_sorted _ _ b.devs _ hw.devs (devs_down hw.devs _) (fun a ha h => of_decide_eq_true h) (fun a ha h => ?_)
          have := of_decide_eq_false h
          have := hne a ha
          show o.node < a.node
          omega
        · rcases mem_insertAt.1 hd with rfl | hd
          · show 1 ≤ o.node ∧ o.node ≤ 8
            omega
          · exact hw.nodes d hd
        · rcases mem_insertAt.1 hd with rfl | hd
          · exact ⟨f3, f4⟩
          · exact hw.exps d hd
        · rcases List.mem_cons.1 (ht.mem_iff.1 hm) with e | e
          · exact f1 e.symm
          · exact hw.nonzero e
    · rw [if_neg hf] at h; exact absurd h hf
theorem live_ok {b : Book} {n : Int} (h : liveOf b n = 0) : hasD b.devs n = true ∧ (devAt b n).rev = false := by
  unfold liveOf at h
  cases h1 : hasD b.devs n
  · rw [h1] at h; exact absurd h (by simp)
  · rw [h1] at h
    cases h2 : (devAt b n).rev
    · exact ⟨rfl, rfl⟩
    · rw [h2] at h; exact absurd h (by simp)
theorem rotate_wf {b : Book} (hw : WF b) (o : Op) (h : (rotateOf b o).2 = 0) : WF (rotateOf b o).1 := by
  unfold rotateOf at h ⊢
  by_cases h1 : liveOf b o.node = 0
  · rw [if_pos h1] at h ⊢
    by_cases hf : freshOf b o true = 0
    · rw [if_pos hf]
      obtain ⟨f1, f2, f3, f4, f5, f6⟩ := fresh_ok hf
      exact hw.spend (live_ok h1).1 (f6 rfl) (devOf o) rfl ⟨f3, f4⟩ f2 f1
    · rw [if_neg hf] at h; exact absurd h hf
  · rw [if_neg h1] at h; exact absurd h h1
theorem revoke_wf {b : Book} (hw : WF b) (o : Op) (h : (revokeOf b o).2 = 0) : WF (revokeOf b o).1 := by
  unfold revokeOf at h ⊢
  by_cases h1 : liveOf b o.node = 0
  · rw [if_pos h1]
    obtain ⟨hh, -⟩ := live_ok h1
    obtain ⟨g1, g2, g3, g4⟩ := has_at hw.devs hh
    have ht := taken_rev hw hh { devAt b o.node with rev := true } rfl
    obtain ⟨p1, p2, p3⟩ := hw.put hh { devAt b o.node with rev := true } g3 (hw.exps (devAt b o.node) g4)
    exact ⟨hw.ver, hw.clock, p1, p2, p3, hw.spent, hw.len, by rw [ht]; exact hw.keys, by rw [ht]; exact hw.nonzero⟩
  · rw [if_neg h1] at h; exact absurd h h1
theorem next_wf (rules : List UInt8 → Int) {b : Book} (hw : WF b) (o : Op) (h : (nextOf rules b o).2 = 0) : WF (nextOf rules b o).1 := by
  unfold nextOf at h ⊢
  by_cases k1 : o.kind = 1
  · rw [if_pos k1] at h ⊢; exact register_wf hw o h
  rw [if_neg k1] at h ⊢
  by_cases k2 : o.kind = 2
  · rw [if_pos k2] at h ⊢; exact rotate_wf hw o h
  rw [if_neg k2] at h ⊢
  by_cases k3 : o.kind = 3
  · rw [if_pos k3] at h ⊢; exact revoke_wf hw o h
  rw [if_neg k3] at h ⊢
  by_cases k4 : o.kind = 4
  · rw [if_pos k4] at h ⊢; exact ⟨hw.ver, hw.clock, hw.devs, hw.nodes, hw.exps, hw.spent, hw.len, hw.keys, hw.nonzero⟩
  rw [if_neg k4] at h ⊢
  by_cases k5 : o.kind = 5
  · rw [if_pos k5] at h ⊢
    unfold advanceOf at h ⊢
    by_cases h1 : o.at_ ≤ b.clock ∨ number o.at_ = false
    · rw [if_pos h1] at h; exact absurd h (by simp)
    · rw [if_neg h1]
      have h4 : number o.at_ = true := by
        cases hq : number o.at_
        · exact absurd (.inr hq) h1
        · rfl
      have h5 := of_decide_eq_true h4
      exact ⟨hw.ver, h5, hw.devs, hw.nodes, hw.exps, hw.spent, hw.len, hw.keys, hw.nonzero⟩
  · rw [if_neg k5] at h; exact absurd h (by simp)
theorem apply_wf (rules : List UInt8 → Int) {b : Book} (hw : WF b) (o : Op) : WF (applyOf rules b o) := by
  unfold applyOf
  by_cases h : errOf rules b o = 0
  · rw [if_pos h]
    unfold errOf at h
    by_cases h1 : (nextOf rules b o).2 = 0 ∧ (nextOf rules b o).1.ver = maxN
    · rw [if_pos h1] at h; exact absurd h (by simp)
    · rw [if_neg h1] at h
      have hn := next_wf rules hw o h
      have hv := hn.ver
      have hne : (nextOf rules b o).1.ver ≠ maxN := fun e => h1 ⟨h, e⟩
      exact ⟨⟨by show 0 ≤ _ + 1; omega, by show _ + 1 ≤ maxN; omega⟩, hn.clock, hn.devs, hn.nodes, hn.exps, hn.spent, hn.len, hn.keys, hn.nonzero⟩
  · rw [if_neg h]; exact hw
theorem book0_wf : WF book0 := ⟨by decide, by decide, .nil, (by intro d hd; cases hd), (by intro d hd; cases hd), .nil, by decide, .nil, by simp [takenB, book0]⟩
theorem devs_len {b : Book} (hw : WF b) : b.devs.length ≤ 8 := by
  have aux : ∀ (l : List Dev) (lo : Int), l.Pairwise (·.node < ·.node) → (∀ d ∈ l, lo ≤ d.node ∧ d.node ≤ 8) → lo ≤ 9 → (l.length : Int) ≤ 9 - lo := by
    intro l
    induction l with
    | nil => intro lo _ _ h; simp; omega
    | cons a l ih =>
      intro lo hp hr hlo
      obtain ⟨p1, p2⟩ := List.pairwise_cons.1 hp
      have ha := hr a (List.mem_cons_self ..)
      have := ih (a.node + 1) p2 (fun d hd => ⟨by have := p1 d hd; omega, (hr d (List.mem_cons_of_mem _ hd)).2⟩) (by omega)
      simp
      omega
  have := aux b.devs 1 hw.devs hw.nodes (by decide)
  omega
end Go.Proofs.YthnpiimiimiijaaGreatDoor.Dir
/- What an op does to a book, in the words that the statements ask for: which devices stay, which keys are spent. -/
namespace Go.Proofs.YthnpiimiimiijaaGreatDoor.Dir

theorem mem_set_or {α : Type} (l : List α) (i : Nat) (x d0 : α) (h0 : l[i]? = some d0) {d : α} (hd : d ∈ l) : d ∈ l.set i x ∨ d = d0 := by
  obtain ⟨j, hj⟩ := List.getElem?_of_mem hd
  by_cases e : i = j
  · subst e
    rw [h0] at hj
    exact .inr (Option.some.inj hj).symm
  · refine .inl (List.mem_of_getElem? (i := j) ?_)
    rw [List.getElem?_set, if_neg e]
    exact hj
theorem mem_set_at {α : Type} (l : List α) (i : Nat) (x d0 : α) (h0 : l[i]? = some d0) : x ∈ l.set i x := by
  refine List.mem_of_getElem? (i := i) ?_
  rw [List.getElem?_set, if_pos rfl, if_pos (List.getElem?_eq_some_iff.1 h0).1]

structure Steps (b b' : Book) (err : Int) (ky : Key) : Prop where
  kept : ∀ d ∈ b.devs, (∃ d' ∈ b'.devs, d'.key = d.key ∧ d'.node = d.node ∧ (d.rev = true → d'.rev = true)) ∨ d.key ∈ b'.spent
  spent : ∀ k ∈ b.spent, k ∈ b'.spent
  came : ∀ d' ∈ b'.devs, (∃ d ∈ b.devs, d.key = d'.key ∧ d.node = d'.node) ∨ (d'.key ∉ takenB b ∧ d'.rev = false ∧ err = 0 ∧ d'.key = ky)
  out : ∀ k ∈ b'.spent, k ∈ takenB b

theorem Steps.same (b b' : Book) (err : Int) (ky : Key) (h1 : b'.devs = b.devs) (h2 : b'.spent = b.spent) : Steps b b' err ky where
  kept d hd := .inl ⟨d, by rw [h1]; exact hd, rfl, rfl, id⟩
  spent k hk := by rw [h2]; exact hk
  came d hd := .inl ⟨d, by rw [← h1]; exact hd, rfl, rfl⟩
  out k hk := List.mem_append_left _ (by rw [← h2]; exact hk)
theorem Steps.cast {b b' b2 : Book} {err : Int} {ky : Key} (h : Steps b b' err ky) (h1 : b2.devs = b'.devs) (h2 : b2.spent = b'.spent) : Steps b b2 err ky := by
  obtain ⟨a1, a2, a3, a4⟩ := h
  refine ⟨?_, ?_, ?_, ?_⟩
  · rw [h1, h2]; exact a1
  · rw [h2]; exact a2
  · rw [h1]; exact a3
  · rw [h2]; exact a4
theorem steps_put {b : Book} (hw : WF b) {n : Int} (hh : hasD b.devs n = true) (x : Dev) (hr : x.rev = false) (hk : x.key ∉ takenB b) : Steps b { spendOf b (devAt b n).key with devs := b.devs.set (posD b.devs n) x } 0 x.key := by
  obtain ⟨g1, g2, g3, g4⟩ := has_at hw.devs hh
  refine ⟨fun d hd => ?_, fun k h => mem_insertAt.2 (.inr h), fun d' hd' => ?_, fun k h => ?_⟩
  · rcases mem_set_or _ _ x _ g2 hd with h | h
    · exact .inl ⟨d, h, rfl, rfl, id⟩
    · exact .inr (mem_insertAt.2 (.inl (by rw [h])))
  · rcases List.mem_or_eq_of_mem_set hd' with h | h
    · exact .inl ⟨d', h, rfl, rfl⟩
    · subst h; exact .inr ⟨hk, hr, rfl, rfl⟩
  · rcases mem_insertAt.1 h with h | h
    · subst h; exact List.mem_append_right _ (List.mem_map.2 ⟨_, g4, rfl⟩)
    · exact List.mem_append_left _ h
theorem steps_insert {b : Book} (i : Nat) (x : Dev) (hr : x.rev = false) (hk : x.key ∉ takenB b) : Steps b { b with devs := insertAt b.devs i x } 0 x.key := by
  refine ⟨fun d hd => .inl ⟨d, mem_insertAt.2 (.inr hd), rfl, rfl, id⟩, fun k h => h, fun d' hd' => ?_, fun k h => List.mem_append_left _ h⟩
  rcases mem_insertAt.1 hd' with h | h
  · subst h; exact .inr ⟨hk, hr, rfl, rfl⟩
  · exact .inl ⟨d', h, rfl, rfl⟩
theorem steps_rev {b : Book} (hw : WF b) {n : Int} (hh : hasD b.devs n = true) (ky : Key) : Steps b { b with devs := b.devs.set (posD b.devs n) { devAt b n with rev := true } } 0 ky := by
  obtain ⟨g1, g2, g3, g4⟩ := has_at hw.devs hh
  refine ⟨fun d hd => ?_, fun k h => h, fun d' hd' => ?_, fun k h => List.mem_append_left _ h⟩
  · rcases mem_set_or _ _ { devAt b n with rev := true } _ g2 hd with h | h
    · exact .inl ⟨d, h, rfl, rfl, id⟩
    · exact .inl ⟨_, mem_set_at _ _ _ _ g2, by rw [h], by rw [h], fun _ => rfl⟩
  · rcases List.mem_or_eq_of_mem_set hd' with h | h
    · exact .inl ⟨d', h, rfl, rfl⟩
    · subst h; exact .inl ⟨_, g4, rfl, rfl⟩
theorem steps_next (rules : List UInt8 → Int) {b : Book} (hw : WF b) (o : Op) (h : (nextOf rules b o).2 = 0) : Steps b (nextOf rules b o).1 0 o.key := by
  unfold nextOf at h ⊢
  by_cases k1 : o.kind = 1
  · rw [if_pos k1] at h ⊢
    unfold registerOf at h ⊢
    by_cases h1 : o.node < 1 ∨ 8 < o.node ∨ hasD b.devs o.node = true ∧ (devAt b o.node).rev = false
    · rw [if_pos h1] at h; exact absurd h (by simp)
    · rw [if_neg h1] at h ⊢
      by_cases h2 : freshOf b o (hasD b.devs o.node) = 0
      · rw [if_pos h2]
        obtain ⟨-, f2, -⟩ := fresh_ok h2
        by_cases h3 : hasD b.devs o.node = true
        · rw [if_pos h3]; exact steps_put hw h3 (devOf o) rfl f2
        · rw [if_neg h3]; exact steps_insert _ (devOf o) rfl f2
      · rw [if_neg h2] at h; exact absurd h h2
  · rw [if_neg k1] at h ⊢
    by_cases k2 : o.kind = 2
    · rw [if_pos k2] at h ⊢
      unfold rotateOf at h ⊢
      by_cases h1 : liveOf b o.node = 0
      · rw [if_pos h1] at h ⊢
        by_cases h2 : freshOf b o true = 0
        · rw [if_pos h2]
          obtain ⟨-, f2, -⟩ := fresh_ok h2
          exact steps_put hw (live_ok h1).1 (devOf o) rfl f2
        · rw [if_neg h2] at h; exact absurd h h2
      · rw [if_neg h1] at h; exact absurd h h1
    · rw [if_neg k2] at h ⊢
      by_cases k3 : o.kind = 3
      · rw [if_pos k3] at h ⊢
        unfold revokeOf at h ⊢
        by_cases h1 : liveOf b o.node = 0
        · rw [if_pos h1]
          exact steps_rev hw (live_ok h1).1 _
        · rw [if_neg h1] at h; exact absurd h h1
      · rw [if_neg k3] at h ⊢
        by_cases k4 : o.kind = 4
        · rw [if_pos k4]; exact Steps.same _ _ _ _ rfl rfl
        · rw [if_neg k4] at h ⊢
          by_cases k5 : o.kind = 5
          · rw [if_pos k5] at h ⊢
            unfold advanceOf at h ⊢
            by_cases h1 : o.at_ ≤ b.clock ∨ number o.at_ = false
            · rw [if_pos h1] at h; exact absurd h (by simp)
            · rw [if_neg h1]; exact Steps.same _ _ _ _ rfl rfl
          · rw [if_neg k5] at h; exact absurd h (by simp)
theorem steps_apply (rules : List UInt8 → Int) {b : Book} (hw : WF b) (o : Op) : Steps b (applyOf rules b o) (errOf rules b o) o.key := by
  unfold applyOf
  by_cases h : errOf rules b o = 0
  · rw [if_pos h, h]
    have h2 : (nextOf rules b o).2 = 0 := by
      unfold errOf at h
      split at h
      · exact absurd h (by simp)
      · exact h
    exact (steps_next rules hw o h2).cast rfl rfl
  · rw [if_neg h]
    exact Steps.same _ _ _ _ rfl rfl

/-! ### a key's device -/
theorem dev_one {b : Book} (hw : WF b) {d d' : Dev} (h1 : d ∈ b.devs) (h2 : d' ∈ b.devs) (hk : d.key = d'.key) : d = d' := by
  have hn : (b.devs.map (·.key)).Nodup := (List.nodup_append.1 hw.keys).2.1
  obtain ⟨i, hi⟩ := List.getElem?_of_mem h1
  obtain ⟨j, hj⟩ := List.getElem?_of_mem h2
  have hi' := (List.getElem?_eq_some_iff.1 hi).1
  have e : i = j := (List.getElem?_inj (by simpa using hi') hn).1 (by rw [List.getElem?_map, List.getElem?_map, hi, hj]; simp [hk])
  subst e
  rw [hi] at hj
  exact Option.some.inj hj
theorem dev_not_spent {b : Book} (hw : WF b) {d : Dev} (h1 : d ∈ b.devs) : d.key ∉ b.spent := fun hm =>
  (List.nodup_append.1 hw.keys).2.2 _ hm _ (List.mem_map.2 ⟨_, h1, rfl⟩) rfl
/-- The node of the device that has a key; 0: none has it. -/
def nodeOf (b : Book) (k : Key) : Int := match b.devs.find? (fun d => decide (d.key = k)) with | none => 0 | some d => d.node
def revOf (b : Book) (k : Key) : Bool := b.devs.any fun d => decide (d.key = k) && d.rev
theorem nodeOf_some {b : Book} (hw : WF b) {d : Dev} (hd : d ∈ b.devs) : nodeOf b d.key = d.node := by
  unfold nodeOf
  cases hf : b.devs.find? (fun x => decide (x.key = d.key)) with
  | none => exact absurd (List.find?_eq_none.1 hf d hd) (by simp)
  | some x =>
    have := dev_one hw (List.mem_of_find?_eq_some hf) hd (by simpa using List.find?_some hf)
    rw [this]
theorem nodeOf_pos {b : Book} {k : Key} (h : nodeOf b k ≠ 0) : ∃ d ∈ b.devs, d.key = k ∧ nodeOf b k = d.node := by
  unfold nodeOf at h ⊢
  cases hf : b.devs.find? (fun x => decide (x.key = k)) with
  | none => rw [hf] at h; exact absurd rfl h
  | some x => exact ⟨x, List.mem_of_find?_eq_some hf, by simpa using List.find?_some hf, rfl⟩
theorem nodeOf_nonneg {b : Book} (hw : WF b) (k : Key) : 0 ≤ nodeOf b k := by
  by_cases h : nodeOf b k = 0
  · omega
  · obtain ⟨d, hd, -, e⟩ := nodeOf_pos h
    have := (hw.nodes d hd).1
    omega

/-! ### DirectNever -/
/-- What is gone: spent, or of a device that was revoked. -/
def Gone (b : Book) (k : Key) : Prop := k ∈ b.spent ∨ ∃ d ∈ b.devs, d.key = k ∧ d.rev = true
theorem gone_step (rules : List UInt8 → Int) {b : Book} (hw : WF b) (o : Op) {k : Key} (h : Gone b k) : Gone (applyOf rules b o) k := by
  have S := steps_apply rules hw o
  rcases h with h | ⟨d, hd, rfl, hr⟩
  · exact .inl (S.spent k h)
  · rcases S.kept d hd with ⟨d', h1, h2, h3, h4⟩ | h
    · exact .inr ⟨d', h1, h2, h4 hr⟩
    · exact .inl h
theorem gone_moved (rules : List UInt8 → Int) {b : Book} (hw : WF b) (o : Op) {k : Key} (h1 : nodeOf b k ≠ 0) (h2 : nodeOf (applyOf rules b o) k ≠ nodeOf b k) : Gone (applyOf rules b o) k := by
  have S := steps_apply rules hw o
  have hw' := apply_wf rules hw o
  obtain ⟨d, hd, rfl, e⟩ := nodeOf_pos h1
  rcases S.kept d hd with ⟨d', g1, g2, g3, -⟩ | h
  · rw [← g2, nodeOf_some hw' g1, g2, e, g3] at h2
    exact absurd rfl h2
  · exact .inl h
theorem gone_rev {b : Book} {k : Key} (h : revOf b k = true) : Gone b k := by
  obtain ⟨d, hd, h⟩ := List.any_eq_true.1 h
  simp only [Bool.and_eq_true, decide_eq_true_eq] at h
  exact .inr ⟨d, hd, h.1, h.2⟩
/-- A key that comes is not gone, and the op was accepted. -/
theorem came_new (rules : List UInt8 → Int) {b : Book} (hw : WF b) (o : Op) {k : Key} (h1 : nodeOf b k = 0) (h2 : nodeOf (applyOf rules b o) k ≠ 0) : errOf rules b o = 0 ∧ ¬ Gone (applyOf rules b o) k := by
  have S := steps_apply rules hw o
  have hw' := apply_wf rules hw o
  obtain ⟨d', hd', rfl, e⟩ := nodeOf_pos h2
  rcases S.came d' hd' with ⟨d, g1, g2, g3⟩ | ⟨g1, g2, g3, -⟩
  · rw [← g2, nodeOf_some hw g1] at h1
    have := (hw.nodes d g1).1
    omega
  · refine ⟨g3, ?_⟩
    rintro (h | ⟨d, hd, hk, hr⟩)
    · exact dev_not_spent hw' hd' h
    · rw [dev_one hw' hd hd' hk, g2] at hr
      cases hr
theorem valid_live {b : Book} (hw : WF b) {k : Key} {now m : Int} (h : validOf b k now = some m) : ¬ Gone b k ∧ nodeOf b k = m ∧ 0 < m := by
  unfold validOf at h
  cases hf : b.devs.find? (fun d => decide (d.key = k)) with
  | none => rw [hf] at h; cases h
  | some d =>
    rw [hf] at h
    simp only at h
    split at h
    · cases h
    · rename_i hn
      have hd := List.mem_of_find?_eq_some hf
      have hk : d.key = k := by simpa using List.find?_some hf
      subst hk
      have hm := Option.some.inj h
      refine ⟨?_, by rw [nodeOf_some hw hd, hm], by have := (hw.nodes d hd).1; omega⟩
      rintro (h | ⟨x, hx, hk, hr⟩)
      · exact dev_not_spent hw hd h
      · rw [dev_one hw hx hd hk] at hr
        exact hn (.inl hr)

/-! ### DirectSpends -/
theorem taken_step (rules : List UInt8 → Int) {b : Book} (hw : WF b) (o : Op) {k : Key} (h : k ∈ takenB (applyOf rules b o)) : k ∈ takenB b ∨ k = o.key := by
  have S := steps_apply rules hw o
  rcases List.mem_append.1 h with h | h
  · exact .inl (S.out k h)
  · obtain ⟨d', hd', rfl⟩ := List.mem_map.1 h
    rcases S.came d' hd' with ⟨d, g1, g2, -⟩ | ⟨-, -, -, g⟩
    · exact .inl (List.mem_append_right _ (List.mem_map.2 ⟨d, g1, g2⟩))
    · exact .inr g
theorem taken_grows (rules : List UInt8 → Int) {b : Book} (hw : WF b) (o : Op) {k : Key} (h : k ∈ takenB b) : k ∈ takenB (applyOf rules b o) := by
  have S := steps_apply rules hw o
  rcases List.mem_append.1 h with h | h
  · exact List.mem_append_left _ (S.spent k h)
  · obtain ⟨d, hd, rfl⟩ := List.mem_map.1 h
    rcases S.kept d hd with ⟨d', g1, g2, -⟩ | g
    · exact List.mem_append_right _ (List.mem_map.2 ⟨d', g1, g2⟩)
    · exact List.mem_append_left _ g
/-- Whether a device has a key. -/
def devHas (b : Book) (k : Key) : Bool := b.devs.any fun d => decide (d.key = k)
theorem devHas_iff (b : Book) (k : Key) : devHas b k = true ↔ k ∈ b.devs.map (·.key) := by
  unfold devHas
  rw [List.any_eq_true, List.mem_map]
  exact ⟨fun ⟨d, h1, h2⟩ => ⟨d, h1, of_decide_eq_true h2⟩, fun ⟨d, h1, h2⟩ => ⟨d, h1, decide_eq_true h2⟩⟩
theorem spends_out (rules : List UInt8 → Int) {b : Book} (hw : WF b) (o : Op) (k : Key) :
    decide (k ∈ (applyOf rules b o).spent) = ((decide (k ∈ takenB b) || devHas (applyOf rules b o) k) && !devHas (applyOf rules b o) k) := by
  have S := steps_apply rules hw o
  have hw' := apply_wf rules hw o
  rw [Bool.eq_iff_iff]
  simp only [Bool.and_eq_true, Bool.or_eq_true, decide_eq_true_eq, Bool.not_eq_true']
  constructor
  · intro h
    refine ⟨.inl (S.out k h), ?_⟩
    cases hd : devHas (applyOf rules b o) k
    · rfl
    · obtain ⟨d, h1, h2⟩ := List.mem_map.1 ((devHas_iff _ _).1 hd)
      exact absurd h (h2 ▸ dev_not_spent hw' h1)
  · rintro ⟨h, hn⟩
    rcases h with h | h
    · rcases List.mem_append.1 (taken_grows rules hw o h) with h | h
      · exact h
      · rw [(devHas_iff _ _).2 h] at hn; cases hn
    · rw [h] at hn; cases hn
theorem spends_had (rules : List UInt8 → Int) {b : Book} (hw : WF b) (o : Op) (k : Key) :
    (decide (k ∈ takenB b) || devHas (applyOf rules b o) k) = decide (k ∈ takenB (applyOf rules b o)) := by
  have S := steps_apply rules hw o
  rw [Bool.eq_iff_iff]
  simp only [Bool.or_eq_true, decide_eq_true_eq, devHas_iff]
  constructor
  · rintro (h | h)
    · exact taken_grows rules hw o h
    · exact List.mem_append_right _ h
  · intro h
    rcases List.mem_append.1 h with h | h
    · exact .inl (S.out k h)
    · exact .inr h
/-- Of n things named one by one, those in a list without repetition are as many as it is long, if it has no others. -/
theorem count_named {α : Type} [DecidableEq α] (f : Nat → α) (n : Nat) (hf : ∀ i j, i < n → j < n → f i = f j → i = j) (l : List α) (hl : l.Nodup) (h : ∀ x ∈ l, ∃ i, i < n ∧ x = f i) :
    (List.range n).countP (fun i => decide (f i ∈ l)) = l.length := by
  have hp : ((List.range n).filter (fun i => decide (f i ∈ l))).map f |>.Perm l := by
    refine (List.perm_ext_iff_of_nodup ?_ hl).2 fun x => ?_
    · refine List.pairwise_map.2 ((List.nodup_range.sublist List.filter_sublist).imp_of_mem (fun {i j} hi hj hne e => hne ?_))
      exact hf i j (by simpa using (List.mem_filter.1 hi).1) (by simpa using (List.mem_filter.1 hj).1) e
    · simp only [List.mem_map, List.mem_filter, List.mem_range, decide_eq_true_eq]
      constructor
      · rintro ⟨i, ⟨-, h2⟩, rfl⟩; exact h2
      · intro hx
        obtain ⟨i, h1, rfl⟩ := h x hx
        exact ⟨i, ⟨h1, hx⟩, rfl⟩
  rw [List.countP_eq_length_filter, ← hp.length_eq, List.length_map]

/-! ### DirectLater -/
theorem valid_later {b : Book} {k : Key} {x y m : Int} (hxy : x ≤ y) (h : validOf b k y = some m) : validOf b k x = some m := by
  unfold validOf at h ⊢
  cases hf : b.devs.find? (fun d => decide (d.key = k)) with
  | none => rw [hf] at h; cases h
  | some d =>
    rw [hf] at h
    simp only at h ⊢
    split at h
    · cases h
    · rename_i hn
      rw [if_neg (fun hc => hn (hc.imp id (fun hc => hc.imp (fun hc => by omega) id)))]
      exact h
end Go.Proofs.YthnpiimiimiijaaGreatDoor.Dir
