/- What an op does to a book, in the words that the statements ask for: which devices stay, which keys are spent. -/
import Derived.Test.YthnpiimiimiijaaGreatDoorDirPure
namespace Go.Proofs.YthnpiimiimiijaaGreatDoor.Dir

theorem mem_set_or {α : Type} (l : List α) (i : Nat) (x d0 : α) (h0 : l[i]? = some d0) {d : α} (hd : d ∈ l) : d ∈ l.set i x ∨ d = d0 := by
  obtain ⟨j, hj⟩ := List.getElem?_of_mem hd
  by_cases e : i = j
  · subst e
    rw [h0] at hj
    exact .inr (Option.some.inj hj).symm
  · refine .inl (List.mem_of_getElem? (i := j) ?_)
    rw [List.getElem?_set, if_neg e]
    exact hj
theorem mem_set_at {α : Type} (l : List α) (i : Nat) (x d0 : α) (h0 : l[i]? = some d0) : x ∈ l.set i x := by
  refine List.mem_of_getElem? (i := i) ?_
  rw [List.getElem?_set, if_pos rfl, if_pos (List.getElem?_eq_some_iff.1 h0).1]

structure Steps (b b' : Book) (err : Int) (ky : Key) : Prop where
  kept : ∀ d ∈ b.devs, (∃ d' ∈ b'.devs, d'.key = d.key ∧ d'.node = d.node ∧ (d.rev = true → d'.rev = true)) ∨ d.key ∈ b'.spent
  spent : ∀ k ∈ b.spent, k ∈ b'.spent
  came : ∀ d' ∈ b'.devs, (∃ d ∈ b.devs, d.key = d'.key ∧ d.node = d'.node) ∨ (d'.key ∉ takenB b ∧ d'.rev = false ∧ err = 0 ∧ d'.key = ky)
  out : ∀ k ∈ b'.spent, k ∈ takenB b

theorem Steps.same (b b' : Book) (err : Int) (ky : Key) (h1 : b'.devs = b.devs) (h2 : b'.spent = b.spent) : Steps b b' err ky where
  kept d hd := .inl ⟨d, by rw [h1]; exact hd, rfl, rfl, id⟩
  spent k hk := by rw [h2]; exact hk
  came d hd := .inl ⟨d, by rw [← h1]; exact hd, rfl, rfl⟩
  out k hk := List.mem_append_left _ (by rw [← h2]; exact hk)
theorem Steps.cast {b b' b2 : Book} {err : Int} {ky : Key} (h : Steps b b' err ky) (h1 : b2.devs = b'.devs) (h2 : b2.spent = b'.spent) : Steps b b2 err ky := by
  obtain ⟨a1, a2, a3, a4⟩ := h
  refine ⟨?_, ?_, ?_, ?_⟩
  · rw [h1, h2]; exact a1
  · rw [h2]; exact a2
  · rw [h1]; exact a3
  · rw [h2]; exact a4
theorem steps_put {b : Book} (hw : WF b) {n : Int} (hh : hasD b.devs n = true) (x : Dev) (hr : x.rev = false) (hk : x.key ∉ takenB b) : Steps b { spendOf b (devAt b n).key with devs := b.devs.set (posD b.devs n) x } 0 x.key := by
  obtain ⟨g1, g2, g3, g4⟩ := has_at hw.devs hh
  refine ⟨fun d hd => ?_, fun k h => mem_insertAt.2 (.inr h), fun d' hd' => ?_, fun k h => ?_⟩
  · rcases mem_set_or _ _ x _ g2 hd with h | h
    · exact .inl ⟨d, h, rfl, rfl, id⟩
    · exact .inr (mem_insertAt.2 (.inl (by rw [h])))
  · rcases List.mem_or_eq_of_mem_set hd' with h | h
    · exact .inl ⟨d', h, rfl, rfl⟩
    · subst h; exact .inr ⟨hk, hr, rfl, rfl⟩
  · rcases mem_insertAt.1 h with h | h
    · subst h; exact List.mem_append_right _ (List.mem_map.2 ⟨_, g4, rfl⟩)
    · exact List.mem_append_left _ h
theorem steps_insert {b : Book} (i : Nat) (x : Dev) (hr : x.rev = false) (hk : x.key ∉ takenB b) : Steps b { b with devs := insertAt b.devs i x } 0 x.key := by
  refine ⟨fun d hd => .inl ⟨d, mem_insertAt.2 (.inr hd), rfl, rfl, id⟩, fun k h => h, fun d' hd' => ?_, fun k h => List.mem_append_left _ h⟩
  rcases mem_insertAt.1 hd' with h | h
  · subst h; exact .inr ⟨hk, hr, rfl, rfl⟩
  · exact .inl ⟨d', h, rfl, rfl⟩
theorem steps_rev {b : Book} (hw : WF b) {n : Int} (hh : hasD b.devs n = true) (ky : Key) : Steps b { b with devs := b.devs.set (posD b.devs n) { devAt b n with rev := true } } 0 ky := by
  obtain ⟨g1, g2, g3, g4⟩ := has_at hw.devs hh
  refine ⟨fun d hd => ?_, fun k h => h, fun d' hd' => ?_, fun k h => List.mem_append_left _ h⟩
  · rcases mem_set_or _ _ { devAt b n with rev := true } _ g2 hd with h | h
    · exact .inl ⟨d, h, rfl, rfl, id⟩
    · exact .inl ⟨_, mem_set_at _ _ _ _ g2, by rw [h], by rw [h], fun _ => rfl⟩
  · rcases List.mem_or_eq_of_mem_set hd' with h | h
    · exact .inl ⟨d', h, rfl, rfl⟩
    · subst h; exact .inl ⟨_, g4, rfl, rfl⟩
theorem steps_next (rules : List UInt8 → Int) {b : Book} (hw : WF b) (o : Op) (h : (nextOf rules b o).2 = 0) : Steps b (nextOf rules b o).1 0 o.key := by
  unfold nextOf at h ⊢
  by_cases k1 : o.kind = 1
  · rw [if_pos k1] at h ⊢
    unfold registerOf at h ⊢
    by_cases h1 : o.node < 1 ∨ 8 < o.node ∨ hasD b.devs o.node = true ∧ (devAt b o.node).rev = false
    · rw [if_pos h1] at h; exact absurd h (by simp)
    · rw [if_neg h1] at h ⊢
      by_cases h2 : freshOf b o (hasD b.devs o.node) = 0
      · rw [if_pos h2]
        obtain ⟨-, f2, -⟩ := fresh_ok h2
        by_cases h3 : hasD b.devs o.node = true
        · rw [if_pos h3]; exact steps_put hw h3 (devOf o) rfl f2
        · rw [if_neg h3]; exact steps_insert _ (devOf o) rfl f2
      · rw [if_neg h2] at h; exact absurd h h2
  · rw [if_neg k1] at h ⊢
    by_cases k2 : o.kind = 2
    · rw [if_pos k2] at h ⊢
      unfold rotateOf at h ⊢
      by_cases h1 : liveOf b o.node = 0
      · rw [if_pos h1] at h ⊢
        by_cases h2 : freshOf b o true = 0
        · rw [if_pos h2]
          obtain ⟨-, f2, -⟩ := fresh_ok h2
          exact steps_put hw (live_ok h1).1 (devOf o) rfl f2
        · rw [if_neg h2] at h; exact absurd h h2
      · rw [if_neg h1] at h; exact absurd h h1
    · rw [if_neg k2] at h ⊢
      by_cases k3 : o.kind = 3
      · rw [if_pos k3] at h ⊢
        unfold revokeOf at h ⊢
        by_cases h1 : liveOf b o.node = 0
        · rw [if_pos h1]
          exact steps_rev hw (live_ok h1).1 _
        · rw [if_neg h1] at h; exact absurd h h1
      · rw [if_neg k3] at h ⊢
        by_cases k4 : o.kind = 4
        · rw [if_pos k4]; exact Steps.same _ _ _ _ rfl rfl
        · rw [if_neg k4] at h ⊢
          by_cases k5 : o.kind = 5
          · rw [if_pos k5] at h ⊢
            unfold advanceOf at h ⊢
            by_cases h1 : o.at_ ≤ b.clock ∨ number o.at_ = false
            · rw [if_pos h1] at h; exact absurd h (by simp)
            · rw [if_neg h1]; exact Steps.same _ _ _ _ rfl rfl
          · rw [if_neg k5] at h; exact absurd h (by simp)
theorem steps_apply (rules : List UInt8 → Int) {b : Book} (hw : WF b) (o : Op) : Steps b (applyOf rules b o) (errOf rules b o) o.key := by
  unfold applyOf
  by_cases h : errOf rules b o = 0
  · rw [if_pos h, h]
    have h2 : (nextOf rules b o).2 = 0 := by
      unfold errOf at h
      split at h
      · exact absurd h (by simp)
      · exact h
    exact (steps_next rules hw o h2).cast rfl rfl
  · rw [if_neg h]
    exact Steps.same _ _ _ _ rfl rfl

/-! ### a key's device -/
theorem dev_one {b : Book} (hw : WF b) {d d' : Dev} (h1 : d ∈ b.devs) (h2 : d' ∈ b.devs) (hk : d.key = d'.key) : d = d' := by
  have hn : (b.devs.map (·.key)).Nodup := (List.nodup_append.1 hw.keys).2.1
  obtain ⟨i, hi⟩ := List.getElem?_of_mem h1
  obtain ⟨j, hj⟩ := List.getElem?_of_mem h2
  have hi' := (List.getElem?_eq_some_iff.1 hi).1
  have e : i = j := (List.getElem?_inj (by simpa using hi') hn).1 (by rw [List.getElem?_map, List.getElem?_map, hi, hj]; simp [hk])
  subst e
  rw [hi] at hj
  exact Option.some.inj hj
theorem dev_not_spent {b : Book} (hw : WF b) {d : Dev} (h1 : d ∈ b.devs) : d.key ∉ b.spent := fun hm =>
  (List.nodup_append.1 hw.keys).2.2 _ hm _ (List.mem_map.2 ⟨_, h1, rfl⟩) rfl
/-- The node of the device that has a key; 0: none has it. -/
def nodeOf (b : Book) (k : Key) : Int := match b.devs.find? (fun d => decide (d.key = k)) with | none => 0 | some d => d.node
def revOf (b : Book) (k : Key) : Bool := b.devs.any fun d => decide (d.key = k) && d.rev
theorem nodeOf_some {b : Book} (hw : WF b) {d : Dev} (hd : d ∈ b.devs) : nodeOf b d.key = d.node := by
  unfold nodeOf
  cases hf : b.devs.find? (fun x => decide (x.key = d.key)) with
  | none => exact absurd (List.find?_eq_none.1 hf d hd) (by simp)
  | some x =>
    have := dev_one hw (List.mem_of_find?_eq_some hf) hd (by simpa using List.find?_some hf)
    rw [this]
theorem nodeOf_pos {b : Book} {k : Key} (h : nodeOf b k ≠ 0) : ∃ d ∈ b.devs, d.key = k ∧ nodeOf b k = d.node := by
  unfold nodeOf at h ⊢
  cases hf : b.devs.find? (fun x => decide (x.key = k)) with
  | none => rw [hf] at h; exact absurd rfl h
  | some x => exact ⟨x, List.mem_of_find?_eq_some hf, by simpa using List.find?_some hf, rfl⟩
theorem nodeOf_nonneg {b : Book} (hw : WF b) (k : Key) : 0 ≤ nodeOf b k := by
  by_cases h : nodeOf b k = 0
  · omega
  · obtain ⟨d, hd, -, e⟩ := nodeOf_pos h
    have := (hw.nodes d hd).1
    omega

/-! ### DirectNever -/
/-- What is gone: spent, or of a device that was revoked. -/
def Gone (b : Book) (k : Key) : Prop := k ∈ b.spent ∨ ∃ d ∈ b.devs, d.key = k ∧ d.rev = true
theorem gone_step (rules : List UInt8 → Int) {b : Book} (hw : WF b) (o : Op) {k : Key} (h : Gone b k) : Gone (applyOf rules b o) k := by
  have S := steps_apply rules hw o
  rcases h with h | ⟨d, hd, rfl, hr⟩
  · exact .inl (S.spent k h)
  · rcases S.kept d hd with ⟨d', h1, h2, h3, h4⟩ | h
    · exact .inr ⟨d', h1, h2, h4 hr⟩
    · exact .inl h
theorem gone_moved (rules : List UInt8 → Int) {b : Book} (hw : WF b) (o : Op) {k : Key} (h1 : nodeOf b k ≠ 0) (h2 : nodeOf (applyOf rules b o) k ≠ nodeOf b k) : Gone (applyOf rules b o) k := by
  have S := steps_apply rules hw o
  have hw' := apply_wf rules hw o
  obtain ⟨d, hd, rfl, e⟩ := nodeOf_pos h1
  rcases S.kept d hd with ⟨d', g1, g2, g3, -⟩ | h
  · rw [← g2, nodeOf_some hw' g1, g2, e, g3] at h2
    exact absurd rfl h2
  · exact .inl h
theorem gone_rev {b : Book} {k : Key} (h : revOf b k = true) : Gone b k := by
  obtain ⟨d, hd, h⟩ := List.any_eq_true.1 h
  simp only [Bool.and_eq_true, decide_eq_true_eq] at h
  exact .inr ⟨d, hd, h.1, h.2⟩
/-- A key that comes is not gone, and the op was accepted. -/
theorem came_new (rules : List UInt8 → Int) {b : Book} (hw : WF b) (o : Op) {k : Key} (h1 : nodeOf b k = 0) (h2 : nodeOf (applyOf rules b o) k ≠ 0) : errOf rules b o = 0 ∧ ¬ Gone (applyOf rules b o) k := by
  have S := steps_apply rules hw o
  have hw' := apply_wf rules hw o
  obtain ⟨d', hd', rfl, e⟩ := nodeOf_pos h2
  rcases S.came d' hd' with ⟨d, g1, g2, g3⟩ | ⟨g1, g2, g3, -⟩
  · rw [← g2, nodeOf_some hw g1] at h1
    have := (hw.nodes d g1).1
    omega
  · refine ⟨g3, ?_⟩
    rintro (h | ⟨d, hd, hk, hr⟩)
    · exact dev_not_spent hw' hd' h
    · rw [dev_one hw' hd hd' hk, g2] at hr
      cases hr
theorem valid_live {b : Book} (hw : WF b) {k : Key} {now m : Int} (h : validOf b k now = some m) : ¬ Gone b k ∧ nodeOf b k = m ∧ 0 < m := by
  unfold validOf at h
  cases hf : b.devs.find? (fun d => decide (d.key = k)) with
  | none => rw [hf] at h; cases h
  | some d =>
    rw [hf] at h
    simp only at h
    split at h
    · cases h
    · rename_i hn
      have hd := List.mem_of_find?_eq_some hf
      have hk : d.key = k := by simpa using List.find?_some hf
      subst hk
      have hm := Option.some.inj h
      refine ⟨?_, by rw [nodeOf_some hw hd, hm], by have := (hw.nodes d hd).1; omega⟩
      rintro (h | ⟨x, hx, hk, hr⟩)
      · exact dev_not_spent hw hd h
      · rw [dev_one hw hx hd hk] at hr
        exact hn (.inl hr)

/-! ### DirectSpends -/
theorem taken_step (rules : List UInt8 → Int) {b : Book} (hw : WF b) (o : Op) {k : Key} (h : k ∈ takenB (applyOf rules b o)) : k ∈ takenB b ∨ k = o.key := by
  have S := steps_apply rules hw o
  rcases List.mem_append.1 h with h | h
  · exact .inl (S.out k h)
  · obtain ⟨d', hd', rfl⟩ := List.mem_map.1 h
    rcases S.came d' hd' with ⟨d, g1, g2, -⟩ | ⟨-, -, -, g⟩
    · exact .inl (List.mem_append_right _ (List.mem_map.2 ⟨d, g1, g2⟩))
    · exact .inr g
theorem taken_grows (rules : List UInt8 → Int) {b : Book} (hw : WF b) (o : Op) {k : Key} (h : k ∈ takenB b) : k ∈ takenB (applyOf rules b o) := by
  have S := steps_apply rules hw o
  rcases List.mem_append.1 h with h | h
  · exact List.mem_append_left _ (S.spent k h)
  · obtain ⟨d, hd, rfl⟩ := List.mem_map.1 h
    rcases S.kept d hd with ⟨d', g1, g2, -⟩ | g
    · exact List.mem_append_right _ (List.mem_map.2 ⟨d', g1, g2⟩)
    · exact List.mem_append_left _ g
/-- Whether a device has a key. -/
def devHas (b : Book) (k : Key) : Bool := b.devs.any fun d => decide (d.key = k)
theorem devHas_iff (b : Book) (k : Key) : devHas b k = true ↔ k ∈ b.devs.map (·.key) := by
  unfold devHas
  rw [List.any_eq_true, List.mem_map]
  exact ⟨fun ⟨d, h1, h2⟩ => ⟨d, h1, of_decide_eq_true h2⟩, fun ⟨d, h1, h2⟩ => ⟨d, h1, decide_eq_true h2⟩⟩
theorem spends_out (rules : List UInt8 → Int) {b : Book} (hw : WF b) (o : Op) (k : Key) :
    decide (k ∈ (applyOf rules b o).spent) = ((decide (k ∈ takenB b) || devHas (applyOf rules b o) k) && !devHas (applyOf rules b o) k) := by
  have S := steps_apply rules hw o
  have hw' := apply_wf rules hw o
  rw [Bool.eq_iff_iff]
  simp only [Bool.and_eq_true, Bool.or_eq_true, decide_eq_true_eq, Bool.not_eq_true']
  constructor
  · intro h
    refine ⟨.inl (S.out k h), ?_⟩
    cases hd : devHas (applyOf rules b o) k
    · rfl
    · obtain ⟨d, h1, h2⟩ := List.mem_map.1 ((devHas_iff _ _).1 hd)
      exact absurd h (h2 ▸ dev_not_spent hw' h1)
  · rintro ⟨h, hn⟩
    rcases h with h | h
    · rcases List.mem_append.1 (taken_grows rules hw o h) with h | h
      · exact h
      · rw [(devHas_iff _ _).2 h] at hn; cases hn
    · rw [h] at hn; cases hn
theorem spends_had (rules : List UInt8 → Int) {b : Book} (hw : WF b) (o : Op) (k : Key) :
    (decide (k ∈ takenB b) || devHas (applyOf rules b o) k) = decide (k ∈ takenB (applyOf rules b o)) := by
  have S := steps_apply rules hw o
  rw [Bool.eq_iff_iff]
  simp only [Bool.or_eq_true, decide_eq_true_eq, devHas_iff]
  constructor
  · rintro (h | h)
    · exact taken_grows rules hw o h
    · exact List.mem_append_right _ h
  · intro h
    rcases List.mem_append.1 h with h | h
    · exact .inl (S.out k h)
    · exact .inr h
/-- Of n things named one by one, those in a list without repetition are as many as it is long, if it has no others. -/
theorem count_named {α : Type} [DecidableEq α] (f : Nat → α) (n : Nat) (hf : ∀ i j, i < n → j < n → f i = f j → i = j) (l : List α) (hl : l.Nodup) (h : ∀ x ∈ l, ∃ i, i < n ∧ x = f i) :
    (List.range n).countP (fun i => decide (f i ∈ l)) = l.length := by
  have hp : ((List.range n).filter (fun i => decide (f i ∈ l))).map f |>.Perm l := by
    refine (List.perm_ext_iff_of_nodup ?_ hl).2 fun x => ?_
    · refine List.pairwise_map.2 ((List.nodup_range.sublist List.filter_sublist).imp_of_mem (fun {i j} hi hj hne e => hne ?_))
      exact hf i j (by simpa using (List.mem_filter.1 hi).1) (by simpa using (List.mem_filter.1 hj).1) e
    · simp only [List.mem_map, List.mem_filter, List.mem_range, decide_eq_true_eq]
      constructor
      · rintro ⟨i, ⟨-, h2⟩, rfl⟩; exact h2
      · intro hx
        obtain ⟨i, h1, rfl⟩ := h x hx
        exact ⟨i, ⟨h1, hx⟩, rfl⟩
  rw [List.countP_eq_length_filter, ← hp.length_eq, List.length_map]

/-! ### DirectLater -/
theorem valid_later {b : Book} {k : Key} {x y m : Int} (hxy : x ≤ y) (h : validOf b k y = some m) : validOf b k x = some m := by
  unfold validOf at h ⊢
  cases hf : b.devs.find? (fun d => decide (d.key = k)) with
  | none => rw [hf] at h; cases h
  | some d =>
    rw [hf] at h
    simp only at h ⊢
    split at h
    · cases h
    · rename_i hn
      rw [if_neg (fun hc => hn (hc.imp id (fun hc => hc.imp (fun hc => by omega) id)))]
      exact h
end Go.Proofs.YthnpiimiimiijaaGreatDoor.Dir
