/- What acl.Spans answers: one pass over the cuts, sorted and without repeats. -/
import Derived.Test.YtglnnlpkhjijhaaGreatDoorPAx7
import Derived.Test.YtglnnlpkhjijhaaGreatDoorPureAllows
namespace Go.Proofs.YtglnnlpkhjijhaaGreatDoor.PA
open Go.RowKit Go.Proofs.YtglnnlpkhjijhaaGreatDoorW.PrintWords Go.Proofs.YtglnnlpkhjijhaaGreatDoorW.PrintLast Go.Proofs.YtglnnlpkhjijhaaGreatDoorW.PrintMore

/-! #### slices.Compact of a rising row -/
structure CompactUp (d : Array Int) (m : Nat) : Prop where
  rising : (Lib.compactUpTo d m).Pairwise (· < ·)
  le : ∀ x ∈ Lib.compactUpTo d m, 0 < m ∧ x ≤ d[m - 1]!
  from_ : ∀ x ∈ Lib.compactUpTo d m, ∃ j, j < m ∧ x = d[j]!
  all : ∀ j, j < m → d[j]! ∈ Lib.compactUpTo d m
theorem compactUp (d : Array Int) (hs : ∀ i j : Nat, i < j → j < d.size → d[i]! ≤ d[j]!) : ∀ m, m ≤ d.size → CompactUp d m
  | 0, _ => ⟨by simp [Lib.compactUpTo], by simp [Lib.compactUpTo], by simp [Lib.compactUpTo], by simp⟩
  | m + 1, hm => by
    have ih := compactUp d hs m (by omega)
    have e := Lib.compactUpTo_succ d m
    by_cases hk : Lib.keeps d m = true
    · rw [if_pos hk] at e
      have hlt : ∀ x ∈ Lib.compactUpTo d m, x < d[m]! := by
        intro x hx
        obtain ⟨h0, h1⟩ := ih.le x hx
        have h2 := hs (m - 1) m (by omega) (by omega)
        have h3 : d[m - 1]! ≠ d[m]! := by
          unfold Lib.keeps at hk
          simp only [decide_eq_true_eq] at hk
          rcases hk with hk | hk
          · omega
          · intro e3; simp [e3] at hk
        omega
      refine ⟨?_, ?_, ?_, ?_⟩
      · rw [e, List.pairwise_append]; exact ⟨ih.rising, by simp, fun a ha b hb => (List.mem_singleton.1 hb) ▸ hlt a ha⟩
      · intro x hx
        rw [e] at hx
        rcases List.mem_append.1 hx with h | h
        · exact ⟨by omega, by have := hlt x h; simpa using Int.le_of_lt this⟩
        · obtain rfl : x = d[m]! := by simpa using h
          exact ⟨by omega, by simp⟩
      · intro x hx
        rw [e] at hx
        rcases List.mem_append.1 hx with h | h
        · obtain ⟨j, hj, rfl⟩ := ih.from_ x h; exact ⟨j, by omega, rfl⟩
        · obtain rfl : x = d[m]! := by simpa using h
          exact ⟨m, by omega, rfl⟩
      · intro j hj
        rw [e]
        by_cases h : j = m
        · subst h; simp
        · exact List.mem_append_left _ (ih.all j (by omega))
    · rw [if_neg hk, List.append_nil] at e
      have hm0 : 0 < m := by
        rcases Nat.eq_zero_or_pos m with h | h
        · subst h; exact absurd (Lib.keeps_lt_one d 0 (by omega)) hk
        · exact h
      have heq : d[m - 1]! = d[m]! := by
        unfold Lib.keeps at hk
        simp only [decide_eq_true_eq] at hk
        rcases Int.lt_or_eq_of_le (hs (m - 1) m (by omega) (by omega)) with h | h
        · exfalso; apply hk; right; intro e3; rw [e3] at h; exact absurd h (by omega)
        · exact h
      refine ⟨by rw [e]; exact ih.rising, ?_, ?_, ?_⟩
      · intro x hx; rw [e] at hx
        exact ⟨by omega, by have := (ih.le x hx).2; rw [heq] at this; simpa using this⟩
      · intro x hx; rw [e] at hx
        obtain ⟨j, hj, rfl⟩ := ih.from_ x hx; exact ⟨j, by omega, rfl⟩
      · intro j hj
        rw [e]
        by_cases h : j = m
        · subst h; rw [← heq]; exact ih.all _ (by omega)
        · exact ih.all j (by omega)
theorem compact_rising {zs : List Int} (hs : zs.Pairwise (· ≤ ·)) : (Lib.compact zs).Pairwise (· < ·) ∧ (∀ x, x ∈ Lib.compact zs ↔ x ∈ zs) := by
  have hg : ∀ j, j < zs.length → zs.toArray[j]! = zs[j]! := fun j hj => by simp
  have h := compactUp zs.toArray (fun i j hij hj => by
    have hj' : j < zs.length := by simpa using hj
    have := (List.pairwise_iff_getElem.1 hs) i j (by omega) hj' hij
    rw [hg i (by omega), hg j hj', getElem!_pos zs i (by omega), getElem!_pos zs j hj']; exact this) zs.length (by simp)
  refine ⟨h.rising, fun x => ⟨fun hx => ?_, fun hx => ?_⟩⟩
  · obtain ⟨j, hj, rfl⟩ := h.from_ x hx
    rw [hg j hj, getElem!_pos zs j hj]; exact List.getElem_mem hj
  · obtain ⟨j, hj, rfl⟩ := List.getElem_of_mem hx
    have := h.all j hj
    rw [hg j hj, getElem!_pos zs j hj] at this; exact this

/-! #### The cuts, and the pass -/
def cutsOf (l : List S36) : List Int := l.flatMap fun r => (if 0 < r.f3 ∧ r.f3 ≤ 65535 then [r.f3] else []) ++ (if 0 ≤ r.f4 ∧ r.f4 < 65535 then [r.f4 + 1] else [])
def pointsOf (l : List S36) : List Int := Lib.compact (((0 : Int) :: cutsOf l).mergeSort fun x y => decide (x ≤ y))
def addSpan (out : List S42) (lo hi : Int) : List S42 :=
  if 0 < out.length ∧ (out.getD (out.length - 1) ⟨0, 0⟩).f1 = lo - 1 then out.set (out.length - 1) ⟨(out.getD (out.length - 1) ⟨0, 0⟩).f0, hi⟩ else out ++ [⟨lo, hi⟩]
def spansGo (ok : Int → Bool) : List Int → List S42 → List S42
  | x :: y :: rest, out => spansGo ok (y :: rest) (if ok x = true then addSpan out x (y - 1) else out)
  | _, out => out
def spansV (l : List S36) (a b : Int) : List S42 := spansGo (fun p => allowsV l a b p) (pointsOf l ++ [65536]) []

theorem cuts_len (l : List S36) : (cutsOf l).length ≤ 2 * l.length := by
  induction l with
  | nil => simp [cutsOf]
  | cons r l ih =>
    have : cutsOf (r :: l) = ((if 0 < r.f3 ∧ r.f3 ≤ 65535 then [r.f3] else []) ++ (if 0 ≤ r.f4 ∧ r.f4 < 65535 then [r.f4 + 1] else [])) ++ cutsOf l := by simp [cutsOf]
    rw [this]
    simp only [List.length_append, List.length_cons]
    have h1 : (if 0 < r.f3 ∧ r.f3 ≤ 65535 then [r.f3] else []).length ≤ 1 := by split <;> simp
    have h2 : (if 0 ≤ r.f4 ∧ r.f4 < 65535 then [r.f4 + 1] else []).length ≤ 1 := by split <;> simp
    omega
theorem cuts_range (l : List S36) : ∀ x ∈ cutsOf l, 0 < x ∧ x ≤ 65535 := by
  intro x hx
  unfold cutsOf at hx
  obtain ⟨r, _, h⟩ := List.mem_flatMap.1 hx
  rcases List.mem_append.1 h with h | h
  · split at h
    · rename_i hh; obtain rfl : x = r.f3 := by simpa using h
      exact hh
    · cases h
  · split at h
    · rename_i hh; obtain rfl : x = r.f4 + 1 := by simpa using h
      omega
    · cases h
theorem points_spec (l : List S36) : (pointsOf l).Pairwise (· < ·) ∧ (∀ x, x ∈ pointsOf l ↔ x = 0 ∨ x ∈ cutsOf l) ∧ (pointsOf l).length ≤ 2 * l.length + 1 := by
  have hs : (((0 : Int) :: cutsOf l).mergeSort fun x y => decide (x ≤ y)).Pairwise (· ≤ ·) := by
    have h := List.pairwise_mergeSort (le := fun x y : Int => decide (x ≤ y)) (fun a b c h1 h2 => by simp at *; omega) (fun a b => by simp; omega) ((0 : Int) :: cutsOf l)
    exact h.imp (fun h => by simpa using h)
  obtain ⟨h1, h2⟩ := compact_rising hs
  refine ⟨h1, fun x => by rw [pointsOf, h2, List.mem_mergeSort]; simp, ?_⟩
  have h3 : (pointsOf l).length ≤ (((0 : Int) :: cutsOf l).mergeSort fun x y => decide (x ≤ y)).length := compact_le _
  rw [List.length_mergeSort] at h3
  have := cuts_len l
  simp at h3; omega
theorem points_range (l : List S36) : ∀ x ∈ pointsOf l, 0 ≤ x ∧ x ≤ 65535 := by
  intro x hx
  rcases ((points_spec l).2.1 x).1 hx with h | h
  · omega
  · have := cuts_range l x h; omega

theorem rd_drop_int {P : List Int} {i : Nat} (h : i < P.length) : P.drop i = rd P (i : Int) :: P.drop (i + 1) := by
  rw [List.drop_eq_getElem_cons h]
  simp [rd, List.getD_eq_getElem?_getD, List.getElem?_eq_getElem h]

theorem addSpan_len (out : List S42) (lo hi : Int) : (addSpan out lo hi).length ≤ out.length + 1 := by
  unfold addSpan; split <;> simp

set_option maxHeartbeats 2000000 in
theorem spans_l1 (l : List S36) (hl : l.length < 1073741824) (a b : Int) (P : List Int) (hP : ∀ x ∈ P, 0 ≤ x ∧ x ≤ 65535) (hPl : P.length < 4294967296) :
    ∀ (n k i : Nat) (out : List S42), P.length - i ≤ n → i ≤ P.length → out.length ≤ i → n + l.length + 2 < k →
      acl_Spans.l1 k l a b (P ++ [65536]) out P (P.length : Int) (i : Int) = some (spansGo (fun p => allowsV l a b p) ((P ++ [65536]).drop i) out)
  | n, 0, i, out, _, _, _, h => absurd h (by omega)
  | n, k + 1, i, out, hn, hi, ho, hk => by
    unfold acl_Spans.l1
    by_cases h : i < P.length
    · have h1 : i < (P ++ [65536]).length := by simp; omega
      have h2 : i + 1 < (P ++ [65536]).length := by simp; omega
      have hw : wrap64 ((i : Int) + 1) = ((i + 1 : Nat) : Int) := by rw [wrap64_of (by omega) (by omega)]; rfl
      have hx : rd (P ++ [65536]) (i : Int) = rd P (i : Int) := by simp [rd, List.getD_eq_getElem?_getD, List.getElem?_append_left h]
      have hxr : 0 ≤ rd P (i : Int) ∧ rd P (i : Int) ≤ 65535 := by
        have : rd P (i : Int) = P[i] := by simp [rd, List.getD_eq_getElem?_getD, List.getElem?_eq_getElem h]
        rw [this]; exact hP _ (List.getElem_mem h)
      have hyr : 0 ≤ rd (P ++ [65536]) ((i + 1 : Nat) : Int) ∧ rd (P ++ [65536]) ((i + 1 : Nat) : Int) ≤ 65536 := by
        have : rd (P ++ [65536]) ((i + 1 : Nat) : Int) = (P ++ [65536])[i + 1] := by simp [rd, List.getD_eq_getElem?_getD, List.getElem?_eq_getElem h2]
        rw [this]
        have hm := List.getElem_mem h2
        rcases List.mem_append.1 hm with hm | hm
        · have := hP _ hm; omega
        · have : (P ++ [65536])[i + 1] = 65536 := by simpa using hm
          omega
      have hgo : spansGo (fun p => allowsV l a b p) ((P ++ [65536]).drop i) out =
          spansGo (fun p => allowsV l a b p) ((P ++ [65536]).drop (i + 1)) (if allowsV l a b (rd P (i : Int)) = true then addSpan out (rd P (i : Int)) (rd (P ++ [65536]) ((i + 1 : Nat) : Int) - 1) else out) := by
        rw [rd_drop_int h1, hx, rd_drop_int h2, spansGo]
      rw [hgo, if_pos (by omega), if_pos (by omega), if_pos (by omega), Allows_eq l (by omega) a b _ k (by omega)]
      simp only [Option.bind_some]
      have ih := fun out ho => spans_l1 l hl a b P hP hPl (n - 1) k (i + 1) out (by omega) (by omega) ho (by omega)
      rw [hw]
      have hw1 : wrap64 (rd P (i : Int) - 1) = rd P (i : Int) - 1 := by unfold wrap64; omega
      have hw2 : wrap64 (rd (P ++ [65536]) ((i + 1 : Nat) : Int) - 1) = rd (P ++ [65536]) ((i + 1 : Nat) : Int) - 1 := by unfold wrap64; omega
      by_cases hal : allowsV l a b (rd P (i : Int)) = true
      · rw [if_pos hal, if_pos hal, if_pos (by omega), if_pos (by simp; omega), hw1, hw2]
        unfold addSpan
        by_cases h0 : 0 < out.length
        · have hw3 : wrap64 ((out.length : Int) - 1) = ((out.length - 1 : Nat) : Int) := by unfold wrap64; omega
          rw [if_pos (by omega), hw3, if_pos (by omega), if_pos (by omega)]
          have hr : rd_T42 out ((out.length - 1 : Nat) : Int) = out.getD (out.length - 1) ⟨0, 0⟩ := by
            simp only [rd_T42, Int.toNat_natCast, List.getD_eq_getElem?_getD, List.getElem?_eq_getElem (show out.length - 1 < out.length by omega)]; rfl
          rw [hr]
          simp only [Int.toNat_natCast]
          by_cases he : (out.getD (out.length - 1) ⟨0, 0⟩).f1 = rd P (i : Int) - 1
          · rw [if_pos he, if_pos ⟨h0, he⟩, ih _ (by simp; omega)]
          · rw [if_neg he, if_pos (show out.length < 8796093022208 by omega), if_neg (fun h => he h.2), ih _ (by simp; omega)]
        · rw [if_neg (show ¬ (out.length : Int) > 0 by omega), if_pos (show out.length < 8796093022208 by omega), if_neg (fun h => h0 h.1), ih _ (by simp; omega)]
      · rw [if_neg hal, if_neg hal, ih out (by omega)]
    · rw [if_neg (by omega)]
      have hd : (P ++ [65536]).drop i = [65536] := by rw [show i = P.length by omega]; simp
      rw [hd]; rfl

theorem cuts_drop (l : List S36) (i : Nat) (h : i < l.length) : cutsOf (l.drop i) = ((if 0 < (rd_T36 l (i : Int)).f3 ∧ (rd_T36 l (i : Int)).f3 ≤ 65535 then [(rd_T36 l (i : Int)).f3] else []) ++ (if 0 ≤ (rd_T36 l (i : Int)).f4 ∧ (rd_T36 l (i : Int)).f4 < 65535 then [(rd_T36 l (i : Int)).f4 + 1] else [])) ++ cutsOf (l.drop (i + 1)) := by
  rw [rd_drop h]; simp [cutsOf]

theorem spans_end (l : List S36) (hl : l.length < 1073741824) (a b : Int) (k i : Nat) (cuts : List Int) (h : ¬ i < l.length) (hc : cuts ++ cutsOf (l.drop i) = 0 :: cutsOf l) (hk : 3 * l.length + 10 < k) :
    acl_Spans.l0 k l a b cuts l (l.length : Int) (i : Int) = some (spansV l a b) := by
  obtain ⟨k, rfl⟩ : ∃ k', k = k' + 1 := ⟨k - 1, by omega⟩
  unfold acl_Spans.l0
  rw [if_neg (by omega)]
  have hd : l.drop i = [] := List.drop_of_length_le (by omega)
  rw [hd] at hc
  have hc2 : cuts = 0 :: cutsOf l := by rw [← hc]; simp [cutsOf]
  rw [hc2]
  have hle := cuts_len l
  unfold slices_Sort_int_int.f
  rw [if_neg (by simp; omega)]
  simp only [Option.bind_some]
  have hpt := points_spec l
  have hne : (((0 : Int) :: cutsOf l).mergeSort fun x y => decide (x ≤ y)) ≠ [] := by
    intro e; have := congrArg List.length e; rw [List.length_mergeSort] at this; simp at this
  unfold slices_Compact_int_int.f
  rw [if_neg hne]
  simp only [Option.bind_some]
  have hpe : Lib.compact (((0 : Int) :: cutsOf l).mergeSort fun x y => decide (x ≤ y)) = pointsOf l := by unfold pointsOf; exact Eq.refl _
  rw [hpe]
  have hpl := hpt.2.2
  have hw : wrap64 (((pointsOf l ++ [65536]).length : Int) - 1) = ((pointsOf l).length : Int) := by
    have e : ((pointsOf l ++ [65536]).length : Int) = ((pointsOf l).length : Int) + 1 := by simp
    rw [e, wrap64_of (by omega) (by omega)]; omega
  rw [if_pos (show (pointsOf l).length < 17592186044416 by omega), hw, if_pos (show (0 : Int) ≤ ((pointsOf l).length : Int) by omega), if_pos (by simp; omega)]
  have ht : (pointsOf l ++ [65536]).take ((pointsOf l).length : Int).toNat = pointsOf l := by simp
  rw [ht]
  have hfin := spans_l1 l hl a b (pointsOf l) (points_range l) (by omega) (pointsOf l).length k 0 [] (by omega) (by omega) (by simp) (by omega)
  rw [List.drop_zero] at hfin
  unfold spansV
  exact hfin

set_option maxHeartbeats 2000000 in
theorem spans_l0 (l : List S36) (hl : l.length < 1073741824) (a b : Int) :
    ∀ (n k i : Nat) (cuts : List Int), l.length - i ≤ n → i ≤ l.length → cuts.length ≤ 2 * i + 1 → cuts ++ cutsOf (l.drop i) = 0 :: cutsOf l → 2 * n + 3 * l.length + 10 < k →
      acl_Spans.l0 k l a b cuts l (l.length : Int) (i : Int) = some (spansV l a b) := by
    intro n
    induction n with
    | zero =>
      intro k i cuts hn hi hcl hc hk
      exact spans_end l hl a b k i cuts (by omega) hc (by omega)
    | succ n ihn =>
    intro k i cuts hn hi hcl hc hk
    by_cases h : i < l.length
    rotate_left
    · exact spans_end l hl a b k i cuts (by omega) hc (by omega)
    obtain ⟨k, rfl⟩ : ∃ k', k = k' + 1 + 1 := ⟨k - 2, by omega⟩
    unfold acl_Spans.l0
    have hw : wrap64 ((i : Int) + 1) = ((i + 1 : Nat) : Int) := by rw [wrap64_of (by omega) (by omega)]; rfl
    have ih := fun cuts h1 h2 => ihn k (i + 1) cuts (by omega) (by omega) h1 h2 (by omega)
    have hcd := cuts_drop l i h
    rw [hcd] at hc
    generalize hr : rd_T36 l (i : Int) = r at *
    have hj : ∀ x : Bool, x = decide (0 < r.f3 ∧ r.f3 ≤ 65535) → acl_Spans.j1 (k + 1) l a b cuts l (l.length : Int) (i : Int) x r.f0 r.f1 r.f2 r.f3 r.f4 = some (spansV l a b) := by
      intro x hx
      unfold acl_Spans.j1
      rw [hw]
      by_cases h3 : 0 < r.f3 ∧ r.f3 ≤ 65535
      · rw [if_pos h3] at hc
        rw [if_pos (by rw [hx]; exact decide_eq_true h3), if_pos (by omega)]
        simp only [Option.bind_some]
        by_cases h4 : 0 ≤ r.f4 ∧ r.f4 < 65535
        · rw [if_pos h4] at hc
          rw [if_pos h4.1, if_pos h4.2, if_pos (by simp; omega), show wrap64 (r.f4 + 1) = r.f4 + 1 by unfold wrap64; omega]
          exact ih _ (by simp; omega) (by rw [← hc]; simp)
        · rw [if_neg h4] at hc
          have e := ih (cuts ++ [r.f3]) (by simp; omega) (by rw [← hc]; simp)
          by_cases h5 : r.f4 ≥ 0
          · rw [if_pos h5, if_neg (fun h6 => h4 ⟨h5, h6⟩)]; exact e
          · rw [if_neg h5]; exact e
      · rw [if_neg h3] at hc
        rw [if_neg (by rw [hx]; simpa using h3)]
        by_cases h4 : 0 ≤ r.f4 ∧ r.f4 < 65535
        · rw [if_pos h4] at hc
          rw [if_pos h4.1, if_pos h4.2, if_pos (by omega), show wrap64 (r.f4 + 1) = r.f4 + 1 by unfold wrap64; omega]
          exact ih _ (by simp; omega) (by rw [← hc]; simp)
        · rw [if_neg h4] at hc
          have e := ih cuts (by omega) (by rw [← hc]; simp)
          by_cases h5 : r.f4 ≥ 0
          · rw [if_pos h5, if_neg (fun h6 => h4 ⟨h5, h6⟩)]; exact e
          · rw [if_neg h5]; exact e
    rw [if_pos (by omega), if_pos (by omega), if_pos (by omega)]
    by_cases h3 : r.f3 > 0
    · rw [if_pos h3]; exact hj _ (by congr 1; simp; omega)
    · rw [if_neg h3]; exact hj _ (by symm; simp; omega)
theorem Spans_eq (l : List S36) (hl : l.length < 1073741824) (a b : Int) (k : Nat) (hk : 5 * l.length + 10 < k) : acl_Spans.f k l a b = some (spansV l a b) := by
  unfold acl_Spans.f
  exact spans_l0 l hl a b l.length k 0 [0] (by omega) (by omega) (by simp) (by simp) (by omega)
end Go.Proofs.YtglnnlpkhjijhaaGreatDoor.PA
