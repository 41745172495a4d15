/- What acl.Spans' spans are: rising, apart, within the ports; few; a port lies in one just if it is allowed. -/
import Derived.Test.YtglnnlpkhjijhaaDoorPureSpans
namespace Go.Proofs.YtglnnlpkhjijhaaDoor.PA
open Go.RowKit Go.Proofs.YtglnnlpkhjijhaaDoorW.PrintWords Go.Proofs.YtglnnlpkhjijhaaDoorW.PrintLast Go.Proofs.YtglnnlpkhjijhaaDoorW.PrintMore

def gS (out : List S32) (i : Nat) : S32 := out.getD i ⟨0, 0⟩
structure Ok (out : List S32) (m : Int) : Prop where
  each : ∀ i, i < out.length → 0 ≤ (gS out i).f0 ∧ (gS out i).f0 ≤ (gS out i).f1 ∧ (gS out i).f1 < m
  gap : ∀ i, i + 1 < out.length → (gS out i).f1 + 1 < (gS out (i + 1)).f0
theorem Ok.nil (m : Int) : Ok [] m := ⟨by simp, by simp⟩
theorem Ok.mono {out : List S32} {m m' : Int} (h : Ok out m) (hm : m ≤ m') : Ok out m' := ⟨fun i hi => by have := h.each i hi; omega, h.gap⟩
theorem gS_set {out : List S32} {k : Nat} (hk : k < out.length) (v : S32) (i : Nat) : gS (out.set k v) i = if i = k then v else gS out i := by
  unfold gS
  rw [List.getD_eq_getElem?_getD, List.getElem?_set]
  by_cases h : k = i
  · subst h; simp [hk]
  · rw [if_neg h, if_neg (fun e => h e.symm), List.getD_eq_getElem?_getD]
theorem gS_app (out : List S32) (v : S32) (i : Nat) (hi : i ≤ out.length) : gS (out ++ [v]) i = if i = out.length then v else gS out i := by
  unfold gS
  by_cases h : i = out.length
  · subst h; simp
  · rw [if_neg h, List.getD_eq_getElem?_getD, List.getElem?_append_left (by omega), List.getD_eq_getElem?_getD]
theorem addSpan_ok {out : List S32} {x y : Int} (h : Ok out x) (h0 : 0 ≤ x) (hxy : x < y) : Ok (addSpan out x (y - 1)) y := by
  unfold addSpan
  by_cases hc : 0 < out.length ∧ (out.getD (out.length - 1) ⟨0, 0⟩).f1 = x - 1
  · rw [if_pos hc]
    have hk : out.length - 1 < out.length := by omega
    have hl := h.each (out.length - 1) hk
    have hl2 : (gS out (out.length - 1)).f1 = x - 1 := hc.2
    refine ⟨fun i hi => ?_, fun i hi => ?_⟩
    · rw [gS_set hk]
      rw [List.length_set] at hi
      split
      · exact ⟨hl.1, by show (gS out (out.length - 1)).f0 ≤ y - 1; omega, by show y - 1 < y; omega⟩
      · have := h.each i hi; omega
    · rw [List.length_set] at hi
      rw [gS_set hk, gS_set hk, if_neg (by omega)]
      have := h.gap i hi
      split
      · rename_i e; rw [e] at this; exact this
      · exact this
  · rw [if_neg hc]
    refine ⟨fun i hi => ?_, fun i hi => ?_⟩
    · simp at hi
      rw [gS_app _ _ _ (by omega)]
      split
      · exact ⟨h0, by show x ≤ y - 1; omega, by show y - 1 < y; omega⟩
      · have := h.each i (by omega); omega
    · simp at hi
      rw [gS_app _ _ _ (by omega), gS_app _ _ _ (by omega), if_neg (by omega)]
      split
      · rename_i e
        have hl := h.each i (by omega)
        have hne : (gS out i).f1 ≠ x - 1 := fun e2 => hc ⟨by omega, by rw [show out.length - 1 = i by omega]; exact e2⟩
        show (gS out i).f1 + 1 < x
        omega
      · exact h.gap i (by omega)
theorem go_ok (ok : Int → Bool) : ∀ (P : List Int) (x : Int) (out : List S32), (x :: P).Pairwise (· < ·) → 0 ≤ x → Ok out x → ∀ m, (∀ z ∈ x :: P, z ≤ m) → Ok (spansGo ok (x :: P) out) m
  | [], x, out, _, _, h, m, hm => h.mono (hm x (by simp))
  | y :: P, x, out, hp, h0, h, m, hm => by
    have hxy : x < y := (List.pairwise_cons.1 hp).1 y (by simp)
    unfold spansGo
    refine go_ok ok P y _ (List.pairwise_cons.1 hp).2 (by omega) ?_ m (fun z hz => hm z (by simp at hz ⊢; exact .inr hz))
    split
    · exact addSpan_ok h h0 hxy
    · exact h.mono (by omega)

/-- How many spans there can be: two of them do not touch. -/
theorem go_few (ok : Int → Bool) : ∀ (P : List Int) (x : Int) (out : List S32), (x :: P).Pairwise (· < ·) → 0 ≤ x → Ok out x → ∀ b : Nat, (b = 0 → 0 < out.length ∧ (gS out (out.length - 1)).f1 = x - 1) → b ≤ 1 →
    2 * (spansGo ok (x :: P) out).length ≤ 2 * out.length + P.length + b
  | [], x, out, _, _, _, b, _, _ => by unfold spansGo; simp
  | y :: P, x, out, hp, h0, h, b, hb, hb1 => by
    have hxy : x < y := (List.pairwise_cons.1 hp).1 y (by simp)
    have hp' := (List.pairwise_cons.1 hp).2
    unfold spansGo
    by_cases hx : ok x = true
    · rw [if_pos hx]
      have ho := addSpan_ok h h0 hxy
      by_cases hc : 0 < out.length ∧ (out.getD (out.length - 1) ⟨0, 0⟩).f1 = x - 1
      · have e : addSpan out x (y - 1) = out.set (out.length - 1) ⟨(out.getD (out.length - 1) ⟨0, 0⟩).f0, y - 1⟩ := by unfold addSpan; rw [if_pos hc]
        have := go_few ok P y _ hp' (by omega) ho 0 (fun _ => by rw [e]; refine ⟨by simp; omega, ?_⟩; rw [List.length_set, gS_set (by omega), if_pos rfl]) (by omega)
        rw [e] at this ⊢
        simp only [List.length_set, List.length_cons] at this ⊢; omega
      · have e : addSpan out x (y - 1) = out ++ [⟨x, y - 1⟩] := by unfold addSpan; rw [if_neg hc]
        have hb2 : b = 1 := by
          rcases Nat.lt_or_ge b 1 with h1 | h1
          · exact absurd (hb (by omega)) hc
          · omega
        have := go_few ok P y _ hp' (by omega) ho 0 (fun _ => by rw [e]; refine ⟨by simp, ?_⟩; rw [gS_app _ _ _ (by simp), if_pos (by simp)]) (by omega)
        rw [e] at this ⊢
        simp only [List.length_append, List.length_cons, List.length_nil] at this ⊢; omega
    · rw [if_neg hx]
      have := go_few ok P y out hp' (by omega) (h.mono (by omega)) 1 (by omega) (by omega)
      simp only [List.length_cons]; omega

/-- Whether a port lies in a span. -/
def InS (out : List S32) (p : Int) : Prop := ∃ i, i < out.length ∧ (gS out i).f0 ≤ p ∧ p ≤ (gS out i).f1
theorem addSpan_in {out : List S32} {x y : Int} (h : Ok out x) (hxy : x < y) (p : Int) : InS (addSpan out x (y - 1)) p ↔ InS out p ∨ (x ≤ p ∧ p ≤ y - 1) := by
  unfold addSpan
  by_cases hc : 0 < out.length ∧ (out.getD (out.length - 1) ⟨0, 0⟩).f1 = x - 1
  · rw [if_pos hc]
    have hk : out.length - 1 < out.length := by omega
    have hl := h.each (out.length - 1) hk
    have hl2 : (gS out (out.length - 1)).f1 = x - 1 := hc.2
    have hl3 : (out.getD (out.length - 1) ⟨0, 0⟩).f0 = (gS out (out.length - 1)).f0 := rfl
    constructor
    · rintro ⟨i, hi, h1, h2⟩
      rw [List.length_set] at hi
      rw [gS_set hk] at h1 h2
      split at h1
      · rename_i e
        rw [if_pos e] at h2
        simp only at h1 h2
        by_cases hp : p ≤ x - 1
        · exact .inl ⟨out.length - 1, hk, by omega, by omega⟩
        · exact .inr ⟨by omega, h2⟩
      · rename_i e
        rw [if_neg e] at h2
        exact .inl ⟨i, hi, h1, h2⟩
    · rintro (⟨i, hi, h1, h2⟩ | ⟨h1, h2⟩)
      · refine ⟨i, by simpa using hi, ?_⟩
        rw [gS_set hk]
        split
        · rename_i e
          subst e
          have hlt := (h.each (out.length - 1) hk).2.2
          exact ⟨h1, by show p ≤ y - 1; omega⟩
        · exact ⟨h1, h2⟩
      · refine ⟨out.length - 1, by simpa using hk, ?_⟩
        rw [gS_set hk, if_pos rfl]
        exact ⟨by show (out.getD (out.length - 1) ⟨0, 0⟩).f0 ≤ p; omega, h2⟩
  · rw [if_neg hc]
    constructor
    · rintro ⟨i, hi, h1, h2⟩
      simp at hi
      rw [gS_app _ _ _ (by omega)] at h1 h2
      split at h1
      · rename_i e
        rw [if_pos e] at h2
        exact .inr ⟨h1, h2⟩
      · rename_i e
        rw [if_neg e] at h2
        exact .inl ⟨i, by omega, h1, h2⟩
    · rintro (⟨i, hi, h1, h2⟩ | ⟨h1, h2⟩)
      · refine ⟨i, by simp; omega, ?_⟩
        rw [gS_app _ _ _ (by omega), if_neg (by omega)]
        exact ⟨h1, h2⟩
      · refine ⟨out.length, by simp, ?_⟩
        rw [gS_app _ _ _ (by omega), if_pos rfl]
        exact ⟨h1, h2⟩

/-- Between two neighbours of the list nothing turns. -/
def Steps (ok : Int → Bool) : List Int → Prop
  | x :: y :: r => (∀ p, x ≤ p → p < y → ok p = ok x) ∧ Steps ok (y :: r)
  | _ => True
theorem go_in (ok : Int → Bool) : ∀ (P : List Int) (x : Int) (out : List S32) (m : Int), (x :: P).Pairwise (· < ·) → 0 ≤ x → Ok out x → Steps ok (x :: P) → (x :: P).getLast? = some m → ∀ p, InS (spansGo ok (x :: P) out) p ↔ InS out p ∨ (x ≤ p ∧ p < m ∧ ok p = true)
  | [], x, out, m, _, _, h, _, hm, p => by
    have hx : x = m := by simpa using hm
    unfold spansGo
    constructor
    · exact .inl
    · rintro (h | ⟨h1, h2, _⟩)
      · exact h
      · omega
  | y :: P, x, out, m, hp, h0, h, hs, hm, p => by
    have hxy : x < y := (List.pairwise_cons.1 hp).1 y (by simp)
    have hp' := (List.pairwise_cons.1 hp).2
    have hm' : (y :: P).getLast? = some m := by simpa using hm
    have hym : y ≤ m := by
      have hmem : m ∈ y :: P := List.mem_of_getLast? hm'
      rcases List.mem_cons.1 hmem with e | e
      · omega
      · have := (List.pairwise_cons.1 hp').1 m e; omega
    obtain ⟨hs1, hs2⟩ := hs
    unfold spansGo
    by_cases hx : ok x = true
    · rw [if_pos hx, go_in ok P y _ m hp' (by omega) (addSpan_ok h h0 hxy) hs2 hm' p, addSpan_in h hxy]
      constructor
      · rintro ((h1 | ⟨h1, h2⟩) | ⟨h1, h2, h3⟩)
        · exact .inl h1
        · exact .inr ⟨h1, by omega, by rw [hs1 p h1 (by omega)]; exact hx⟩
        · exact .inr ⟨by omega, h2, h3⟩
      · rintro (h1 | ⟨h1, h2, h3⟩)
        · exact .inl (.inl h1)
        · by_cases hpy : p < y
          · exact .inl (.inr ⟨h1, by omega⟩)
          · exact .inr ⟨by omega, h2, h3⟩
    · rw [if_neg hx, go_in ok P y _ m hp' (by omega) (h.mono (by omega)) hs2 hm' p]
      constructor
      · rintro (h1 | ⟨h1, h2, h3⟩)
        · exact .inl h1
        · exact .inr ⟨by omega, h2, h3⟩
      · rintro (h1 | ⟨h1, h2, h3⟩)
        · exact .inl h1
        · by_cases hpy : p < y
          · rw [hs1 p h1 hpy] at h3; exact absurd h3 hx
          · exact .inr ⟨by omega, h2, h3⟩

theorem steps_of (ok : Int → Bool) (S : List Int) (hS : S.Pairwise (· < ·)) (hc : ∀ x y, x ∈ S → y ∈ S → x < y → (∀ c ∈ S, c ≤ x ∨ y ≤ c) → ∀ p, x ≤ p → p < y → ok p = ok x) : ∀ (rest pre : List Int), S = pre ++ rest → Steps ok rest
  | [], _, _ => trivial
  | [_], _, _ => trivial
  | x :: y :: r, pre, e => by
    refine ⟨hc x y (by rw [e]; simp) (by rw [e]; simp) ?_ ?_, steps_of ok S hS hc (y :: r) (pre ++ [x]) (by rw [e]; simp)⟩
    · rw [e] at hS
      have h := (List.pairwise_append.1 hS).2.1
      exact (List.pairwise_cons.1 h).1 y (by simp)
    · intro c hcS
      rw [e] at hS hcS
      obtain ⟨h1, h2, h3⟩ := List.pairwise_append.1 hS
      obtain ⟨h4, h5⟩ := List.pairwise_cons.1 h2
      rcases List.mem_append.1 hcS with h | h
      · exact .inl (Int.le_of_lt (h3 c h x (by simp)))
      · rcases List.mem_cons.1 h with rfl | h
        · exact .inl (Int.le_refl _)
        · rcases List.mem_cons.1 h with rfl | h
          · exact .inr (Int.le_refl _)
          · exact .inr (Int.le_of_lt ((List.pairwise_cons.1 h5).1 c h))

theorem firstOf_same {l : List S37} {a b p q : Int} (h : ∀ r ∈ l, fits r a b p = fits r a b q) : firstOf l a b p = firstOf l a b q := by
  induction l with
  | nil => rfl
  | cons r l ih => unfold firstOf; rw [h r (by simp), ih (fun r hr => h r (by simp [hr]))]
theorem cut_low {l : List S37} {r : S37} (hr : r ∈ l) (h : 0 < r.f3 ∧ r.f3 ≤ 65535) : r.f3 ∈ cutsOf l := List.mem_flatMap.2 ⟨r, hr, List.mem_append_left _ (by rw [if_pos h]; simp)⟩
theorem cut_high {l : List S37} {r : S37} (hr : r ∈ l) (h : 0 ≤ r.f4 ∧ r.f4 < 65535) : r.f4 + 1 ∈ cutsOf l := List.mem_flatMap.2 ⟨r, hr, List.mem_append_right _ (by rw [if_pos h]; simp)⟩

theorem points_head (l : List S37) : ∃ P, pointsOf l = 0 :: P := by
  obtain ⟨h1, h2, _⟩ := points_spec l
  have h0 : (0 : Int) ∈ pointsOf l := (h2 0).2 (.inl rfl)
  cases hp : pointsOf l with
  | nil => rw [hp] at h0; cases h0
  | cons x P =>
    refine ⟨P, ?_⟩
    rw [hp] at h0 h1
    have hx : 0 ≤ x := (points_range l x (by rw [hp]; simp)).1
    rcases List.mem_cons.1 h0 with e | e
    · rw [← e]
    · have := (List.pairwise_cons.1 h1).1 0 e; omega
theorem all_rising (l : List S37) : (pointsOf l ++ [65536]).Pairwise (· < ·) := by
  rw [List.pairwise_append]
  refine ⟨(points_spec l).1, by simp, fun a ha b hb => ?_⟩
  have := points_range l a ha
  simp at hb; omega
theorem all_steps (l : List S37) (a b : Int) : Steps (fun p => allowsV l a b p) (pointsOf l ++ [65536]) := by
  refine steps_of _ (pointsOf l ++ [65536]) (all_rising l) ?_ _ [] rfl
  intro x y hx hy hxy hno p hp1 hp2
  have hx0 : 0 ≤ x := by
    rcases List.mem_append.1 hx with h | h
    · exact (points_range l x h).1
    · simp at h; omega
  have hy1 : y ≤ 65536 := by
    rcases List.mem_append.1 hy with h | h
    · have := (points_range l y h).2; omega
    · simp at h; omega
  have hcut : ∀ c, c ∈ cutsOf l → c ≤ x ∨ y ≤ c := fun c hc => hno c (List.mem_append_left _ (((points_spec l).2.1 c).2 (.inr hc)))
  show allowsV l a b p = allowsV l a b x
  unfold allowsV
  have e1 : mayAsk a b p = mayAsk a b x := by
    unfold mayAsk
    rw [decide_eq_true (show 0 ≤ p by omega), decide_eq_true (show p ≤ 65535 by omega), decide_eq_true hx0, decide_eq_true (show x ≤ 65535 by omega)]
  rw [e1, firstOf_same (q := x) ?_]
  intro r hr
  unfold fits
  have e3 : (r.f3 ≤ p) ↔ (r.f3 ≤ x) := by
    constructor
    · intro h
      by_cases hx3 : r.f3 ≤ x
      · exact hx3
      · have := hcut _ (cut_low hr ⟨by omega, by omega⟩); omega
    · intro h; omega
  have e4 : (p ≤ r.f4) ↔ (x ≤ r.f4) := by
    constructor
    · intro h; omega
    · intro h
      by_cases hp4 : p ≤ r.f4
      · exact hp4
      · have := hcut _ (cut_high hr ⟨by omega, by omega⟩); omega
  simp only [e3, e4]

theorem spans_ok (l : List S37) (a b : Int) : Ok (spansV l a b) 65536 := by
  obtain ⟨P, hP⟩ := points_head l
  have hr := all_rising l
  have hm : ∀ z ∈ pointsOf l ++ [65536], z ≤ 65536 := by
    intro z hz
    rcases List.mem_append.1 hz with h | h
    · have := (points_range l z h).2; omega
    · simp at h; omega
  unfold spansV
  rw [hP, List.cons_append] at hr hm ⊢
  exact go_ok _ _ 0 [] hr (by omega) (Ok.nil 0) 65536 hm
theorem spans_few (l : List S37) (a b : Int) : 2 * (spansV l a b).length ≤ 2 * l.length + 2 := by
  obtain ⟨P, hP⟩ := points_head l
  have hr := all_rising l
  have hl := (points_spec l).2.2
  unfold spansV
  rw [hP] at hl
  rw [hP, List.cons_append] at hr ⊢
  have := go_few (fun p => allowsV l a b p) (P ++ [65536]) 0 [] hr (by omega) (Ok.nil 0) 1 (by omega) (by omega)
  simp only [List.length_append, List.length_cons, List.length_nil] at this hl ⊢
  omega
theorem spans_in (l : List S37) (a b p : Int) : InS (spansV l a b) p ↔ allowsV l a b p = true := by
  obtain ⟨P, hP⟩ := points_head l
  have hr := all_rising l
  have hs := all_steps l a b
  unfold spansV
  rw [hP, List.cons_append] at hr hs ⊢
  have := go_in (fun p => allowsV l a b p) (P ++ [65536]) 0 [] 65536 hr (by omega) (Ok.nil 0) hs (by rw [← List.cons_append, List.getLast?_concat]) p
  refine this.trans ⟨?_, fun h => .inr ?_⟩
  · rintro (⟨i, hi, _⟩ | ⟨_, _, h⟩)
    · simp at hi
    · exact h
  · have h' := h
    unfold allowsV mayAsk at h'
    simp only [Bool.and_eq_true, decide_eq_true_eq] at h'
    exact ⟨by omega, by omega, h⟩
theorem spans_nodes (l : List S37) (a b : Int) (h : spansV l a b ≠ []) : 1 ≤ a ∧ a ≤ 8 ∧ 1 ≤ b ∧ b ≤ 8 := by
  have h0 : 0 < (spansV l a b).length := List.length_pos_iff.2 h
  have ho := (spans_ok l a b).each 0 h0
  have hi : InS (spansV l a b) (gS (spansV l a b) 0).f0 := ⟨0, h0, Int.le_refl _, ho.2.1⟩
  have := (spans_in l a b _).1 hi
  unfold allowsV mayAsk at this
  simp only [Bool.and_eq_true, decide_eq_true_eq] at this
  omega
end Go.Proofs.YtglnnlpkhjijhaaDoor.PA
