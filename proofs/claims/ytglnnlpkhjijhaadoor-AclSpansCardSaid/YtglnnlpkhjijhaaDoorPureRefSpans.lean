/- The document's Spans is acl's: one pass over the ports, or over the cuts alone. -/
import Derived.Test.YtglnnlpkhjijhaaDoorRefSpans
import Derived.Test.YtglnnlpkhjijhaaDoorPureInto
set_option linter.unusedVariables false
set_option linter.unusedSimpArgs false
namespace Go.Proofs.YtglnnlpkhjijhaaDoor.PA
open Go.RowKit Go.Proofs.YtglnnlpkhjijhaaDoorW.PrintWords Go.Proofs.YtglnnlpkhjijhaaDoorW.PrintLast Go.Proofs.YtglnnlpkhjijhaaDoorW.PrintMore

def refL (ok : Int → Bool) : List Int → List S32 → Int → List S32
  | [], out, _ => out
  | x :: xs, out, bg => if ok x = true then refL ok xs out (if bg < 0 then x else bg)
    else if 0 ≤ bg then refL ok xs (out ++ [⟨bg, x - 1⟩]) (-1) else refL ok xs out bg
theorem refGo_L (cut : Nat → Bool) (ok : Int → Bool) : ∀ (n p : Nat) (Q : List Int) (out : List S32) (bg : Int), n + p = 65537 → Q.Pairwise (· < ·) →
    (∀ q : Int, q ∈ Q ↔ ((p : Int) ≤ q ∧ q ≤ 65536 ∧ cut q.toNat = true)) → refGo cut ok n p out bg = refL ok Q out bg := by
  intro n
  induction n with
  | zero =>
    intro p Q out bg hp hQ hm
    have : Q = [] := List.eq_nil_iff_forall_not_mem.2 fun q hq => by have := (hm q).1 hq; omega
    rw [this]
    rfl
  | succ n ih =>
    intro p Q out bg hp hQ hm
    rw [refGo]
    cases hc : cut p with
    | false =>
      rw [if_pos rfl]
      refine ih (p + 1) Q out bg (by omega) hQ (fun q => ?_)
      rw [hm q]
      constructor
      · rintro ⟨h1, h2, h3⟩
        have hne : q ≠ (p : Int) := fun e => by rw [e, show ((p : Int)).toNat = p by omega, hc] at h3; cases h3
        exact ⟨by omega, h2, h3⟩
      · rintro ⟨h1, h2, h3⟩
        exact ⟨by omega, h2, h3⟩
    | true =>
      have hin : (p : Int) ∈ Q := (hm p).2 ⟨by omega, by omega, by rw [show ((p : Int)).toNat = p by omega]; exact hc⟩
      cases Q with
      | nil => cases hin
      | cons x Q =>
        have hx := (hm x).1 (by simp)
        have hlt := (List.pairwise_cons.1 hQ).1
        obtain rfl : x = (p : Int) := by
          rcases List.mem_cons.1 hin with e | h
          · exact e.symm
          · have := hlt _ h; omega
        have IH := fun out' bg' => ih (p + 1) Q out' bg' (by omega) (List.pairwise_cons.1 hQ).2 (fun q => by
          constructor
          · intro hq
            have h1 := (hm q).1 (by simp [hq])
            have h2 := hlt q hq
            exact ⟨by omega, h1.2⟩
          · rintro ⟨h1, h2, h3⟩
            rcases List.mem_cons.1 ((hm q).2 ⟨by omega, h2, h3⟩) with e | h
            · omega
            · exact h)
        rw [if_neg (by simp), refL]
        split
        · exact IH _ _
        · split
          · exact IH _ _
          · exact IH _ _

theorem getD_last {out : List S32} (h : 0 < out.length) : out.getLast? = some (out.getD (out.length - 1) ⟨0, 0⟩) := by
  rw [List.getLast?_eq_getElem?, List.getD_eq_getElem?_getD, List.getElem?_eq_getElem (by omega)]
  rfl
theorem addSpan_new {out : List S32} {lo : Int} (hi : Int) (h : ∀ s, out.getLast? = some s → s.f1 < lo - 1) : addSpan out lo hi = out ++ [⟨lo, hi⟩] := by
  unfold addSpan
  rw [if_neg]
  rintro ⟨h1, h2⟩
  have := h _ (getD_last h1)
  omega
theorem addSpan_more (out : List S32) (bg lo hi : Int) : addSpan (out ++ [⟨bg, lo - 1⟩]) lo hi = out ++ [⟨bg, hi⟩] := by
  have e : (out ++ [(⟨bg, lo - 1⟩ : S32)]).getD ((out ++ [(⟨bg, lo - 1⟩ : S32)]).length - 1) ⟨0, 0⟩ = ⟨bg, lo - 1⟩ := by
    rw [List.getD_eq_getElem?_getD]
    simp
  unfold addSpan
  rw [e, if_pos ⟨by simp, rfl⟩]
  simp
theorem refL_spans (ok : Int → Bool) (h65 : ok 65536 = false) : ∀ (R : List Int) (x : Int), (x :: R).Pairwise (· < ·) → 0 ≤ x → (x :: R).getLast? = some 65536 →
    (∀ (out : List S32) (bg : Int), bg < 0 → (∀ s, out.getLast? = some s → s.f1 < x - 1) → refL ok (x :: R) out bg = spansGo ok (x :: R) out) ∧
    (∀ (out : List S32) (bg : Int), 0 ≤ bg → refL ok (x :: R) out bg = spansGo ok (x :: R) (out ++ [⟨bg, x - 1⟩])) := by
  intro R
  induction R with
  | nil =>
    intro x _ _ hlast
    obtain rfl : x = 65536 := by simpa using hlast
    constructor
    · intro out bg hb _
      rw [refL, if_neg (by rw [h65]; simp), if_neg (by omega)]
      rfl
    · intro out bg hb
      rw [refL, if_neg (by rw [h65]; simp), if_pos hb]
      rfl
  | cons y R ih =>
    intro x hp h0 hlast
    have hxy : x < y := (List.pairwise_cons.1 hp).1 y (by simp)
    obtain ⟨i1, i2⟩ := ih y (List.pairwise_cons.1 hp).2 (by omega) (by simpa using hlast)
    constructor
    · intro out bg hb hs
      rw [refL, spansGo]
      cases hx : ok x with
      | true =>
        rw [if_pos rfl, if_pos rfl, if_pos hb, i2 out x h0, addSpan_new _ hs]
      | false =>
        rw [if_neg (by simp), if_neg (by omega), if_neg (by simp)]
        exact i1 out bg hb (fun s h => by have := hs s h; omega)
    · intro out bg hb
      rw [refL, spansGo]
      cases hx : ok x with
      | true =>
        rw [if_pos rfl, if_pos rfl, if_neg (by omega), i2 out bg hb, addSpan_more]
      | false =>
        rw [if_neg (by simp), if_pos hb, if_neg (by simp)]
        refine i1 _ (-1) (by omega) (fun s h => ?_)
        rw [List.getLast?_append] at h
        obtain rfl : (⟨bg, x - 1⟩ : S32) = s := by simpa using h
        show x - 1 < y - 1
        omega
theorem cut_iff (l : List S37) (p : Nat) : cutB l p = true ↔ (p : Int) ∈ pointsOf l ++ [65536] := by
  have hp := (points_spec l).2.1
  rw [List.mem_append, hp, List.mem_singleton]
  unfold cutB
  rw [Bool.or_eq_true, Bool.or_eq_true, beq_iff_eq, beq_iff_eq, List.any_eq_true]
  constructor
  · rintro ((h | h) | ⟨r, hr, h⟩)
    · exact .inl (.inl (by omega))
    · exact .inr (by omega)
    · rw [Bool.or_eq_true] at h
      rcases h with h | h
      · unfold lowAt at h
        have h := of_decide_eq_true h
        by_cases h0 : p = 0
        · exact .inl (.inl (by omega))
        · refine .inl (.inr ?_)
          rw [← h.2.2]
          exact cut_low hr ⟨by omega, h.2.1⟩
      · unfold highAt at h
        have h := of_decide_eq_true h
        refine .inl (.inr ?_)
        rw [← h.2.2]
        exact cut_high hr ⟨h.1, h.2.1⟩
  · rintro ((h | h) | h)
    · exact .inl (.inl (by omega))
    · obtain ⟨r, hr, h⟩ := List.mem_flatMap.1 h
      refine .inr ⟨r, hr, ?_⟩
      rw [Bool.or_eq_true]
      rcases List.mem_append.1 h with h | h
      · split at h
        · rename_i hc
          have e := List.mem_singleton.1 h
          exact .inl (decide_eq_true ⟨by omega, hc.2, e.symm⟩)
        · cases h
      · split at h
        · rename_i hc
          have e := List.mem_singleton.1 h
          exact .inr (decide_eq_true ⟨hc.1, hc.2, e.symm⟩)
        · cases h
    · exact .inl (.inr (by omega))
theorem refSpans_eq (l : List S37) (a b : Int) : refSpans l a b = spansV l a b := by
  unfold refSpans spansV
  rw [refGo_L (cutB l) (fun p => allowsV l a b p) 65537 0 (pointsOf l ++ [65536]) [] (-1) (by omega) (all_rising l) (fun q => ?_)]
  · obtain ⟨P, hP⟩ := points_head l
    have hr := all_rising l
    rw [hP] at hr ⊢
    rw [List.cons_append] at hr ⊢
    refine (refL_spans (fun p => allowsV l a b p) ?_ (P ++ [65536]) 0 hr (by omega) (by rw [← List.cons_append, List.getLast?_append]; simp)).1 [] (-1) (by omega) (fun s h => by cases h)
    unfold allowsV mayAsk
    simp
  · constructor
    · intro hq
      have hr : 0 ≤ q ∧ q ≤ 65536 := by
        rcases List.mem_append.1 hq with h | h
        · have := points_range l q h; omega
        · have := List.mem_singleton.1 h; omega
      refine ⟨by omega, hr.2, ?_⟩
      rw [cut_iff, show ((q.toNat : Nat) : Int) = q by omega]
      exact hq
    · rintro ⟨h1, h2, h3⟩
      rw [cut_iff, show ((q.toNat : Nat) : Int) = q by omega] at h3
      exact h3
theorem ref_Spans_eq (l : List S37) (hl : l.length ≤ 1000) (a b : Int) : causewayref20_Spans.f l a b = some (spansV l a b) := by
  unfold causewayref20_Spans.f
  rw [if_pos hl, refSpans_eq]
end Go.Proofs.YtglnnlpkhjijhaaDoor.PA
