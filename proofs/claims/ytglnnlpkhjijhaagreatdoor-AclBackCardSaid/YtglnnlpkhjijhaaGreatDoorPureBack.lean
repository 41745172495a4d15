/- What is written of rules is read as it was. -/
import Derived.Test.YtglnnlpkhjijhaaGreatDoorPureText
set_option linter.unusedVariables false
set_option linter.unusedSimpArgs false
namespace Go.Proofs.YtglnnlpkhjijhaaGreatDoor.PA
open Go.RowKit Go.Lib Go.Proofs.YtglnnlpkhjijhaaGreatDoor.Acl Go.Proofs.YtglnnlpkhjijhaaGreatDoorW.PrintWords Go.Proofs.YtglnnlpkhjijhaaGreatDoorW.PrintLast Go.Proofs.YtglnnlpkhjijhaaGreatDoorW.PrintMore

/-- A byte that stands in words alone. -/
def inWord (c : UInt8) : Bool := c != 32 && c != 10 && c != 35
theorem inWord_ne {p : List UInt8} (h : p.all inWord = true) : (∀ c ∈ p, c ≠ 32) ∧ (∀ c ∈ p, c ≠ 10) := by
  constructor <;> intro c hc e <;> have := List.all_eq_true.1 h c hc <;> subst e <;> revert this <;> decide
def backT : Bool := (List.range 511).all fun x => x == 0 || x % 2 == 1 || ((wordB (x : Int)).all inWord && !(wordB (x : Int)).isEmpty && nodesOf (wordB (x : Int)) == some (x : Int))
theorem backT_true : backT = true := by kernel_rfl
theorem word_back {x : Int} (h : mayN x = true) : (wordB x).all inWord = true ∧ wordB x ≠ [] ∧ nodesOf (wordB x) = some x := by
  obtain ⟨h1, h2, h3⟩ := mayN_iff.1 h
  obtain ⟨n, rfl⟩ : ∃ n : Nat, x = n := ⟨x.toNat, by omega⟩
  have ht := backT_true
  unfold backT at ht
  have h4 := List.all_eq_true.1 ht n (List.mem_range.2 (by omega))
  have hn0 : (n == 0) = false := beq_eq_false_iff_ne.2 (by omega)
  have hn1 : (n % 2 == 1) = false := beq_eq_false_iff_ne.2 (by omega)
  rw [hn0, hn1, Bool.false_or, Bool.false_or] at h4
  simp only [Bool.and_eq_true, beq_iff_eq] at h4
  refine ⟨h4.1.1, fun e => ?_, h4.2⟩
  rw [e] at h4
  simp at h4

/-! #### ports -/
theorem dec_bytes : ∀ (u : Nat), ∀ c ∈ decDigits u, 48 ≤ c.toNat ∧ c.toNat ≤ 57 := by
  intro u
  induction u using Nat.strongRecOn with
  | _ u ih =>
    intro c hc
    by_cases h : u < 10
    · rw [decDigits, dif_pos h] at hc
      rw [List.mem_singleton.1 hc, byte_digit h]
      omega
    · rw [decDigits, dif_neg h] at hc
      rcases List.mem_append.1 hc with hc | hc
      · exact ih (u / 10) (by omega) c hc
      · rw [List.mem_singleton.1 hc, byte_digit (show u % 10 < 10 by omega)]
        omega
theorem itoa_bytes {x : Int} (h : 0 ≤ x) : ∀ c ∈ itoa x, 48 ≤ c.toNat ∧ c.toNat ≤ 57 := by
  obtain ⟨n, rfl⟩ : ∃ n : Nat, x = n := ⟨x.toNat, by omega⟩
  rw [itoa_nonneg]
  exact dec_bytes n
theorem itoa_ne {x : Int} (h : 0 ≤ x) : itoa x ≠ [] := by
  obtain ⟨n, rfl⟩ : ∃ n : Nat, x = n := ⟨x.toNat, by omega⟩
  rw [itoa_nonneg]
  exact dec_ne n
theorem number_back {x : Int} (h0 : 0 ≤ x) (h1 : x ≤ 65535) : docNumber (itoa x) = some x := by
  obtain ⟨u, rfl⟩ : ∃ n : Nat, x = n := ⟨x.toNat, by omega⟩
  rw [itoa_nonneg]
  unfold docNumber
  rw [digs_dec, if_neg]
  · simp only; rw [if_pos (by omega)]
  · rintro (h1 | h1 | ⟨h1, h2⟩)
    · exact dec_ne u h1
    · rw [decDigits_length] at h1
      have := nDigits_le 4 u (by omega)
      omega
    · rcases Nat.eq_zero_or_pos u with h0 | h0
      · subst h0; rw [decDigits_length, nDigits_small (by decide)] at h1; omega
      · exact dec_head u h0 h2
theorem scan_at : ∀ (p pre r : List UInt8), (∀ c ∈ p, c ≠ 45) → scan pre (p ++ 45 :: r) = some (pre ++ p, r) := by
  intro p
  induction p with
  | nil => intro pre r _; rw [List.nil_append, scan, if_pos rfl, List.append_nil]
  | cons c p ih =>
    intro pre r h
    rw [List.cons_append, scan, if_neg (h c (by simp)), ih _ r (fun x hx => h x (by simp [hx]))]
    simp
theorem scan_none : ∀ (p pre : List UInt8), (∀ c ∈ p, c ≠ 45) → scan pre p = none := by
  intro p
  induction p with
  | nil => intro pre _; rfl
  | cons c p ih => intro pre h; rw [scan, if_neg (h c (by simp)), ih _ (fun x hx => h x (by simp [hx]))]
theorem digit_ne45 {c : UInt8} (h : 48 ≤ c.toNat ∧ c.toNat ≤ 57) : c ≠ 45 := fun e => by rw [e] at h; revert h; decide
theorem digit_inWord {c : UInt8} (h : 48 ≤ c.toNat ∧ c.toNat ≤ 57) : inWord c = true := by
  unfold inWord
  simp only [Bool.and_eq_true, bne_iff_ne]
  refine ⟨⟨fun e => ?_, fun e => ?_⟩, fun e => ?_⟩ <;> rw [e] at h <;> revert h <;> decide
theorem at_back {x y : Int} (h : 0 ≤ x ∧ x ≤ y ∧ y ≤ 65535) : (atOf x y).all inWord = true ∧ atOf x y ≠ [] ∧ portsOf (atOf x y) = some (x, y) := by
  obtain ⟨h0, h1, h2⟩ := h
  have bx := itoa_bytes h0
  have by' := itoa_bytes (x := y) (by omega)
  have nx := itoa_ne h0
  have head : ∀ c z, itoa x ≠ 42 :: z ∧ (itoa x ++ c ≠ [42]) := by
    intro c z
    have hx : ∀ q, itoa x ≠ 42 :: q := fun q e => by
      have := bx 42 (by rw [e]; simp)
      revert this; decide
    refine ⟨hx z, fun e => ?_⟩
    cases hq : itoa x with
    | nil => exact nx hq
    | cons a t =>
      rw [hq, List.cons_append] at e
      obtain ⟨rfl, _⟩ := List.cons.inj e
      exact hx t hq
  rw [ports_doc]
  by_cases hs : x = 0 ∧ y = 65535
  · have e : atOf x y = [42] := by unfold atOf; rw [if_pos hs]
    rw [e, hs.1, hs.2]
    exact ⟨by decide, by simp, rfl⟩
  · by_cases hlt : x < y
    · rw [at_span hs hlt]
      refine ⟨?_, by simp, ?_⟩
      · rw [List.all_append, List.all_append, Bool.and_eq_true, Bool.and_eq_true]
        exact ⟨List.all_eq_true.2 fun c hc => digit_inWord (bx c hc), by decide, List.all_eq_true.2 fun c hc => digit_inWord (by' c hc)⟩
      · unfold docPorts
        rw [if_neg (head _ []).2]
        have es : scan [] (itoa x ++ ([45] ++ itoa y)) = some (itoa x, itoa y) := scan_at (itoa x) [] (itoa y) (fun c hc => digit_ne45 (bx c hc))
        rw [es]
        simp only
        rw [number_back h0 (by omega), number_back (x := y) (by omega) h2]
        simp only [Option.bind_some]
        rw [if_pos h1]
    · obtain rfl : x = y := by omega
      rw [at_else hs hlt]
      refine ⟨List.all_eq_true.2 fun c hc => digit_inWord (bx c hc), nx, ?_⟩
      unfold docPorts
      rw [if_neg (head [] []).1, scan_none _ _ (fun c hc => digit_ne45 (bx c hc)), number_back h0 h2]
      rfl

/-! #### a line -/
theorem words_step : ∀ (w cur rest : List UInt8), (∀ c ∈ w, c ≠ 32) → cur ++ w ≠ [] → wordsGo cur (w ++ 32 :: rest) = (cur ++ w) :: wordsGo [] rest := by
  intro w
  induction w with
  | nil =>
    intro cur rest _ hn
    rw [List.append_nil] at hn ⊢
    rw [List.nil_append, wordsGo, if_pos rfl, if_neg hn]
    rfl
  | cons c w ih =>
    intro cur rest h hn
    rw [List.cons_append, wordsGo, if_neg (h c (by simp)), ih (cur ++ [c]) rest (fun x hx => h x (by simp [hx])) (by simp)]
    simp
theorem words_last : ∀ (w cur : List UInt8), (∀ c ∈ w, c ≠ 32) → cur ++ w ≠ [] → wordsGo cur w = [cur ++ w] := by
  intro w
  induction w with
  | nil => intro cur _ hn; rw [List.append_nil] at hn ⊢; rw [wordsGo, if_neg hn]
  | cons c w ih =>
    intro cur h hn
    rw [wordsGo, if_neg (h c (by simp)), ih (cur ++ [c]) (fun x hx => h x (by simp [hx])) (by simp)]
    simp
def bodyB (s : S36) : List UInt8 := whatOf s.f0 ++ 32 :: (wordB s.f1 ++ 32 :: ([62] ++ 32 :: (wordB s.f2 ++ 32 :: atOf s.f3 s.f4)))
theorem line_body (s : S36) : lineB s = bodyB s ++ [10] := by
  rw [line_words]
  unfold bodyB
  simp
theorem what_ok (b : Bool) : (whatOf b).all inWord = true ∧ whatOf b ≠ [] ∧ (whatOf b == allowB || whatOf b == denyB) = true ∧ (whatOf b == allowB) = b ∧ (whatOf b).getD 0 0 ≠ 35 := by
  cases b <;> decide
theorem body_words {s : S36} (h : mayB s = true) : wordsOf (bodyB s) = [whatOf s.f0, wordB s.f1, [62], wordB s.f2, atOf s.f3 s.f4] := by
  obtain ⟨h1, h2, h3, h4, h5⟩ := mayB_iff.1 h
  have w0 := what_ok s.f0
  have w1 := word_back h1
  have w2 := word_back h2
  have w3 := at_back ⟨h3, h4, h5⟩
  rw [words_bytes]
  unfold bodyB
  rw [words_step _ [] _ (inWord_ne w0.1).1 (by simpa using w0.2.1), words_step _ [] _ (inWord_ne w1.1).1 (by simpa using w1.2.1), words_step [62] [] _ (by decide) (by simp),
    words_step _ [] _ (inWord_ne w2.1).1 (by simpa using w2.2.1), words_last _ [] (inWord_ne w3.1).1 (by simpa using w3.2.1)]
  simp
theorem body_rule {s : S36} (h : mayB s = true) : ruleOf (wordsOf (bodyB s)) = some (s.f0, s.f1, s.f2, s.f3, s.f4) := by
  obtain ⟨h1, h2, h3, h4, h5⟩ := mayB_iff.1 h
  have w0 := what_ok s.f0
  rw [body_words h, ruleOf_five, w0.2.2.1, (word_back h1).2.2, (word_back h2).2.2, (at_back ⟨h3, h4, h5⟩).2.2, w0.2.2.2.1]
  rfl
theorem body_skips {s : S36} (h : mayB s = true) : skips (wordsOf (bodyB s)) = false := by
  rw [body_words h]
  unfold skips
  simp only [List.isEmpty_cons, Bool.false_or, List.getD_cons_zero]
  exact beq_eq_false_iff_ne.2 (what_ok s.f0).2.2.2.2
theorem body_no10 {s : S36} (h : mayB s = true) : ∀ c ∈ bodyB s, c ≠ 10 := by
  obtain ⟨h1, h2, h3, h4, h5⟩ := mayB_iff.1 h
  intro c hc
  unfold bodyB at hc
  simp only [List.mem_append, List.mem_cons, List.mem_singleton] at hc
  rcases hc with hc | rfl | hc | rfl | (rfl | hc) | rfl | hc | rfl | hc
  · exact (inWord_ne (what_ok s.f0).1).2 c hc
  · decide
  · exact (inWord_ne (word_back h1).1).2 c hc
  · decide
  · decide
  · cases hc
  · decide
  · exact (inWord_ne (word_back h2).1).2 c hc
  · decide
  · exact (inWord_ne (at_back ⟨h3, h4, h5⟩).1).2 c hc
theorem docLines_line : ∀ (p cur rest : List UInt8), (∀ c ∈ p, c ≠ 10) → docLines cur (p ++ 10 :: rest) = (cur ++ p) :: docLines [] rest := by
  intro p
  induction p with
  | nil => intro cur rest _; rw [List.nil_append, docLines, if_pos rfl, List.append_nil]
  | cons c p ih =>
    intro cur rest h
    rw [List.cons_append, docLines, if_neg (h c (by simp)), ih (cur ++ [c]) rest (fun x hx => h x (by simp [hx]))]
    simp
theorem lines_back : ∀ (l acc : List S36), l.all mayB = true → acc.length + l.length ≤ 32 → linesOf (docLines [] (l.flatMap lineB)) acc = (acc ++ l, 0) := by
  intro l
  induction l with
  | nil => intro acc _ _; rw [List.append_nil]; rfl
  | cons s l ih =>
    intro acc hall hlen
    have hs : mayB s = true := List.all_eq_true.1 hall s (by simp)
    have hl : l.all mayB = true := List.all_eq_true.2 fun x hx => List.all_eq_true.1 hall x (by simp [hx])
    simp only [List.length_cons] at hlen
    rw [List.flatMap_cons, line_body, List.append_assoc, List.singleton_append, docLines_line _ [] _ (body_no10 hs), List.nil_append,
      lines_add (body_skips hs) (body_rule hs) (by omega), ih _ hl (by simp; omega)]
    simp [ruleS]
theorem parse_back (l : List S36) (hall : l.all mayB = true) (hl : l.length ≤ 32) (hs : (l.flatMap lineB).length ≤ 1024) : parseOf (l.flatMap lineB) = (l, 0) := by
  rw [parse_lines _ hs, lines_back l [] hall (by simpa using hl)]
  rfl
end Go.Proofs.YtglnnlpkhjijhaaGreatDoor.PA
