/- What is written of rules that were read is no longer than what was read, but for one byte. -/
import Derived.Test.YtglnnlpkhjijhaaGreatDoorPureBack
set_option linter.unusedVariables false
set_option linter.unusedSimpArgs false
namespace Go.Proofs.YtglnnlpkhjijhaaGreatDoor.PA
open Go.RowKit Go.Lib Go.Proofs.YtglnnlpkhjijhaaGreatDoor.Acl Go.Proofs.YtglnnlpkhjijhaaGreatDoorW.PrintWords Go.Proofs.YtglnnlpkhjijhaaGreatDoorW.PrintLast Go.Proofs.YtglnnlpkhjijhaaGreatDoorW.PrintMore

/-- The lengths, and one for each. -/
def sum1 (l : List (List UInt8)) : Nat := (l.map fun p => p.length + 1).sum
theorem sum1_nil : sum1 [] = 0 := rfl
theorem sum1_cons (p : List UInt8) (l : List (List UInt8)) : sum1 (p :: l) = p.length + 1 + sum1 l := by simp [sum1]
theorem docLines_sum : ∀ (s cur : List UInt8), sum1 (docLines cur s) ≤ cur.length + s.length + 1 := by
  intro s
  induction s with
  | nil =>
    intro cur
    unfold docLines
    split
    · simp [sum1]
    · simp [sum1]
  | cons c r ih =>
    intro cur
    unfold docLines
    split
    · have := ih []
      rw [sum1_cons]
      simp only [List.length_cons, List.length_nil] at this ⊢
      omega
    · have := ih (cur ++ [c])
      simp only [List.length_append, List.length_cons, List.length_nil] at this ⊢
      omega
theorem wordsGo_sum : ∀ (s cur : List UInt8), sum1 (wordsGo cur s) ≤ cur.length + s.length + 1 := by
  intro s
  induction s with
  | nil =>
    intro cur
    unfold wordsGo
    split
    · simp [sum1]
    · simp [sum1]
  | cons c r ih =>
    intro cur
    unfold wordsGo
    split
    · have := ih []
      split
      · rw [List.nil_append]
        simp only [List.length_cons, List.length_nil] at this ⊢
        omega
      · rw [List.singleton_append, sum1_cons]
        simp only [List.length_cons, List.length_nil] at this ⊢
        omega
    · have := ih (cur ++ [c])
      simp only [List.length_append, List.length_cons, List.length_nil] at this ⊢
      omega

/-! #### nodes -/
/-- How many of the bits 1 to 8 are set. -/
def cnt (n : Nat) : Nat := ((List.range 9).filter fun k => n / 2 ^ k % 2 == 1).length
def cntT : Bool := (List.range 512).all fun o => (List.range 9).all fun k => k == 0 || o / 2 ^ k % 2 == 1 || (cnt (o + 2 ^ k) == cnt o + 1 && (o + 2 ^ k) % 2 == o % 2)
theorem cntT_true : cntT = true := by kernel_rfl
theorem cnt_at (o k : Nat) (ho : o < 512) (h1 : 1 ≤ k) (h8 : k ≤ 8) (hb : o / 2 ^ k % 2 ≠ 1) : cnt (o + 2 ^ k) = cnt o + 1 ∧ (o + 2 ^ k) % 2 = o % 2 := by
  have h := cntT_true
  unfold cntT at h
  have h2 := List.all_eq_true.1 (List.all_eq_true.1 h o (List.mem_range.2 ho)) k (List.mem_range.2 (by omega))
  have e1 : (k == 0) = false := beq_eq_false_iff_ne.2 (by omega)
  have e2 : (o / 2 ^ k % 2 == 1) = false := beq_eq_false_iff_ne.2 hb
  rw [e1, e2, Bool.false_or, Bool.false_or] at h2
  simpa using h2
def fewT : Bool := (List.range 511).all fun x => x == 0 || x % 2 == 1 || decide ((wordB (x : Int)).length + 1 ≤ 2 * cnt x)
theorem fewT_true : fewT = true := by kernel_rfl
theorem nodesFrom_cnt : ∀ (s : List UInt8) (odd : Bool) (o n : Nat), o < 512 → nodesFrom odd o s = some n →
    n < 512 ∧ n % 2 = o % 2 ∧ o ≤ n ∧ (odd = false → o + 2 ≤ n) ∧ 2 * cnt n = 2 * cnt o + s.length + (if odd = true then 0 else 1) := by
  intro s
  induction s with
  | nil =>
    intro odd o n ho h
    cases odd with
    | true =>
      obtain rfl : o = n := by simpa [nodesFrom] using h
      exact ⟨ho, rfl, Nat.le_refl _, (fun e => by cases e), by simp⟩
    | false => simp [nodesFrom] at h
  | cons c r ih =>
    intro odd o n ho h
    cases odd with
    | true =>
      rw [nodesFrom_odd] at h
      split at h
      · obtain ⟨a1, a2, a3, a4, a5⟩ := ih false o n ho h
        refine ⟨a1, a2, a3, (fun e => by cases e), ?_⟩
        simp only [Bool.false_eq_true, if_false, if_true, List.length_cons] at a5 ⊢
        omega
      · cases h
    | false =>
      rw [nodesFrom_even] at h
      split at h
      · rename_i hc
        have hroom := bit_room o _ ho (by omega) (by omega) hc.2
        obtain ⟨b1, b2⟩ := cnt_at o (c.toNat - 48) ho (by omega) (by omega) hc.2
        obtain ⟨a1, a2, a3, a4, a5⟩ := ih true _ n hroom h
        have hp : 2 ≤ 2 ^ (c.toNat - 48) := by
          have := Nat.pow_le_pow_right (n := 2) (by decide) (show 1 ≤ c.toNat - 48 by omega)
          simpa using this
        refine ⟨a1, by omega, by omega, (fun _ => by omega), ?_⟩
        simp only [Bool.false_eq_true, if_false, if_true, List.length_cons] at a5 ⊢
        omega
      · cases h
theorem nodes_short {b : List UInt8} {f : Int} (h : nodesOf b = some f) : mayN f = true ∧ (wordB f).length ≤ b.length := by
  rw [nodes_doc] at h
  unfold docNodes at h
  split at h
  · rename_i hb
    obtain rfl := Option.some.inj h
    rw [hb]
    have e : wordB 510 = [42] := by kernel_rfl
    rw [e]
    exact ⟨by decide, by simp⟩
  · obtain ⟨n, hn, rfl⟩ := Option.map_eq_some_iff.1 h
    obtain ⟨a1, a2, a3, a4, a5⟩ := nodesFrom_cnt b false 0 n (by decide) hn
    have h2 := a4 rfl
    have e0 : cnt 0 = 0 := by decide
    have hm : n ≤ 510 ∧ n % 2 = 0 := by omega
    have ht := fewT_true
    unfold fewT at ht
    have h4 := List.all_eq_true.1 ht n (List.mem_range.2 (by omega))
    have hn0 : (n == 0) = false := beq_eq_false_iff_ne.2 (by omega)
    have hn1 : (n % 2 == 1) = false := beq_eq_false_iff_ne.2 (by omega)
    rw [hn0, hn1, Bool.false_or, Bool.false_or] at h4
    have h5 := of_decide_eq_true h4
    simp only [Bool.false_eq_true, if_false] at a5
    exact ⟨mayN_iff.2 (by omega), by omega⟩

/-! #### ports -/
theorem port_canon {s : List UInt8} {x : Int} (h : portOf s = some x) : itoa x = s := by
  unfold portOf at h
  cases hq : atoiAll s with
  | ok v =>
    rw [hq] at h
    simp only at h
    split at h
    · rename_i hc
      obtain rfl := Option.some.inj h
      exact hc.2.2
    · cases h
  | range => rw [hq] at h; cases h
  | _ => rw [hq] at h; cases h
theorem scan_parts : ∀ (s pre a b : List UInt8), scan pre s = some (a, b) → pre ++ s = a ++ 45 :: b := by
  intro s
  induction s with
  | nil => intro pre a b h; cases h
  | cons c r ih =>
    intro pre a b h
    rw [scan] at h
    split at h
    · rename_i hc
      obtain ⟨rfl, rfl⟩ := Prod.mk.inj (Option.some.inj h)
      rw [hc]
    · have := ih _ _ _ h
      rw [← this]
      simp
theorem ports_short {q : List UInt8} {x y : Int} (h : portsOf q = some (x, y)) : (0 ≤ x ∧ x ≤ y ∧ y ≤ 65535) ∧ (atOf x y).length ≤ q.length := by
  rw [ports_doc] at h
  unfold docPorts at h
  split at h
  · rename_i hq
    obtain ⟨rfl, rfl⟩ := Prod.mk.inj (Option.some.inj h)
    rw [hq]
    exact ⟨by decide, by unfold atOf; simp⟩
  · cases hsc : scan [] q with
    | some p =>
      obtain ⟨a, b⟩ := p
      rw [hsc] at h
      simp only at h
      obtain ⟨x', hx, h⟩ := Option.bind_eq_some_iff.1 h
      obtain ⟨y', hy, h⟩ := Option.bind_eq_some_iff.1 h
      split at h
      · rename_i hle
        obtain ⟨rfl, rfl⟩ := Prod.mk.inj (Option.some.inj h)
        rw [← port_doc] at hx hy
        have rx := portOf_range hx
        have ry := portOf_range hy
        have hq := scan_parts q [] a b hsc
        rw [List.nil_append] at hq
        refine ⟨by omega, ?_⟩
        rw [hq, ← port_canon hx, ← port_canon hy]
        unfold atOf
        split
        · simp only [List.length_append, List.length_cons, List.length_nil]; omega
        · split
          · simp
          · simp
      · cases h
    | none =>
      rw [hsc] at h
      simp only at h
      obtain ⟨x', hx, h⟩ := Option.map_eq_some_iff.1 h
      obtain ⟨rfl, rfl⟩ := Prod.mk.inj h
      rw [← port_doc] at hx
      have rx := portOf_range hx
      refine ⟨by omega, ?_⟩
      rw [at_else (by omega) (by omega), port_canon hx]
      exact Nat.le_refl _

/-! #### a line -/
theorem rule_short {p : List UInt8} {r : Bool × Int × Int × Int × Int} (h : ruleOf (wordsOf p) = some r) : mayB (ruleS r) = true ∧ (lineB (ruleS r)).length ≤ p.length + 1 := by
  have hsum := wordsGo_sum p []
  rw [← words_bytes] at hsum
  by_cases h5 : (wordsOf p).length = 5
  · match hw : wordsOf p, h5 with
    | [a, b, c, d, q], _ =>
      rw [hw] at h hsum
      rw [ruleOf_five] at h
      split at h
      · rename_i hc
        obtain ⟨f, hf, h⟩ := Option.bind_eq_some_iff.1 h
        obtain ⟨t, ht, h⟩ := Option.bind_eq_some_iff.1 h
        obtain ⟨⟨x, y⟩, hq, h⟩ := Option.map_eq_some_iff.1 h
        subst h
        obtain ⟨m1, s1⟩ := nodes_short hf
        obtain ⟨m2, s2⟩ := nodes_short ht
        obtain ⟨m3, s3⟩ := ports_short hq
        simp only [Bool.and_eq_true, Bool.or_eq_true, beq_iff_eq] at hc
        have s0 : (whatOf (a == allowB)).length ≤ a.length := by
          rcases hc.1 with ha | ha <;> rw [ha] <;> decide
        refine ⟨mayB_iff.2 ⟨m1, m2, m3.1, m3.2.1, m3.2.2⟩, ?_⟩
        rw [line_words]
        simp only [sum1_cons, sum1_nil, hc.2, List.length_append, List.length_cons, List.length_nil, ruleS] at hsum ⊢
        omega
      · cases h
  · rw [ruleOf_not5 _ h5] at h; cases h
theorem lines_short : ∀ (ls : List (List UInt8)) (acc l : List S36), acc.length ≤ 32 → linesOf ls acc = (l, 0) → ∃ l', l = acc ++ l' ∧ l'.all mayB = true ∧ (l'.flatMap lineB).length ≤ sum1 ls ∧ l.length ≤ 32 := by
  intro ls
  induction ls with
  | nil =>
    intro acc l ha h
    obtain ⟨rfl, _⟩ := Prod.mk.inj h
    exact ⟨[], by simp, by simp, by simp [sum1], ha⟩
  | cons p ls ih =>
    intro acc l ha h
    cases hs : skips (wordsOf p) with
    | true =>
      rw [lines_skip hs] at h
      obtain ⟨l', h1, h2, h3, h4⟩ := ih acc l ha h
      exact ⟨l', h1, h2, by rw [sum1_cons]; omega, h4⟩
    | false =>
      cases hr : ruleOf (wordsOf p) with
      | none =>
        rw [lines_bad hs hr] at h
        have := (Prod.mk.inj h).2
        omega
      | some r =>
        by_cases h32 : acc.length = 32
        · rw [lines_full hs hr h32] at h
          have := (Prod.mk.inj h).2
          omega
        · rw [lines_add hs hr h32] at h
          obtain ⟨l', h1, h2, h3, h4⟩ := ih _ l (by simp; omega) h
          obtain ⟨m, sh⟩ := rule_short hr
          refine ⟨ruleS r :: l', by rw [h1]; simp, by simp [m, h2], ?_, h4⟩
          rw [List.flatMap_cons, List.length_append, sum1_cons]
          omega
theorem lines_err : ∀ (ls : List (List UInt8)) (acc : List S36), (linesOf ls acc).2 ≠ 0 → (linesOf ls acc).1 = [] := by
  intro ls
  induction ls with
  | nil => intro acc h; exact absurd rfl h
  | cons p ls ih =>
    intro acc h
    cases hs : skips (wordsOf p) with
    | true => rw [lines_skip hs] at h ⊢; exact ih acc h
    | false =>
      cases hr : ruleOf (wordsOf p) with
      | none => rw [lines_bad hs hr]
      | some r =>
        by_cases h32 : acc.length = 32
        · rw [lines_full hs hr h32]
        · rw [lines_add hs hr h32] at h ⊢; exact ih _ h
theorem parse_short {s : List UInt8} {l : List S36} (h : parseOf s = (l, 0)) : s.length ≤ 1024 ∧ l.all mayB = true ∧ l.length ≤ 32 ∧ (l.flatMap lineB).length ≤ s.length + 1 := by
  by_cases hs : s.length > 1024
  · unfold parseOf at h
    rw [if_pos hs] at h
    have := (Prod.mk.inj h).2
    omega
  · rw [parse_lines s (by omega)] at h
    obtain ⟨l', h1, h2, h3, h4⟩ := lines_short _ [] l (by simp) h
    rw [List.nil_append] at h1
    subst h1
    have := docLines_sum s []
    simp only [List.length_nil] at this
    exact ⟨by omega, h2, h4, by omega⟩
theorem parse_err {s : List UInt8} (h : (parseOf s).2 ≠ 0) : (parseOf s).1 = [] := by
  by_cases hs : s.length > 1024
  · unfold parseOf
    rw [if_pos hs]
  · rw [parse_lines s (by omega)] at h ⊢
    exact lines_err _ _ h
theorem rule64_may {s : S36} (h : mayB s = true) : Rule64 s := by
  obtain ⟨h1, h2, h3, h4, h5⟩ := mayB_iff.1 h
  have a := mayN_iff.1 h1
  have b := mayN_iff.1 h2
  exact ⟨⟨by omega, by omega⟩, ⟨by omega, by omega⟩, ⟨by omega, by omega⟩, ⟨by omega, by omega⟩⟩
end Go.Proofs.YtglnnlpkhjijhaaGreatDoor.PA
