/- What acl.Text and the document's Text answer: the rules' lines, one behind the other; nothing else. -/
import Derived.Test.YtglnnlpkhjijhaaGreatDoorAclText
import Derived.Test.YtglnnlpkhjijhaaGreatDoorPAx9
import Derived.Test.YtglnnlpkhjijhaaGreatDoorDocRef
set_option linter.unusedVariables false
set_option linter.unusedSimpArgs false
namespace Go.Proofs.YtglnnlpkhjijhaaGreatDoor.PA
open Go.RowKit Go.Lib Go.Proofs.YtglnnlpkhjijhaaGreatDoor.Acl Go.Proofs.YtglnnlpkhjijhaaGreatDoorW.PrintWords Go.Proofs.YtglnnlpkhjijhaaGreatDoorW.PrintLast Go.Proofs.YtglnnlpkhjijhaaGreatDoorW.PrintMore

/-! #### bits -/
/-- The bits of some nodes. -/
def mayN (x : Int) : Bool := decide (1 ≤ x) && decide (x ≤ 510) && decide (x % 2 = 0)
/-- A whole number of 64 bits. -/
def Is64 (x : Int) : Prop := -9223372036854775808 ≤ x ∧ x ≤ 9223372036854775807
def lowTable : Bool := (List.range 512).all fun n => ((n &&& 510 == n) == (n % 2 == 0)) && ((n &&& 18446744073709551105 == 0) == (n % 2 == 0))
theorem lowTable_true : lowTable = true := by kernel_rfl
theorem low_at (n : Nat) (h : n < 512) : (n &&& 510 = n ↔ n % 2 = 0) ∧ (n &&& 18446744073709551105 = 0 ↔ n % 2 = 0) := by
  have ht := lowTable_true
  unfold lowTable at ht
  have h2 := List.all_eq_true.1 ht n (List.mem_range.2 h)
  simp only [Bool.and_eq_true, beq_iff_eq] at h2
  constructor
  · rw [← beq_iff_eq (a := n &&& 510), h2.1, beq_iff_eq]
  · rw [← beq_iff_eq (a := n &&& 18446744073709551105), h2.2, beq_iff_eq]
theorem ofInt_low {x : Int} (h : Is64 x) : (0 ≤ x → (BitVec.ofInt 64 x).toNat = x.toNat) ∧ (x < 0 → 9223372036854775808 ≤ (BitVec.ofInt 64 x).toNat) := by
  obtain ⟨h0, h1⟩ := h
  rw [BitVec.toNat_ofInt]
  constructor <;> intro hx <;> omega
theorem and_low (x : Int) : Go.bits .and .i64 x 510 = (((BitVec.ofInt 64 x).toNat &&& 510 : Nat) : Int) := by
  unfold Go.bits
  show IntKind.i64.wrap ((BitVec.ofInt 64 x &&& BitVec.ofInt 64 510).toNat : Int) = _
  rw [BitVec.toNat_and, show (BitVec.ofInt 64 510).toNat = 510 from rfl, IntKind.wrap_i64]
  have := Nat.and_le_right (n := (BitVec.ofInt 64 x).toNat) (m := 510)
  omega
theorem andNot_low (x : Int) : Go.bits .andNot .i64 x 510 = 0 ↔ (BitVec.ofInt 64 x).toNat &&& 18446744073709551105 = 0 := by
  unfold Go.bits
  show IntKind.i64.wrap ((BitVec.ofInt 64 x &&& ~~~BitVec.ofInt 64 510).toNat : Int) = 0 ↔ _
  rw [BitVec.toNat_and, show (~~~BitVec.ofInt 64 510).toNat = 18446744073709551105 from rfl, IntKind.wrap_i64]
  have := Nat.and_le_right (n := (BitVec.ofInt 64 x).toNat) (m := 18446744073709551105)
  omega
theorem high_bits : ∀ i, 9 ≤ i → i < 64 → Nat.testBit 18446744073709551105 i = true := by
  have h : ((List.range 64).all fun i => decide (i < 9) || Nat.testBit 18446744073709551105 i) = true := by kernel_rfl
  intro i h9 h64
  have := List.all_eq_true.1 h i (List.mem_range.2 h64)
  simp only [Bool.or_eq_true, decide_eq_true_eq] at this
  rcases this with h | h
  · omega
  · exact h
theorem and_same {x : Int} (hx : Is64 x) : Go.bits .and .i64 x 510 = x ↔ (0 ≤ x ∧ x ≤ 510 ∧ x % 2 = 0) := by
  rw [and_low]
  have hle := Nat.and_le_right (n := (BitVec.ofInt 64 x).toNat) (m := 510)
  obtain ⟨h1, h2⟩ := ofInt_low hx
  constructor
  · intro h
    have h0 : 0 ≤ x := by omega
    have e := h1 h0
    rw [e] at h hle
    have := (low_at x.toNat (by omega)).1.1 (by omega)
    exact ⟨h0, by omega, by omega⟩
  · rintro ⟨h0, h510, he⟩
    rw [h1 h0]
    have := (low_at x.toNat (by omega)).1.2 (by omega)
    rw [this]
    omega
theorem andNot_none {x : Int} (hx : Is64 x) : Go.bits .andNot .i64 x 510 = 0 ↔ (0 ≤ x ∧ x ≤ 510 ∧ x % 2 = 0) := by
  rw [andNot_low]
  obtain ⟨h1, h2⟩ := ofInt_low hx
  constructor
  · intro h
    have hlt : (BitVec.ofInt 64 x).toNat < 2 ^ 9 := by
      apply Nat.lt_pow_two_of_testBit
      intro i hi
      by_cases h64 : i < 64
      · have := congrArg (fun n => Nat.testBit n i) h
        simp only [Nat.testBit_and, high_bits i hi h64, Bool.and_true, Nat.zero_testBit] at this
        exact this
      · exact Nat.testBit_lt_two_pow (Nat.lt_of_lt_of_le (BitVec.isLt _) (Nat.pow_le_pow_right (by decide) (by omega)))
    have h0 : 0 ≤ x := by
      rcases Int.lt_or_le x 0 with hn | hn
      · have := h2 hn; omega
      · exact hn
    have e := h1 h0
    rw [e] at h hlt
    have := (low_at x.toNat (by omega)).2.1 h
    exact ⟨h0, by omega, by omega⟩
  · rintro ⟨h0, h510, he⟩
    rw [h1 h0]
    exact (low_at x.toNat (by omega)).2.2 (by omega)

/-! #### a rule that may be -/
def mayB (s : S36) : Bool := mayN s.f1 && mayN s.f2 && decide (0 ≤ s.f3) && decide (s.f3 ≤ s.f4) && decide (s.f4 ≤ 65535)
def Rule64 (s : S36) : Prop := Is64 s.f1 ∧ Is64 s.f2 ∧ Is64 s.f3 ∧ Is64 s.f4
theorem mayN_iff {x : Int} : mayN x = true ↔ (1 ≤ x ∧ x ≤ 510 ∧ x % 2 = 0) := by
  unfold mayN; simp [and_assoc]
theorem may_eq {s : S36} (h : Rule64 s) : acl_may.f s.f0 s.f1 s.f2 s.f3 s.f4 = some (mayB s) := by
  obtain ⟨h1, h2, h3, h4⟩ := h
  have n1 := andNot_none h1
  have n2 := andNot_none h2
  unfold acl_may.f mayB
  by_cases a1 : s.f1 = 0
  · rw [if_pos a1]; simp [mayN, a1]
  · rw [if_neg a1]
    by_cases b1 : Go.bits .andNot .i64 s.f1 510 = 0
    · have m1 : mayN s.f1 = true := mayN_iff.2 (by have := n1.1 b1; omega)
      rw [if_pos b1, m1]
      by_cases a2 : s.f2 = 0
      · rw [if_pos a2]; simp [mayN, a2]
      · rw [if_neg a2]
        by_cases b2 : Go.bits .andNot .i64 s.f2 510 = 0
        · have m2 : mayN s.f2 = true := mayN_iff.2 (by have := n2.1 b2; omega)
          rw [if_pos b2, m2]
          by_cases a3 : s.f3 ≥ 0
          · rw [if_pos a3]
            by_cases a4 : s.f3 ≤ s.f4
            · rw [if_pos a4]; simp [a4, show 0 ≤ s.f3 from a3]
            · rw [if_neg a4]; simp [a4]
          · rw [if_neg a3]; simp [show ¬ 0 ≤ s.f3 from a3]
        · have m2 : mayN s.f2 = false := Bool.eq_false_iff.2 (fun e => b2 (n2.2 (by have := mayN_iff.1 e; omega)))
          rw [if_neg b2, m2]; simp
    · have m1 : mayN s.f1 = false := Bool.eq_false_iff.2 (fun e => b1 (n1.2 (by have := mayN_iff.1 e; omega)))
      rw [if_neg b1, m1]; simp
theorem May_eq {s : S36} (h : Rule64 s) : causewayref20_May.f s.f0 s.f1 s.f2 s.f3 s.f4 = some (mayB s) := by
  obtain ⟨h1, h2, h3, h4⟩ := h
  have n1 := and_same h1
  have n2 := and_same h2
  unfold causewayref20_May.f mayB
  by_cases a1 : s.f1 > 0
  · rw [if_pos a1]
    by_cases b1 : Go.bits .and .i64 s.f1 510 = s.f1
    · have m1 : mayN s.f1 = true := mayN_iff.2 (by have := n1.1 b1; omega)
      rw [if_pos b1, m1]
      by_cases a2 : s.f2 > 0
      · rw [if_pos a2]
        by_cases b2 : Go.bits .and .i64 s.f2 510 = s.f2
        · have m2 : mayN s.f2 = true := mayN_iff.2 (by have := n2.1 b2; omega)
          rw [if_pos b2, m2]
          by_cases a3 : s.f3 ≥ 0
          · rw [if_pos a3]
            by_cases a4 : s.f3 ≤ s.f4
            · rw [if_pos a4]; simp [a4, show 0 ≤ s.f3 from a3]
            · rw [if_neg a4]; simp [a4]
          · rw [if_neg a3]; simp [show ¬ 0 ≤ s.f3 from a3]
        · have m2 : mayN s.f2 = false := Bool.eq_false_iff.2 (fun e => b2 (n2.2 (by have := mayN_iff.1 e; omega)))
          rw [if_neg b2, m2]; simp
      · rw [if_neg a2]
        have m2 : mayN s.f2 = false := Bool.eq_false_iff.2 (fun e => by have := mayN_iff.1 e; omega)
        rw [m2]; simp
    · have m1 : mayN s.f1 = false := Bool.eq_false_iff.2 (fun e => b1 (n1.2 (by have := mayN_iff.1 e; omega)))
      rw [if_neg b1, m1]; simp
  · rw [if_neg a1]
    have m1 : mayN s.f1 = false := Bool.eq_false_iff.2 (fun e => by have := mayN_iff.1 e; omega)
    rw [m1]; simp

/-! #### words of nodes -/
def wordB (x : Int) : List UInt8 := match acl_word.f 20 x with | some a => a.data.toList | none => []
def wordT : Bool := (List.range 511).all fun x => x == 0 || x % 2 == 1 || (match acl_word.f 20 (x : Int), causewayref20_names.f 30 (x : Int) with | some a, some b => a.data.toList == b.data.toList && decide (a.data.toList.length ≤ 20) | _, _ => false)
theorem wordT_true : wordT = true := by kernel_rfl
theorem names_more (x : Int) (r : ByteArray) (h : causewayref20_names.f 30 x = some r) : ∀ k, 30 ≤ k → causewayref20_names.f k x = some r := by
  intro k hk
  obtain ⟨j, rfl⟩ : ∃ j, k = 30 + j := ⟨k - 30, by omega⟩
  induction j with
  | zero => exact h
  | succ j ih => exact causewayref20_names.mono x (30 + j) r (ih (by omega))
theorem word_ok {x : Int} (h : mayN x = true) : acl_word.f 20 x = some (toB (wordB x)) ∧ (∀ k, 30 ≤ k → causewayref20_names.f k x = some (toB (wordB x))) ∧ (wordB x).length ≤ 20 := by
  obtain ⟨h1, h2, h3⟩ := mayN_iff.1 h
  obtain ⟨n, rfl⟩ : ∃ n : Nat, x = n := ⟨x.toNat, by omega⟩
  have ht := wordT_true
  unfold wordT at ht
  have h4 := List.all_eq_true.1 ht n (List.mem_range.2 (by omega))
  have hn0 : (n == 0) = false := beq_eq_false_iff_ne.2 (by omega)
  have hn1 : (n % 2 == 1) = false := beq_eq_false_iff_ne.2 (by omega)
  rw [hn0, hn1, Bool.false_or, Bool.false_or] at h4
  cases ha : acl_word.f 20 (n : Int) with
  | none => rw [ha] at h4; cases h4
  | some a =>
    cases hb : causewayref20_names.f 30 (n : Int) with
    | none => rw [ha, hb] at h4; cases h4
    | some b =>
      rw [ha, hb] at h4
      simp only [Bool.and_eq_true, beq_iff_eq, decide_eq_true_eq] at h4
      have hw : wordB (n : Int) = a.data.toList := by unfold wordB; rw [ha]
      have ea : toB a.data.toList = a := rfl
      have eb : toB a.data.toList = b := by rw [h4.1]; rfl
      rw [hw]
      exact ⟨by rw [ea], fun k hk => by rw [names_more _ _ hb k hk, eb], h4.2⟩

/-! #### digits -/
theorem toB_append (a b : List UInt8) : toB a ++ toB b = toB (a ++ b) := by
  apply ByteArray.ext
  simp [toB, ByteArray.data_append]
theorem strOf_one (n : Nat) (h : n < 10) : strOfNums [(wrap64 (48 + (n : Int))) % 256] = toB [UInt8.ofNat (48 + n)] := by
  have e : (wrap64 (48 + (n : Int)) % 256).toNat = 48 + n := by unfold wrap64; omega
  unfold strOfNums toB
  simp [e]
theorem digits_eq : ∀ (k n : Nat), k ≤ 10 → n < 10 ^ k → causewayref20_digits.f (k + 1) (n : Int) = some (toB (decDigits n)) := by
  intro k
  induction k with
  | zero =>
    intro n hk hn
    obtain rfl : n = 0 := by simpa using hn
    rw [causewayref20_digits.f, if_pos (by omega), strOf_one 0 (by decide), decDigits, dif_pos (by decide)]
  | succ k ih =>
    intro n hk hn
    rw [causewayref20_digits.f]
    by_cases h : n < 10
    · rw [if_pos (by omega), strOf_one n h, decDigits, dif_pos h]
    · rw [if_neg (by omega)]
      have hk1 : 1 ≤ k := by
        rcases Nat.eq_zero_or_pos k with h0 | h0
        · subst h0; simp at hn; omega
        · exact h0
      have hp : 10 ≤ 10 ^ k := by
        obtain ⟨j, rfl⟩ : ∃ j, k = j + 1 := ⟨k - 1, by omega⟩
        rw [Nat.pow_succ]
        have := Nat.one_le_pow j 10 (by decide)
        omega
      have hb : n < 10 ^ 11 := Nat.lt_of_lt_of_le hn (Nat.pow_le_pow_right (by decide) (by omega))
      have e1 : wrap64 (Int.tdiv (n : Int) 10) = ((n / 10 : Nat) : Int) := by
        rw [show Int.tdiv (n : Int) 10 = ((n / 10 : Nat) : Int) from rfl, wrapZ (by omega) (by omega)]
      have e2 : Int.tmod (n : Int) 10 = ((n % 10 : Nat) : Int) := rfl
      rw [e1, e2, ih (n / 10) (by omega) (by rw [Nat.pow_succ] at hn; omega), ih (n % 10) (by omega) (by omega)]
      simp only [Option.bind_some]
      have l1 : (decDigits (n / 10)).length ≤ 11 := by rw [decDigits_length]; exact nDigits_le 10 _ (by omega)
      have l2 : (decDigits (n % 10)).length ≤ 11 := by rw [decDigits_length]; exact nDigits_le 10 _ (by omega)
      rw [if_pos (by rw [toB_size, toB_size]; omega), toB_append]
      congr 2
      have e3 : decDigits n = decDigits (n / 10) ++ [UInt8.ofNat (48 + n % 10)] := by rw [decDigits, dif_neg h]
      rw [decDigits_one (i := n % 10) (by omega), e3]
theorem ref_digits_eq {x : Int} (h0 : 0 ≤ x) (h1 : x ≤ 65535) (k : Nat) (hk : 6 ≤ k) : causewayref20_digits.f k x = some (toB (itoa x)) := by
  obtain ⟨n, rfl⟩ : ∃ n : Nat, x = n := ⟨x.toNat, by omega⟩
  rw [itoa_nonneg]
  have h6 : causewayref20_digits.f 6 (n : Int) = some (toB (decDigits n)) := digits_eq 5 n (by decide) (by omega)
  obtain ⟨j, rfl⟩ : ∃ j, k = 6 + j := ⟨k - 6, by omega⟩
  induction j with
  | zero => exact h6
  | succ j ih => exact causewayref20_digits.mono (n : Int) (6 + j) _ (ih (by omega))

/-! #### lines -/
def lineB (s : S36) : List UInt8 := lineOf s (toB (wordB s.f1)) (toB (wordB s.f2))
theorem line_words (s : S36) : lineB s = whatOf s.f0 ++ ([32] ++ (wordB s.f1 ++ ([32, 62, 32] ++ (wordB s.f2 ++ ([32] ++ (atOf s.f3 s.f4 ++ [10])))))) := by
  unfold lineB lineOf
  rw [toB_data, toB_data, join_cons]
  simp [joinTail]
theorem at_few {x y : Int} (h : 0 ≤ x ∧ x ≤ y ∧ y ≤ 65535) : (atOf x y).length ≤ 43 := by
  have h1 := itoa_few (x := x) (by omega) (by omega)
  have h2 := itoa_few (x := y) (by omega) (by omega)
  unfold atOf
  split
  · simp
  · split
    · simp; omega
    · omega
theorem mayB_iff {s : S36} : mayB s = true ↔ mayN s.f1 = true ∧ mayN s.f2 = true ∧ 0 ≤ s.f3 ∧ s.f3 ≤ s.f4 ∧ s.f4 ≤ 65535 := by
  unfold mayB; simp [and_assoc]
theorem lineB_few {s : S36} (h : mayB s = true) : (lineB s).length ≤ 100 := by
  obtain ⟨h1, h2, h3, h4, h5⟩ := mayB_iff.1 h
  have w1 := (word_ok h1).2.2
  have w2 := (word_ok h2).2.2
  have w3 := at_few ⟨h3, h4, h5⟩
  have w0 : (whatOf s.f0).length ≤ 5 := by unfold whatOf; split <;> simp
  rw [line_words]
  simp only [List.length_append, List.length_cons, List.length_nil]
  omega
/-- What comes out at the end. -/
def finB (acc : List UInt8) : List UInt8 × Int := if 1024 < acc.length then ([], 5) else (acc, 0)
def textB (l : List S36) : List UInt8 × Int := if 32 < l.length then ([], 5) else if l.all mayB = true then finB (l.flatMap lineB) else ([], 2)
theorem textL0_eq : ∀ (l : List S36) (acc : List UInt8), (∀ s ∈ l, Rule64 s) → acc.length + l.length * 100 ≤ 1000000000 →
    textL0 l acc = some (toB (if l.all mayB = true then finB (acc ++ l.flatMap lineB) else ([], 2)).1, (if l.all mayB = true then finB (acc ++ l.flatMap lineB) else ([], 2)).2) := by
  intro l
  induction l with
  | nil =>
    intro acc _ _
    rw [textL0]
    simp only [List.all_nil, if_true, List.flatMap_nil, List.append_nil]
    unfold finB
    by_cases h : 1024 < acc.length
    · rw [if_pos h, if_pos h]; rfl
    · rw [if_neg h, if_neg h]; rfl
  | cons s l ih =>
    intro acc hr hl
    rw [textL0, may_eq (hr s (by simp))]
    simp only [Option.bind_some]
    cases hm : mayB s with
    | false => rw [if_pos rfl]; simp [hm, toB]
    | true =>
      obtain ⟨h1, h2, h3, h4, h5⟩ := mayB_iff.1 hm
      have w1 := word_ok h1
      have w2 := word_ok h2
      have hfew := lineB_few hm
      rw [if_neg (by simp), w1.1, w2.1]
      simp only [Option.bind_some, toB_size]
      simp only [List.length_cons] at hl
      rw [if_pos ⟨by omega, by omega, by omega, by omega, by omega, by omega, by omega⟩]
      have e := ih (acc ++ lineB s) (fun x hx => hr x (by simp [hx])) (by rw [List.length_append]; omega)
      have e2 : lineOf s (toB (wordB s.f1)) (toB (wordB s.f2)) = lineB s := rfl
      rw [e2, e]
      simp [hm]
theorem acl_Text_eq (l : List S36) (hr : ∀ s ∈ l, Rule64 s) : acl_Text.f l = some (toB (textB l).1, (textB l).2) := by
  unfold acl_Text.f textB
  by_cases h : 32 < l.length
  · rw [if_pos h, if_pos h]; rfl
  · rw [if_neg h, if_neg h]
    have e := textL0_eq l [] hr (by simp; omega)
    rw [e]
    simp only [List.nil_append]

/-! #### the document's -/
theorem rd_at (l : List S36) (i : Nat) (h : i < l.length) : rd_T36 l (i : Int) = l[i] := by
  unfold rd_T36
  rw [show ((i : Int)).toNat = i by omega, List.getD_eq_getElem?_getD, List.getElem?_eq_getElem h]
  rfl
theorem lit3 : (⟨#[32, 62, 32]⟩ : ByteArray) = toB [32, 62, 32] := rfl
theorem lit_blank : (⟨#[32]⟩ : ByteArray) = toB [32] := rfl
theorem lit_star : (⟨#[42]⟩ : ByteArray) = toB [42] := rfl
theorem lit_end : (⟨#[10]⟩ : ByteArray) = toB [10] := rfl
theorem lit_to : (⟨#[45]⟩ : ByteArray) = toB [45] := rfl
theorem lit_allow : (⟨#[97, 108, 108, 111, 119, 32]⟩ : ByteArray) = toB [97, 108, 108, 111, 119, 32] := rfl
theorem lit_deny : (⟨#[100, 101, 110, 121, 32]⟩ : ByteArray) = toB [100, 101, 110, 121, 32] := rfl
theorem text_j4 (l : List S36) (k i : Nat) (h : i < l.length) (hm : mayB l[i] = true) (hl : l.length ≤ 32) (acc w t : List UInt8) (b : Bool) (ha : acc.length ≤ 1000000000) (hw : w.length ≤ 100) (ht : t.length ≤ 100) (hk : 30 ≤ k) :
    causewayref20_Text.j4 (k + 1) l (toB acc) (i : Int) (toB w) (toB t) b =
      causewayref20_Text.l1 k l (toB (acc ++ (w ++ (wordB l[i].f1 ++ ([32, 62, 32] ++ (wordB l[i].f2 ++ ([32] ++ ((if b = true then [42] else t) ++ [10])))))))) ((i + 1 : Nat) : Int) := by
  obtain ⟨h1, h2, _⟩ := mayB_iff.1 hm
  have w1 := word_ok h1
  have w2 := word_ok h2
  rw [causewayref20_Text.j4]
  simp only [rd_at l i h, lit3, lit_blank, lit_star, lit_end, toB_append, toB_size, List.length_append, List.length_cons, List.length_nil]
  rw [w1.2.1 k hk, w2.2.1 k hk]
  simp only [Option.bind_some, toB_append, toB_size, List.length_append, List.length_cons, List.length_nil]
  rw [wrap_next i (by omega)]
  cases b with
  | true =>
    rw [if_pos rfl, if_pos (by omega), if_pos (by omega), if_pos (by omega), if_pos (by omega), if_pos (by omega), if_pos (by omega), if_pos (by omega), if_pos (by omega), if_pos (by omega)]
    simp
  | false =>
    rw [if_neg (by simp), if_pos (by omega), if_pos (by omega), if_pos (by omega), if_pos (by omega), if_pos (by omega), if_pos (by omega), if_pos (by omega), if_pos (by omega), if_pos (by omega)]
    simp
theorem text_j2 (l : List S36) (k i : Nat) (h : i < l.length) (hm : mayB l[i] = true) (hl : l.length ≤ 32) (acc w : List UInt8) (ha : acc.length ≤ 1000000000) (hw : w.length ≤ 100) (hk : 30 ≤ k) :
    causewayref20_Text.j2 (k + 3) l (toB acc) (i : Int) (toB w) =
      causewayref20_Text.l1 k l (toB (acc ++ (w ++ (wordB l[i].f1 ++ ([32, 62, 32] ++ (wordB l[i].f2 ++ ([32] ++ (atOf l[i].f3 l[i].f4 ++ [10])))))))) ((i + 1 : Nat) : Int) := by
  obtain ⟨h1, h2, h3, h4, h5⟩ := mayB_iff.1 hm
  have f3 := itoa_few h3 (by omega)
  have f4 := itoa_few (x := l[i].f4) (by omega) h5
  have hj3 : ∀ t : List UInt8, t.length ≤ 100 → (¬ (l[i].f3 = 0 ∧ l[i].f4 = 65535) → t = atOf l[i].f3 l[i].f4) → causewayref20_Text.j3 (k + 2) l (toB acc) (i : Int) (toB w) (toB t) =
      causewayref20_Text.l1 k l (toB (acc ++ (w ++ (wordB l[i].f1 ++ ([32, 62, 32] ++ (wordB l[i].f2 ++ ([32] ++ (atOf l[i].f3 l[i].f4 ++ [10])))))))) ((i + 1 : Nat) : Int) := by
    intro t ht hat
    rw [causewayref20_Text.j3, if_pos (by omega), if_pos (by omega), rd_at l i h]
    by_cases z : l[i].f3 = 0
    · rw [if_pos z, text_j4 l k i h hm hl acc w t _ ha hw ht hk]
      by_cases y : l[i].f4 = 65535
      · rw [if_pos (beq_iff_eq.2 y)]
        have : atOf l[i].f3 l[i].f4 = [42] := by unfold atOf; rw [if_pos ⟨z, y⟩]
        rw [this]
      · rw [if_neg (fun e => y (beq_iff_eq.1 e)), hat (fun e => y e.2)]
    · rw [if_neg z, text_j4 l k i h hm hl acc w t _ ha hw ht hk, if_neg (by simp), hat (fun e => z e.1)]
  rw [causewayref20_Text.j2, if_pos (by omega), if_pos (by omega), rd_at l i h, ref_digits_eq h3 (by omega) (k + 2) (by omega), ref_digits_eq (x := l[i].f4) (by omega) h5 (k + 2) (by omega)]
  simp only [Option.bind_some, lit_to, toB_append, toB_size, List.length_append, List.length_cons, List.length_nil]
  rw [if_pos (by omega), if_pos (by omega)]
  by_cases e : l[i].f3 = l[i].f4
  · rw [if_pos e]
    refine hj3 _ (by omega) (fun hn => ?_)
    rw [at_else hn (by omega)]
  · rw [if_neg e]
    refine hj3 _ (by simp; omega) (fun hn => ?_)
    rw [at_span hn (by omega)]
    simp
theorem text_l1 (l : List S36) (hall : l.all mayB = true) (hl : l.length ≤ 32) : ∀ (n k i : Nat) (acc : List UInt8), l.length - i ≤ n → 4 * n + 40 ≤ k → i ≤ l.length → acc.length + n * 100 ≤ 100000 →
    causewayref20_Text.l1 k l (toB acc) (i : Int) = some (toB (finB (acc ++ (l.drop i).flatMap lineB)).1, (finB (acc ++ (l.drop i).flatMap lineB)).2) := by
  intro n
  induction n with
  | zero =>
    intro k i acc hn hk hi ha
    obtain ⟨k, rfl⟩ : ∃ j, k = j + 1 := ⟨k - 1, by omega⟩
    rw [causewayref20_Text.l1, if_neg (by omega), List.drop_of_length_le (by omega), toB_size]
    simp only [List.flatMap_nil, List.append_nil]
    unfold finB
    by_cases h : 1024 < acc.length
    · rw [if_pos (by omega), if_pos h]; rfl
    · rw [if_neg (by omega), if_neg h]
  | succ n ih =>
    intro k i acc hn hk hi ha
    by_cases h : i < l.length
    · obtain ⟨k, rfl⟩ : ∃ j, k = j + 4 := ⟨k - 4, by omega⟩
      have hm : mayB l[i] = true := List.all_eq_true.1 hall _ (List.getElem_mem h)
      have hfew := lineB_few hm
      have step : ∀ w : List UInt8, w.length ≤ 100 → w ++ (wordB l[i].f1 ++ ([32, 62, 32] ++ (wordB l[i].f2 ++ ([32] ++ (atOf l[i].f3 l[i].f4 ++ [10]))))) = lineB l[i] →
          causewayref20_Text.j2 (k + 3) l (toB acc) (i : Int) (toB w) = some (toB (finB (acc ++ (l.drop i).flatMap lineB)).1, (finB (acc ++ (l.drop i).flatMap lineB)).2) := by
        intro w hw e
        rw [text_j2 l k i h hm hl acc w (by omega) hw (by omega), e, ih k (i + 1) (acc ++ lineB l[i]) (by omega) (by omega) (by omega) (by rw [List.length_append]; omega), List.drop_eq_getElem_cons h, List.flatMap_cons, List.append_assoc]
      rw [causewayref20_Text.l1, if_pos (by omega), if_pos (by omega), rd_at l i h, lit_allow, lit_deny]
      cases h0 : l[i].f0 with
      | true =>
        rw [if_pos rfl]
        exact step _ (by simp) (by rw [line_words, h0]; simp [whatOf])
      | false =>
        rw [if_neg (by simp)]
        exact step _ (by simp) (by rw [line_words, h0]; simp [whatOf])
    · exact ih k i acc (by omega) (by omega) hi (by omega)
theorem text_l0 (l : List S36) (hr : ∀ s ∈ l, Rule64 s) (hl : l.length ≤ 32) : ∀ (n k i : Nat), l.length - i ≤ n → n + 200 ≤ k → i ≤ l.length → (l.take i).all mayB = true →
    causewayref20_Text.l0 k l (i : Int) = some (toB (if l.all mayB = true then finB (l.flatMap lineB) else ([], 2)).1, (if l.all mayB = true then finB (l.flatMap lineB) else ([], 2)).2) := by
  intro n
  induction n with
  | zero =>
    intro k i hn hk hi hp
    obtain ⟨k, rfl⟩ : ∃ j, k = j + 1 := ⟨k - 1, by omega⟩
    have hall : l.all mayB = true := by rwa [List.take_of_length_le (by omega)] at hp
    rw [causewayref20_Text.l0, if_neg (by omega), if_pos hall]
    have := text_l1 l hall hl l.length k 0 [] (by omega) (by omega) (by omega) (by simp; omega)
    rw [List.drop_zero, List.nil_append] at this
    exact this
  | succ n ih =>
    intro k i hn hk hi hp
    by_cases h : i < l.length
    · obtain ⟨k, rfl⟩ : ∃ j, k = j + 1 := ⟨k - 1, by omega⟩
      rw [causewayref20_Text.l0, if_pos (by omega), if_pos (by omega), rd_at l i h, May_eq (hr _ (List.getElem_mem h)), wrap_next i (by omega)]
      simp only [Option.bind_some]
      cases hm : mayB l[i] with
      | true =>
        rw [if_pos rfl]
        refine ih k (i + 1) (by omega) (by omega) (by omega) ?_
        rw [List.take_add_one, List.getElem?_eq_getElem h, List.all_append, hp]
        simp [hm]
      | false =>
        rw [if_neg (by simp)]
        have hno : l.all mayB = false := by
          rw [Bool.eq_false_iff]
          intro e
          have := List.all_eq_true.1 e _ (List.getElem_mem h)
          rw [hm] at this; cases this
        rw [hno]
        rfl
    · exact ih k i (by omega) (by omega) hi hp
theorem ref_Text_eq (l : List S36) (hr : ∀ s ∈ l, Rule64 s) (k : Nat) (hk : 300 ≤ k) : causewayref20_Text.f k l = some (toB (textB l).1, (textB l).2) := by
  unfold causewayref20_Text.f textB
  by_cases h : 32 < l.length
  · rw [if_pos (by omega), if_pos h]; rfl
  · rw [if_neg (by omega), if_neg h]
    exact text_l0 l hr (by omega) l.length k 0 (by omega) (by omega) (by omega) (by simp)
end Go.Proofs.YtglnnlpkhjijhaaGreatDoor.PA
