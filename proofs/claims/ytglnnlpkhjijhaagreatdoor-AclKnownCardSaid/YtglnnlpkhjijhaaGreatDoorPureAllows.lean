/- What acl.Allows and the document's Allows answer: the first rule that fits; nothing else. -/
import Derived.Test.YtglnnlpkhjijhaaGreatDoorPAx6
import Derived.Laws.BitsLemmas
namespace Go.Proofs.YtglnnlpkhjijhaaGreatDoor.PA
open Go.RowKit Go.Proofs.YtglnnlpkhjijhaaGreatDoorW.PrintWords Go.Proofs.YtglnnlpkhjijhaaGreatDoorW.PrintLast Go.Proofs.YtglnnlpkhjijhaaGreatDoorW.PrintMore

theorem wrap64_of {n : Int} (h0 : 0 ≤ n) (h1 : n < 9223372036854775808) : wrap64 n = n := by unfold wrap64; omega
theorem ofInt_wrap (n : Int) : BitVec.ofInt 64 (IntKind.i64.wrap n) = BitVec.ofInt 64 n := by
  apply BitVec.eq_of_toNat_eq
  simp only [BitVec.toNat_ofInt, IntKind.wrap_i64]
  congr 1
  omega
theorem and_one (x : Int) : Go.bits .and .i64 x 1 = x % 2 := by
  unfold Go.bits
  have h : (BitVec.ofInt 64 x &&& BitVec.ofInt 64 1).toNat = (x % 2).toNat := by
    have h1 : BitVec.ofInt 64 1 = 1#64 := rfl
    rw [h1, BitVec.toNat_and, BitVec.toNat_ofInt, show (1#64).toNat = 2 ^ 1 - 1 from rfl, Nat.and_two_pow_sub_one_eq_mod]
    omega
  show IntKind.i64.wrap ((BitVec.ofInt 64 x &&& BitVec.ofInt 64 1).toNat : Int) = x % 2
  rw [h, IntKind.wrap_i64]
  omega
theorem and_and_one (x y : Int) : Go.bits .and .i64 (Go.bits .and .i64 x y) 1 = if x % 2 = 1 ∧ y % 2 = 1 then 1 else 0 := by
  rw [and_one]
  have h : (Go.bits .and .i64 x y) % 2 = ((BitVec.ofInt 64 x &&& BitVec.ofInt 64 y).toNat : Int) % 2 := by
    unfold Go.bits
    show IntKind.i64.wrap ((BitVec.ofInt 64 x &&& BitVec.ofInt 64 y).toNat : Int) % 2 = _
    rw [IntKind.wrap_i64]
    omega
  rw [h, BitVec.toNat_and, BitVec.toNat_ofInt, BitVec.toNat_ofInt]
  have key : ∀ a b : Nat, (a &&& b) % 2 = if a % 2 = 1 ∧ b % 2 = 1 then 1 else 0 := by
    intro a b
    have h := Nat.testBit_and a b 0
    simp only [Nat.testBit_zero] at h
    split
    · rename_i hh; simp [hh.1, hh.2]
    · rename_i hh
      have : ¬ (a &&& b) % 2 = 1 := by
        intro e; apply hh
        rw [e] at h
        simpa using h.symm
      omega
  have k := key (x % ((2 ^ 64 : Nat) : Int)).toNat (y % ((2 ^ 64 : Nat) : Int)).toNat
  have hx : (x % ((2 ^ 64 : Nat) : Int)).toNat % 2 = 1 ↔ x % 2 = 1 := by omega
  have hy : (y % ((2 ^ 64 : Nat) : Int)).toNat % 2 = 1 ↔ y % 2 = 1 := by omega
  simp only [hx, hy] at k
  rw [show (((x % ((2 ^ 64 : Nat) : Int)).toNat &&& (y % ((2 ^ 64 : Nat) : Int)).toNat : Nat) : Int) % 2 = ((((x % ((2 ^ 64 : Nat) : Int)).toNat &&& (y % ((2 ^ 64 : Nat) : Int)).toNat) % 2 : Nat) : Int) from by omega, k]
  split <;> rfl

/-- Whether a rule fits the two numbers and the port. -/
def fits (r : S36) (a b p : Int) : Bool := decide (shr .i64 r.f1 a % 2 = 1) && decide (shr .i64 r.f2 b % 2 = 1) && decide (r.f3 ≤ p) && decide (p ≤ r.f4)
def mayAsk (a b p : Int) : Bool := decide (1 ≤ a) && decide (a ≤ 8) && decide (1 ≤ b) && decide (b ≤ 8) && decide (0 ≤ p) && decide (p ≤ 65535)
def firstOf : List S36 → Int → Int → Int → Bool
  | [], _, _, _ => false
  | r :: l, a, b, p => if fits r a b p = true then r.f0 else firstOf l a b p
def allowsV (l : List S36) (a b p : Int) : Bool := mayAsk a b p && firstOf l a b p

theorem rd_drop {l : List S36} {i : Nat} (h : i < l.length) : l.drop i = rd_T36 l (i : Int) :: l.drop (i + 1) := by
  rw [List.drop_eq_getElem_cons h]
  simp [rd_T36, List.getD_eq_getElem?_getD, List.getElem?_eq_getElem h]

theorem fits_and (r : S36) (a b p : Int) : (Go.bits .and .i64 (Go.bits .and .i64 (shr .i64 r.f1 a) (shr .i64 r.f2 b)) 1 = 1 ∧ p ≥ r.f3 ∧ p ≤ r.f4) ↔ fits r a b p = true := by
  rw [and_and_one]
  unfold fits
  simp only [Bool.and_eq_true, decide_eq_true_eq]
  constructor
  · rintro ⟨h1, h2, h3⟩
    split at h1
    · rename_i h; exact ⟨⟨⟨h.1, h.2⟩, h2⟩, h3⟩
    · cases h1
  · rintro ⟨⟨⟨h1, h2⟩, h3⟩, h4⟩
    exact ⟨by rw [if_pos ⟨h1, h2⟩], h3, h4⟩

theorem allows_l0 (l : List S36) (hl : l.length < 9223372036854775807) (a b p : Int) (ha : 0 ≤ a) (hb : 0 ≤ b) : ∀ (n k i : Nat), l.length - i ≤ n → i ≤ l.length → n < k → acl_Allows.l0 k a b p l (l.length : Int) (i : Int) = some (firstOf (l.drop i) a b p)
  | n, 0, i, _, _, h => absurd h (by omega)
  | n, k + 1, i, hn, hi, hk => by
    unfold acl_Allows.l0
    by_cases h : i < l.length
    · rw [if_pos (by omega), if_pos (by omega), if_pos (by omega), if_pos ha, if_pos hb, rd_drop h, firstOf]
      have hw : wrap64 ((i : Int) + 1) = ((i + 1 : Nat) : Int) := by rw [wrap64_of (by omega) (by omega)]; rfl
      have ih := allows_l0 l hl a b p ha hb (n - 1) k (i + 1) (by omega) (by omega) (by omega)
      rw [hw, ih]
      have hf := fits_and (rd_T36 l (i : Int)) a b p
      by_cases hx : fits (rd_T36 l (i : Int)) a b p = true
      · obtain ⟨h1, h2, h3⟩ := hf.2 hx
        rw [if_pos h1, if_pos h2, if_pos h3, if_pos hx]
      · rw [if_neg hx]
        by_cases h1 : Go.bits .and .i64 (Go.bits .and .i64 (shr .i64 (rd_T36 l (i : Int)).f1 a) (shr .i64 (rd_T36 l (i : Int)).f2 b)) 1 = 1
        · rw [if_pos h1]
          by_cases h2 : p ≥ (rd_T36 l (i : Int)).f3
          · rw [if_pos h2, if_neg (fun h3 => hx (hf.1 ⟨h1, h2, h3⟩))]
          · rw [if_neg h2]
        · rw [if_neg h1]
    · rw [if_neg (by omega), List.drop_of_length_le (by omega)]; rfl

theorem node_eq (a : Int) : acl_node.f a = some (decide (1 ≤ a) && decide (a ≤ 8)) := by
  unfold acl_node.f
  by_cases h : a ≥ 1
  · rw [if_pos h]; simp [show (1 : Int) ≤ a from h]
  · rw [if_neg h]; simp [show ¬ (1 : Int) ≤ a from h]
theorem Allows_eq (l : List S36) (hl : l.length < 9223372036854775807) (a b p : Int) (k : Nat) (hk : l.length + 1 < k) : acl_Allows.f k l a b p = some (allowsV l a b p) := by
  obtain ⟨k, rfl⟩ : ∃ k', k = k' + 1 := ⟨k - 1, by omega⟩
  unfold acl_Allows.f
  rw [node_eq, node_eq]
  simp only [Option.bind_some]
  have hj : ∀ (x : Bool), (x = false → 0 ≤ a ∧ 0 ≤ b) → acl_Allows.j0 (k + 1) l a b p x = some (!x && firstOf l a b p) := by
    intro x hx
    unfold acl_Allows.j0
    cases x with
    | true => simp
    | false =>
      obtain ⟨h0, h1⟩ := hx rfl
      have := allows_l0 l hl a b p h0 h1 l.length k 0 (by omega) (by omega) (by omega)
      simp only [Bool.false_eq_true, if_false, Bool.not_false, Bool.true_and]
      exact this
  unfold allowsV mayAsk
  by_cases h1 : (decide (1 ≤ a) && decide (a ≤ 8)) = true
  · rw [if_pos h1]
    by_cases h2 : (decide (1 ≤ b) && decide (b ≤ 8)) = true
    · rw [if_pos h2]
      simp only [Bool.and_eq_true, decide_eq_true_eq] at h1 h2
      by_cases h3 : p < 0
      · rw [if_pos h3, hj true (by simp)]
        simp [show ¬ 0 ≤ p by omega]
      · rw [if_neg h3, hj _ (fun _ => by omega)]
        have e : (!decide (p > 65535)) = decide (p ≤ 65535) := by rw [← decide_not]; congr 1; simp
        rw [e]
        simp [h1.1, h1.2, h2.1, h2.2, show 0 ≤ p by omega]
    · rw [if_neg h2, hj true (by simp)]
      simp only [Bool.and_assoc] at *
      cases hb1 : decide (1 ≤ b) <;> cases hb2 : decide (b ≤ 8) <;> simp_all
  · rw [if_neg h1, hj true (by simp)]
    cases hb1 : decide (1 ≤ a) <;> cases hb2 : decide (a ≤ 8) <;> simp_all
end Go.Proofs.YtglnnlpkhjijhaaGreatDoor.PA
