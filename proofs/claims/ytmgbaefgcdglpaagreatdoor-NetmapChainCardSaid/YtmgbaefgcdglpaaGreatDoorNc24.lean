/- What acl.Allows and the document's Allows answer: the first rule that fits; nothing else. What acl.Spans answers: one pass over the cuts, sorted and without repeats. What Of counts; regions of stores. Of: what it answers; the way through the devices. Of: the regions of the loop. -/
import Derived.Test.YtmgbaefgcdglpaaGreatDoorNc21
import Derived.Laws.BitsLemmas
import Derived.Test.YtmgbaefgcdglpaaGreatDoorNc23
import Derived.Test.YtmgbaefgcdglpaaGreatDoorNc20
import Derived.Test.YtmgbaefgcdglpaaGreatDoorNc15
section
namespace Go.Proofs.YtmgbaefgcdglpaaGreatDoor.PA
open Go.RowKit Go.Proofs.YtmgbaefgcdglpaaGreatDoorW.PrintWords Go.Proofs.YtmgbaefgcdglpaaGreatDoorW.PrintLast Go.Proofs.YtmgbaefgcdglpaaGreatDoorW.PrintMore
theorem wrap64_of {n : Int} (h0 : 0 ≤ n) (h1 : n < 9223372036854775808) : wrap64 n = n := by unfold wrap64; omega
theorem and_one (x : Int) : Go.bits .and .i64 x 1 = x % 2 := by
 unfold Go.bits
 have h : (BitVec.ofInt 64 x &&& BitVec.ofInt 64 1).toNat = (x % 2).toNat := by
  have h1 : BitVec.ofInt 64 1 = 1#64 := rfl
  rw [h1, BitVec.toNat_and, BitVec.toNat_ofInt, show (1#64).toNat = 2 ^ 1 - 1 from rfl, Nat.and_two_pow_sub_one_eq_mod]
  omega
 show IntKind.i64.wrap ((BitVec.ofInt 64 x &&& BitVec.ofInt 64 1).toNat : Int) = x % 2
 rw [h, IntKind.wrap_i64]
 omega
theorem and_and_one (x y : Int) : Go.bits .and .i64 (Go.bits .and .i64 x y) 1 = if x % 2 = 1 ∧ y % 2 = 1 then 1 else 0 := by
 rw [and_one]
 have h : (Go.bits .and .i64 x y) % 2 = ((BitVec.ofInt 64 x &&& BitVec.ofInt 64 y).toNat : Int) % 2 := by
  unfold Go.bits
  show IntKind.i64.wrap ((BitVec.ofInt 64 x &&& BitVec.ofInt 64 y).toNat : Int) % 2 = _
  rw [IntKind.wrap_i64]
  omega
 rw [h, BitVec.toNat_and, BitVec.toNat_ofInt, BitVec.toNat_ofInt]
 have key : ∀ a b : Nat, (a &&& b) % 2 = if a % 2 = 1 ∧ b % 2 = 1 then 1 else 0 := by
  intro a b
  have h := Nat.testBit_and a b 0
  simp only [Nat.testBit_zero] at h
  split
  ·rename_i hh; simp [hh.1, hh.2]
  ·rename_i hh
   have : ¬ (a &&& b) % 2 = 1 := by
    intro e; apply hh
    rw [e] at h
    simpa using h.symm
   omega
 have k := key (x % ((2 ^ 64 : Nat) : Int)).toNat (y % ((2 ^ 64 : Nat) : Int)).toNat
 have hx : (x % ((2 ^ 64 : Nat) : Int)).toNat % 2 = 1 ↔ x % 2 = 1 := by omega
 have hy : (y % ((2 ^ 64 : Nat) : Int)).toNat % 2 = 1 ↔ y % 2 = 1 := by omega
 simp only [hx, hy] at k
 rw [show (((x % ((2 ^ 64 : Nat) : Int)).toNat &&& (y % ((2 ^ 64 : Nat) : Int)).toNat : Nat) : Int) % 2 = ((((x % ((2 ^ 64 : Nat) : Int)).toNat &&& (y % ((2 ^ 64 : Nat) : Int)).toNat) % 2 : Nat) : Int) from by omega, k]
 split <;> rfl
def fits (r : S96) (a b p : Int) : Bool := decide (shr .i64 r.f1 a % 2 = 1) && decide (shr .i64 r.f2 b % 2 = 1) && decide (r.f3 ≤ p) && decide (p ≤ r.f4)
def mayAsk (a b p : Int) : Bool := decide (1 ≤ a) && decide (a ≤ 8) && decide (1 ≤ b) && decide (b ≤ 8) && decide (0 ≤ p) && decide (p ≤ 65535)
def firstOf : List S96 → Int → Int → Int → Bool
 | [], _, _, _ => false
 | r :: l, a, b, p => if fits r a b p = true then r.f0 else firstOf l a b p
def allowsV (l : List S96) (a b p : Int) : Bool := mayAsk a b p && firstOf l a b p
theorem rd_drop {l : List S96} {i : Nat} (h : i < l.length) : l.drop i = rd_T96 l (i : Int) :: l.drop (i + 1) := by
 rw [List.drop_eq_getElem_cons h]
 simp [rd_T96, List.getD_eq_getElem?_getD, List.getElem?_eq_getElem h]
theorem fits_and (r : S96) (a b p : Int) : (Go.bits .and .i64 (Go.bits .and .i64 (shr .i64 r.f1 a) (shr .i64 r.f2 b)) 1 = 1 ∧ p ≥ r.f3 ∧ p ≤ r.f4) ↔ fits r a b p = true := by
 rw [and_and_one]
 unfold fits
 simp only [Bool.and_eq_true, decide_eq_true_eq]
 constructor
 ·rintro ⟨h1, h2, h3⟩
  split at h1
  ·rename_i h; exact ⟨⟨⟨h.1, h.2⟩, h2⟩, h3⟩
  ·cases h1
 ·rintro ⟨⟨⟨h1, h2⟩, h3⟩, h4⟩
  exact ⟨by rw [if_pos ⟨h1, h2⟩], h3, h4⟩
theorem allows_l0 (l : List S96) (hl : l.length < 9223372036854775807) (a b p : Int) (ha : 0 ≤ a) (hb : 0 ≤ b) : ∀ (n k i : Nat), l.length - i ≤ n → i ≤ l.length → n < k → acl_Allows.l0 k a b p l (l.length : Int) (i : Int) = some (firstOf (l.drop i) a b p)
 | n, 0, i, _, _, h => absurd h (by omega)
 | n, k + 1, i, hn, hi, hk => by
  unfold acl_Allows.l0
  by_cases h : i < l.length
  ·rw [if_pos (by omega), if_pos (by omega), if_pos (by omega), if_pos ha, if_pos hb, rd_drop h, firstOf]
   have hw : wrap64 ((i : Int) + 1) = ((i + 1 : Nat) : Int) := by rw [wrap64_of (by omega) (by omega)]; rfl
   have ih := allows_l0 l hl a b p ha hb (n - 1) k (i + 1) (by omega) (by omega) (by omega)
   rw [hw, ih]
   have hf := fits_and (rd_T96 l (i : Int)) a b p
   by_cases hx : fits (rd_T96 l (i : Int)) a b p = true
   ·obtain ⟨h1, h2, h3⟩ := hf.2 hx
    rw [if_pos h1, if_pos h2, if_pos h3, if_pos hx]
   ·rw [if_neg hx]
    by_cases h1 : Go.bits .and .i64 (Go.bits .and .i64 (shr .i64 (rd_T96 l (i : Int)).f1 a) (shr .i64 (rd_T96 l (i : Int)).f2 b)) 1 = 1
    ·rw [if_pos h1]
     by_cases h2 : p ≥ (rd_T96 l (i : Int)).f3
     ·rw [if_pos h2, if_neg (fun h3 => hx (hf.1 ⟨h1, h2, h3⟩))]
     ·rw [if_neg h2]
    ·rw [if_neg h1]
  ·rw [if_neg (by omega), List.drop_of_length_le (by omega)]; rfl
theorem node_eq (a : Int) : acl_node.f a = some (decide (1 ≤ a) && decide (a ≤ 8)) := by
 unfold acl_node.f
 by_cases h : a ≥ 1
 ·rw [if_pos h]; simp [show (1 : Int) ≤ a from h]
 ·rw [if_neg h]; simp [show ¬ (1 : Int) ≤ a from h]
theorem Allows_eq (l : List S96) (hl : l.length < 9223372036854775807) (a b p : Int) (k : Nat) (hk : l.length + 1 < k) : acl_Allows.f k l a b p = some (allowsV l a b p) := by
 obtain ⟨k, rfl⟩ : ∃ k', k = k' + 1 := ⟨k - 1, by omega⟩
 unfold acl_Allows.f
 rw [node_eq, node_eq]
 simp only [Option.bind_some]
 have hj : ∀ (x : Bool), (x = false → 0 ≤ a ∧ 0 ≤ b) → acl_Allows.j0 (k + 1) l a b p x = some (!x && firstOf l a b p) := by
  intro x hx
  unfold acl_Allows.j0
  cases x with
  | true => simp
  | false =>
   obtain ⟨h0, h1⟩ := hx rfl
   have := allows_l0 l hl a b p h0 h1 l.length k 0 (by omega) (by omega) (by omega)
   simp only [Bool.false_eq_true, if_false, Bool.not_false, Bool.true_and]
   exact this
 unfold allowsV mayAsk
 by_cases h1 : (decide (1 ≤ a) && decide (a ≤ 8)) = true
 ·rw [if_pos h1]
  by_cases h2 : (decide (1 ≤ b) && decide (b ≤ 8)) = true
  ·rw [if_pos h2]
   simp only [Bool.and_eq_true, decide_eq_true_eq] at h1 h2
   by_cases h3 : p < 0
   ·rw [if_pos h3, hj true (by simp)]
    simp [show ¬ 0 ≤ p by omega]
   ·rw [if_neg h3, hj _ (fun _ => by omega)]
    have e : (!decide (p > 65535)) = decide (p ≤ 65535) := by rw [← decide_not]; congr 1; simp
    rw [e]
    simp [h1.1, h1.2, h2.1, h2.2, show 0 ≤ p by omega]
  ·rw [if_neg h2, hj true (by simp)]
   simp only [Bool.and_assoc] at *
   cases hb1 : decide (1 ≤ b) <;> cases hb2 : decide (b ≤ 8) <;> simp_all
 ·rw [if_neg h1, hj true (by simp)]
  cases hb1 : decide (1 ≤ a) <;> cases hb2 : decide (a ≤ 8) <;> simp_all
end Go.Proofs.YtmgbaefgcdglpaaGreatDoor.PA
end
section
namespace Go.Proofs.YtmgbaefgcdglpaaGreatDoor.PA
open Go.RowKit Go.Proofs.YtmgbaefgcdglpaaGreatDoorW.PrintWords Go.Proofs.YtmgbaefgcdglpaaGreatDoorW.PrintLast Go.Proofs.YtmgbaefgcdglpaaGreatDoorW.PrintMore
structure CompactUp (d : Array Int) (m : Nat) : Prop where
 rising : (Lib.compactUpTo d m).Pairwise (· < ·)
 le : ∀ x ∈ Lib.compactUpTo d m, 0 < m ∧ x ≤ d[m - 1]!
 from_ : ∀ x ∈ Lib.compactUpTo d m, ∃ j, j < m ∧ x = d[j]!
 all : ∀ j, j < m → d[j]! ∈ Lib.compactUpTo d m
theorem compactUp (d : Array Int) (hs : ∀ i j : Nat, i < j → j < d.size → d[i]! ≤ d[j]!) : ∀ m, m ≤ d.size → CompactUp d m
 | 0, _ => ⟨by simp [Lib.compactUpTo], by simp [Lib.compactUpTo], by simp [Lib.compactUpTo], by simp⟩
 | m + 1, hm => by
  have ih := compactUp d hs m (by omega)
  have e := Lib.compactUpTo_succ d m
  by_cases hk : Lib.keeps d m = true
  ·rw [if_pos hk] at e
   have hlt : ∀ x ∈ Lib.compactUpTo d m, x < d[m]! := by
    intro x hx
    obtain ⟨h0, h1⟩ := ih.le x hx
    have h2 := hs (m - 1) m (by omega) (by omega)
    have h3 : d[m - 1]! ≠ d[m]! := by
     unfold Lib.keeps at hk
     simp only [decide_eq_true_eq] at hk
     rcases hk with hk | hk
     ·omega
     ·intro e3; simp [e3] at hk
    omega
   refine ⟨?_, ?_, ?_, ?_⟩
   ·rw [e, List.pairwise_append]; exact ⟨ih.rising, by simp, fun a ha b hb => (List.mem_singleton.1 hb) ▸ hlt a ha⟩
   ·intro x hx
    rw [e] at hx
    rcases List.mem_append.1 hx with h | h
    ·exact ⟨by omega, by have := hlt x h; simpa using Int.le_of_lt this⟩
    ·obtain rfl : x = d[m]! := by simpa using h
     exact ⟨by omega, by simp⟩
   ·intro x hx
    rw [e] at hx
    rcases List.mem_append.1 hx with h | h
    ·obtain ⟨j, hj, rfl⟩ := ih.from_ x h; exact ⟨j, by omega, rfl⟩
    ·obtain rfl : x = d[m]! := by simpa using h
     exact ⟨m, by omega, rfl⟩
   ·intro j hj
    rw [e]
    by_cases h : j = m
    ·subst h; simp
    ·exact List.mem_append_left _ (ih.all j (by omega))
  ·rw [if_neg hk, List.append_nil] at e
   have hm0 : 0 < m := by
    rcases Nat.eq_zero_or_pos m with h | h
    ·subst h; exact absurd (Lib.keeps_lt_one d 0 (by omega)) hk
    ·exact h
   have heq : d[m - 1]! = d[m]! := by
    unfold Lib.keeps at hk
    simp only [decide_eq_true_eq] at hk
    rcases Int.lt_or_eq_of_le (hs (m - 1) m (by omega) (by omega)) with h | h
    ·exfalso; apply hk; right; intro e3; rw [e3] at h; exact absurd h (by omega)
    ·exact h
   refine ⟨by rw [e]; exact ih.rising, ?_, ?_, ?_⟩
   ·intro x hx; rw [e] at hx
    exact ⟨by omega, by have := (ih.le x hx).2; rw [heq] at this; simpa using this⟩
   ·intro x hx; rw [e] at hx
    obtain ⟨j, hj, rfl⟩ := ih.from_ x hx; exact ⟨j, by omega, rfl⟩
   ·intro j hj
    rw [e]
    by_cases h : j = m
    ·subst h; rw [← heq]; exact ih.all _ (by omega)
    ·exact ih.all j (by omega)
theorem compact_rising {zs : List Int} (hs : zs.Pairwise (· ≤ ·)) : (Lib.compact zs).Pairwise (· < ·) ∧ (∀ x, x ∈ Lib.compact zs ↔ x ∈ zs) := by
 have hg : ∀ j, j < zs.length → zs.toArray[j]! = zs[j]! := fun j hj => by simp
 have h := compactUp zs.toArray (fun i j hij hj => by
  have hj' : j < zs.length := by simpa using hj
  have := (List.pairwise_iff_getElem.1 hs) i j (by omega) hj' hij
  rw [hg i (by omega), hg j hj', getElem!_pos zs i (by omega), getElem!_pos zs j hj']; exact this) zs.length (by simp)
 refine ⟨h.rising, fun x => ⟨fun hx => ?_, fun hx => ?_⟩⟩
 ·obtain ⟨j, hj, rfl⟩ := h.from_ x hx
  rw [hg j hj, getElem!_pos zs j hj]; exact List.getElem_mem hj
 ·obtain ⟨j, hj, rfl⟩ := List.getElem_of_mem hx
  have := h.all j hj
  rw [hg j hj, getElem!_pos zs j hj] at this; exact this
def cutsOf (l : List S96) : List Int := l.flatMap fun r => (if 0 < r.f3 ∧ r.f3 ≤ 65535 then [r.f3] else []) ++ (if 0 ≤ r.f4 ∧ r.f4 < 65535 then [r.f4 + 1] else [])
def pointsOf (l : List S96) : List Int := Lib.compact (((0 : Int) :: cutsOf l).mergeSort fun x y => decide (x ≤ y))
def addSpan (out : List S80) (lo hi : Int) : List S80 :=
 if 0 < out.length ∧ (out.getD (out.length - 1) ⟨0, 0⟩).f1 = lo - 1 then out.set (out.length - 1) ⟨(out.getD (out.length - 1) ⟨0, 0⟩).f0, hi⟩ else out ++ [⟨lo, hi⟩]
def spansGo (ok : Int → Bool) : List Int → List S80 → List S80
 | x :: y :: rest, out => spansGo ok (y :: rest) (if ok x = true then addSpan out x (y - 1) else out)
 | _, out => out
def spansV (l : List S96) (a b : Int) : List S80 := spansGo (fun p => allowsV l a b p) (pointsOf l ++ [65536]) []
theorem cuts_len (l : List S96) : (cutsOf l).length ≤ 2 * l.length := by
 induction l with
 | nil => simp [cutsOf]
 | cons r l ih =>
  have : cutsOf (r :: l) = ((if 0 < r.f3 ∧ r.f3 ≤ 65535 then [r.f3] else []) ++ (if 0 ≤ r.f4 ∧ r.f4 < 65535 then [r.f4 + 1] else [])) ++ cutsOf l := by simp [cutsOf]
  rw [this]
  simp only [List.length_append, List.length_cons]
  have h1 : (if 0 < r.f3 ∧ r.f3 ≤ 65535 then [r.f3] else []).length ≤ 1 := by split <;> simp
  have h2 : (if 0 ≤ r.f4 ∧ r.f4 < 65535 then [r.f4 + 1] else []).length ≤ 1 := by split <;> simp
  omega
theorem cuts_range (l : List S96) : ∀ x ∈ cutsOf l, 0 < x ∧ x ≤ 65535 := by
 intro x hx
 unfold cutsOf at hx
 obtain ⟨r, _, h⟩ := List.mem_flatMap.1 hx
 rcases List.mem_append.1 h with h | h
 ·split at h
  ·rename_i hh; obtain rfl : x = r.f3 := by simpa using h
   exact hh
  ·cases h
 ·split at h
  ·rename_i hh; obtain rfl : x = r.f4 + 1 := by simpa using h
   omega
  ·cases h
theorem points_spec (l : List S96) : (pointsOf l).Pairwise (· < ·) ∧ (∀ x, x ∈ pointsOf l ↔ x = 0 ∨ x ∈ cutsOf l) ∧ (pointsOf l).length ≤ 2 * l.length + 1 := by
 have hs : (((0 : Int) :: cutsOf l).mergeSort fun x y => decide (x ≤ y)).Pairwise (· ≤ ·) := by
  have h := List.pairwise_mergeSort (le := fun x y : Int => decide (x ≤ y)) (fun a b c h1 h2 => by simp at *; omega) (fun a b => by simp; omega) ((0 : Int) :: cutsOf l)
  exact h.imp (fun h => by simpa using h)
 obtain ⟨h1, h2⟩ := compact_rising hs
 refine ⟨h1, fun x => by rw [pointsOf, h2, List.mem_mergeSort]; simp, ?_⟩
 have h3 : (pointsOf l).length ≤ (((0 : Int) :: cutsOf l).mergeSort fun x y => decide (x ≤ y)).length := compact_le _
 rw [List.length_mergeSort] at h3
 have := cuts_len l
 simp at h3; omega
theorem points_range (l : List S96) : ∀ x ∈ pointsOf l, 0 ≤ x ∧ x ≤ 65535 := by
 intro x hx
 rcases ((points_spec l).2.1 x).1 hx with h | h
 ·omega
 ·have := cuts_range l x h; omega
theorem rd_drop_int {P : List Int} {i : Nat} (h : i < P.length) : P.drop i = rd P (i : Int) :: P.drop (i + 1) := by
 rw [List.drop_eq_getElem_cons h]
 simp [rd, List.getD_eq_getElem?_getD, List.getElem?_eq_getElem h]
theorem addSpan_len (out : List S80) (lo hi : Int) : (addSpan out lo hi).length ≤ out.length + 1 := by
 unfold addSpan; split <;> simp
set_option maxHeartbeats 2000000 in
theorem spans_l1 (l : List S96) (hl : l.length < 1073741824) (a b : Int) (P : List Int) (hP : ∀ x ∈ P, 0 ≤ x ∧ x ≤ 65535) (hPl : P.length < 4294967296) :
  ∀ (n k i : Nat) (out : List S80), P.length - i ≤ n → i ≤ P.length → out.length ≤ i → n + l.length + 2 < k →
   acl_Spans.l1 k l a b (P ++ [65536]) out P (P.length : Int) (i : Int) = some (spansGo (fun p => allowsV l a b p) ((P ++ [65536]).drop i) out)
 | n, 0, i, out, _, _, _, h => absurd h (by omega)
 | n, k + 1, i, out, hn, hi, ho, hk => by
  unfold acl_Spans.l1
  by_cases h : i < P.length
  ·have h1 : i < (P ++ [65536]).length := by simp; omega
   have h2 : i + 1 < (P ++ [65536]).length := by simp; omega
   have hw : wrap64 ((i : Int) + 1) = ((i + 1 : Nat) : Int) := by rw [wrap64_of (by omega) (by omega)]; rfl
   have hx : rd (P ++ [65536]) (i : Int) = rd P (i : Int) := by simp [rd, List.getD_eq_getElem?_getD, List.getElem?_append_left h]
   have hxr : 0 ≤ rd P (i : Int) ∧ rd P (i : Int) ≤ 65535 := by
    have : rd P (i : Int) = P[i] := by simp [rd, List.getD_eq_getElem?_getD, List.getElem?_eq_getElem h]
    rw [this]; exact hP _ (List.getElem_mem h)
   have hyr : 0 ≤ rd (P ++ [65536]) ((i + 1 : Nat) : Int) ∧ rd (P ++ [65536]) ((i + 1 : Nat) : Int) ≤ 65536 := by
    have : rd (P ++ [65536]) ((i + 1 : Nat) : Int) = (P ++ [65536])[i + 1] := by simp [rd, List.getD_eq_getElem?_getD, List.getElem?_eq_getElem h2]
    rw [this]
    have hm := List.getElem_mem h2
    rcases List.mem_append.1 hm with hm | hm
    ·have := hP _ hm; omega
    ·have : (P ++ [65536])[i + 1] = 65536 := by simpa using hm
     omega
   have hgo : spansGo (fun p => allowsV l a b p) ((P ++ [65536]).drop i) out =
     spansGo (fun p => allowsV l a b p) ((P ++ [65536]).drop (i + 1)) (if allowsV l a b (rd P (i : Int)) = true then addSpan out (rd P (i : Int)) (rd (P ++ [65536]) ((i + 1 : Nat) : Int) - 1) else out) := by
    rw [rd_drop_int h1, hx, rd_drop_int h2, spansGo]
   rw [hgo, if_pos (by omega), if_pos (by omega), if_pos (by omega), Allows_eq l (by omega) a b _ k (by omega)]
   simp only [Option.bind_some]
   have ih := fun out ho => spans_l1 l hl a b P hP hPl (n - 1) k (i + 1) out (by omega) (by omega) ho (by omega)
   rw [hw]
   have hw1 : wrap64 (rd P (i : Int) - 1) = rd P (i : Int) - 1 := by unfold wrap64; omega
   have hw2 : wrap64 (rd (P ++ [65536]) ((i + 1 : Nat) : Int) - 1) = rd (P ++ [65536]) ((i + 1 : Nat) : Int) - 1 := by unfold wrap64; omega
   by_cases hal : allowsV l a b (rd P (i : Int)) = true
   ·rw [if_pos hal, if_pos hal, if_pos (by omega), if_pos (by simp; omega), hw1, hw2]
    unfold addSpan
    by_cases h0 : 0 < out.length
    ·have hw3 : wrap64 ((out.length : Int) - 1) = ((out.length - 1 : Nat) : Int) := by unfold wrap64; omega
     rw [if_pos (by omega), hw3, if_pos (by omega), if_pos (by omega)]
     have hr : rd_T80 out ((out.length - 1 : Nat) : Int) = out.getD (out.length - 1) ⟨0, 0⟩ := by
      simp only [rd_T80, Int.toNat_natCast, List.getD_eq_getElem?_getD, List.getElem?_eq_getElem (show out.length - 1 < out.length by omega)]; rfl
     rw [hr]
     simp only [Int.toNat_natCast]
     by_cases he : (out.getD (out.length - 1) ⟨0, 0⟩).f1 = rd P (i : Int) - 1
     ·rw [if_pos he, if_pos ⟨h0, he⟩, ih _ (by simp; omega)]
     ·rw [if_neg he, if_pos (show out.length < 8796093022208 by omega), if_neg (fun h => he h.2), ih _ (by simp; omega)]
    ·rw [if_neg (show ¬ (out.length : Int) > 0 by omega), if_pos (show out.length < 8796093022208 by omega), if_neg (fun h => h0 h.1), ih _ (by simp; omega)]
   ·rw [if_neg hal, if_neg hal, ih out (by omega)]
  ·rw [if_neg (by omega)]
   have hd : (P ++ [65536]).drop i = [65536] := by rw [show i = P.length by omega]; simp
   rw [hd]; rfl
theorem cuts_drop (l : List S96) (i : Nat) (h : i < l.length) : cutsOf (l.drop i) = ((if 0 < (rd_T96 l (i : Int)).f3 ∧ (rd_T96 l (i : Int)).f3 ≤ 65535 then [(rd_T96 l (i : Int)).f3] else []) ++ (if 0 ≤ (rd_T96 l (i : Int)).f4 ∧ (rd_T96 l (i : Int)).f4 < 65535 then [(rd_T96 l (i : Int)).f4 + 1] else [])) ++ cutsOf (l.drop (i + 1)) := by
 rw [rd_drop h]; simp [cutsOf]
theorem spans_end (l : List S96) (hl : l.length < 1073741824) (a b : Int) (k i : Nat) (cuts : List Int) (h : ¬ i < l.length) (hc : cuts ++ cutsOf (l.drop i) = 0 :: cutsOf l) (hk : 3 * l.length + 10 < k) :
  acl_Spans.l0 k l a b cuts l (l.length : Int) (i : Int) = some (spansV l a b) := by
 obtain ⟨k, rfl⟩ : ∃ k', k = k' + 1 := ⟨k - 1, by omega⟩
 unfold acl_Spans.l0
 rw [if_neg (by omega)]
 have hd : l.drop i = [] := List.drop_of_length_le (by omega)
 rw [hd] at hc
 have hc2 : cuts = 0 :: cutsOf l := by rw [← hc]; simp [cutsOf]
 rw [hc2]
 have hle := cuts_len l
 unfold slices_Sort_int_int.f
 rw [if_neg (by simp; omega)]
 simp only [Option.bind_some]
 have hpt := points_spec l
 have hne : (((0 : Int) :: cutsOf l).mergeSort fun x y => decide (x ≤ y)) ≠ [] := by
  intro e; have := congrArg List.length e; rw [List.length_mergeSort] at this; simp at this
 unfold slices_Compact_int_int.f
 rw [if_neg hne]
 simp only [Option.bind_some]
 have hpe : Lib.compact (((0 : Int) :: cutsOf l).mergeSort fun x y => decide (x ≤ y)) = pointsOf l := by unfold pointsOf; exact Eq.refl _
 rw [hpe]
 have hpl := hpt.2.2
 have hw : wrap64 (((pointsOf l ++ [65536]).length : Int) - 1) = ((pointsOf l).length : Int) := by
  have e : ((pointsOf l ++ [65536]).length : Int) = ((pointsOf l).length : Int) + 1 := by simp
  rw [e, wrap64_of (by omega) (by omega)]; omega
 rw [if_pos (show (pointsOf l).length < 17592186044416 by omega), hw, if_pos (show (0 : Int) ≤ ((pointsOf l).length : Int) by omega), if_pos (by simp; omega)]
 have ht : (pointsOf l ++ [65536]).take ((pointsOf l).length : Int).toNat = pointsOf l := by simp
 rw [ht]
 have hfin := spans_l1 l hl a b (pointsOf l) (points_range l) (by omega) (pointsOf l).length k 0 [] (by omega) (by omega) (by simp) (by omega)
 rw [List.drop_zero] at hfin
 unfold spansV
 exact hfin
set_option maxHeartbeats 2000000 in
theorem spans_l0 (l : List S96) (hl : l.length < 1073741824) (a b : Int) :
  ∀ (n k i : Nat) (cuts : List Int), l.length - i ≤ n → i ≤ l.length → cuts.length ≤ 2 * i + 1 → cuts ++ cutsOf (l.drop i) = 0 :: cutsOf l → 2 * n + 3 * l.length + 10 < k →
   acl_Spans.l0 k l a b cuts l (l.length : Int) (i : Int) = some (spansV l a b) := by
  intro n
  induction n with
  | zero =>
   intro k i cuts hn hi hcl hc hk
   exact spans_end l hl a b k i cuts (by omega) hc (by omega)
  | succ n ihn =>
  intro k i cuts hn hi hcl hc hk
  by_cases h : i < l.length
  rotate_left
  ·exact spans_end l hl a b k i cuts (by omega) hc (by omega)
  obtain ⟨k, rfl⟩ : ∃ k', k = k' + 1 + 1 := ⟨k - 2, by omega⟩
  unfold acl_Spans.l0
  have hw : wrap64 ((i : Int) + 1) = ((i + 1 : Nat) : Int) := by rw [wrap64_of (by omega) (by omega)]; rfl
  have ih := fun cuts h1 h2 => ihn k (i + 1) cuts (by omega) (by omega) h1 h2 (by omega)
  have hcd := cuts_drop l i h
  rw [hcd] at hc
  generalize hr : rd_T96 l (i : Int) = r at *
  have hj : ∀ x : Bool, x = decide (0 < r.f3 ∧ r.f3 ≤ 65535) → acl_Spans.j1 (k + 1) l a b cuts l (l.length : Int) (i : Int) x r.f0 r.f1 r.f2 r.f3 r.f4 = some (spansV l a b) := by
   intro x hx
   unfold acl_Spans.j1
   rw [hw]
   by_cases h3 : 0 < r.f3 ∧ r.f3 ≤ 65535
   ·rw [if_pos h3] at hc
    rw [if_pos (by rw [hx]; exact decide_eq_true h3), if_pos (by omega)]
    simp only [Option.bind_some]
    by_cases h4 : 0 ≤ r.f4 ∧ r.f4 < 65535
    ·rw [if_pos h4] at hc
     rw [if_pos h4.1, if_pos h4.2, if_pos (by simp; omega), show wrap64 (r.f4 + 1) = r.f4 + 1 by unfold wrap64; omega]
     exact ih _ (by simp; omega) (by rw [← hc]; simp)
    ·rw [if_neg h4] at hc
     have e := ih (cuts ++ [r.f3]) (by simp; omega) (by rw [← hc]; simp)
     by_cases h5 : r.f4 ≥ 0
     ·rw [if_pos h5, if_neg (fun h6 => h4 ⟨h5, h6⟩)]; exact e
     ·rw [if_neg h5]; exact e
   ·rw [if_neg h3] at hc
    rw [if_neg (by rw [hx]; simpa using h3)]
    by_cases h4 : 0 ≤ r.f4 ∧ r.f4 < 65535
    ·rw [if_pos h4] at hc
     rw [if_pos h4.1, if_pos h4.2, if_pos (by omega), show wrap64 (r.f4 + 1) = r.f4 + 1 by unfold wrap64; omega]
     exact ih _ (by simp; omega) (by rw [← hc]; simp)
    ·rw [if_neg h4] at hc
     have e := ih cuts (by omega) (by rw [← hc]; simp)
     by_cases h5 : r.f4 ≥ 0
     ·rw [if_pos h5, if_neg (fun h6 => h4 ⟨h5, h6⟩)]; exact e
     ·rw [if_neg h5]; exact e
  rw [if_pos (by omega), if_pos (by omega), if_pos (by omega)]
  by_cases h3 : r.f3 > 0
  ·rw [if_pos h3]; exact hj _ (by congr 1; simp; omega)
  ·rw [if_neg h3]; exact hj _ (by symm; simp; omega)
theorem Spans_eq (l : List S96) (hl : l.length < 1073741824) (a b : Int) (k : Nat) (hk : 5 * l.length + 10 < k) : acl_Spans.f k l a b = some (spansV l a b) := by
 unfold acl_Spans.f
 exact spans_l0 l hl a b l.length k 0 [0] (by omega) (by omega) (by simp) (by simp) (by omega)
end Go.Proofs.YtmgbaefgcdglpaaGreatDoor.PA
end
section
namespace Go.Proofs.YtmgbaefgcdglpaaGreatDoor.Net
open Go Go.RowKit Go.Proofs Go.Proofs.YtmgbaefgcdglpaaGreatDoorW.PrintWords Go.Proofs.YtmgbaefgcdglpaaGreatDoorW.PrintLast Go.Proofs.YtmgbaefgcdglpaaGreatDoorW.PrintMore Go.Proofs.YtmgbaefgcdglpaaGreatDoor.Dir
set_option linter.unusedVariables false
set_option linter.unusedSimpArgs false
theorem lines_len : ∀ (ls : List (List UInt8)) (acc : List PA.S96), acc.length ≤ 32 → (Acl.linesOf ls acc).1.length ≤ 32
 | [], acc, h => by unfold Acl.linesOf; exact h
 | l :: ls, acc, h => by
  unfold Acl.linesOf
  split
  ·exact lines_len ls acc h
  ·split
   ·simp
   ·split
    ·simp
    ·rename_i hne
     exact lines_len ls _ (by rw [List.length_append, List.length_singleton]; omega)
theorem parse_len (s : List UInt8) : (Acl.parseOf s).1.length ≤ 32 := by
 unfold Acl.parseOf
 split
 ·simp
 ·exact lines_len _ _ (by simp)
def rulesB (B : Book) : List PA.S96 := (Acl.parseOf B.acl).1
def spB (B : Book) (a b : Int) : List Sp := PA.spansV (rulesB B) a b
theorem spans23 (l : List PA.S96) (a b : Int) (A : Option Addr) (c : Nat) (w : World) (hl : l.length ≤ 32) (hc : l.length ≤ c) (h : Kd.C PA.k96 w A l.length l) :
  Calls Tryz.prog 23 #[.slice A l.length c, .int .i64 a, .int .i64 b] w fun e w' => ∃ v, e = .returned v ∧ kSp.R 80 w' w.heap.size (fun _ => True) v (PA.spansV l a b) ∧ Below w.heap.size w w' :=
 PA.acl_Spans.calls (5 * l.length + 11) A c l a b _ w h hc (PA.Spans_eq l (by omega) a b _ (by omega))
def kxOf (B : Book) (n : Int) (l : List Dev) : Key × Int := match l.find? (fun d => decide (d.node = n) && live B d) with
 | some d => (d.key, d.exp)
 | none => (key0, 0)
def ppOf (sp : Int → Int → List Sp) (B : Book) (n : Int) (l : List Dev) : List Peer := (l.filter (talks sp B n)).map (peerOf sp n)
theorem take_dev {l : List Dev} {i : Nat} {d : Dev} (h : l[i]? = some d) : l.take (i + 1) = l.take i ++ [d] := by
 rw [List.take_add_one, h]; rfl
theorem kx_other {B : Book} {n : Int} {i : Nat} {d : Dev} (h : B.devs[i]? = some d) (hn : (decide (d.node = n) && live B d) = false) : kxOf B n (B.devs.take (i + 1)) = kxOf B n (B.devs.take i) := by
 unfold kxOf
 rw [take_dev h, List.find?_append, List.find?_cons_of_neg (by rw [hn]; decide), List.find?_nil, Option.or_none]
theorem kx_own {B : Book} (hB : WF B) {n : Int} {i : Nat} {d : Dev} (h : B.devs[i]? = some d) (hn : (decide (d.node = n) && live B d) = true) : kxOf B n (B.devs.take (i + 1)) = (d.key, d.exp) := by
 have hnone : (B.devs.take i).find? (fun d => decide (d.node = n) && live B d) = none := by
  rw [List.find?_eq_none]
  intro e he
  obtain ⟨j, hj⟩ := List.getElem?_of_mem he
  rw [List.getElem?_take] at hj
  split at hj
  ·rename_i hlt
   obtain ⟨h1, h2⟩ := List.getElem?_eq_some_iff.1 hj
   obtain ⟨h3, h4⟩ := List.getElem?_eq_some_iff.1 h
   have h5 := List.pairwise_iff_getElem.1 hB.devs j i h1 h3 hlt
   rw [h2, h4] at h5
   simp only [Bool.and_eq_true, decide_eq_true_eq] at hn ⊢
   intro hh
   omega
  ·cases hj
 unfold kxOf
 rw [take_dev h, List.find?_append, hnone, Option.none_or, List.find?_cons_of_pos (by exact hn)]
theorem pp_add {sp : Int → Int → List Sp} {B : Book} {n : Int} {i : Nat} {d : Dev} (h : B.devs[i]? = some d) (ht : talks sp B n d = true) : ppOf sp B n (B.devs.take (i + 1)) = ppOf sp B n (B.devs.take i) ++ [peerOf sp n d] := by
 unfold ppOf
 rw [take_dev h, List.filter_append, List.map_append, List.filter_cons_of_pos ht]
 rfl
theorem pp_skip {sp : Int → Int → List Sp} {B : Book} {n : Int} {i : Nat} {d : Dev} (h : B.devs[i]? = some d) (ht : talks sp B n d = false) : ppOf sp B n (B.devs.take (i + 1)) = ppOf sp B n (B.devs.take i) := by
 unfold ppOf
 rw [take_dev h, List.filter_append, List.map_append, List.filter_cons_of_neg (by rw [ht]; decide)]
 simp
theorem pp_len {sp : Int → Int → List Sp} {B : Book} {n : Int} {i : Nat} : (ppOf sp B n (B.devs.take i)).length ≤ i := by
 unfold ppOf
 rw [List.length_map]
 exact Nat.le_trans (List.length_filter_le _ _) (by rw [List.length_take]; omega)
theorem of_end {B : Book} (hB : WF B) (sp : Int → Int → List Sp) (n : Int) : ofV sp B n = ⟨B.ver, B.clock, n, (kxOf B n B.devs).1, (kxOf B n B.devs).2, if (kxOf B n B.devs).2 = 0 then [] else ppOf sp B n B.devs⟩ := by
 unfold ofV ownD kxOf
 cases hq : B.devs.find? fun d => decide (d.node = n) && live B d with
 | none => simp
 | some d =>
  have := hB.exps d (List.mem_of_find?_eq_some hq)
  simp only
  rw [if_neg (by omega)]
  rfl
section
variable {P : Program} {ops : Array Oper} {Q : Exit → Act → World → Prop}
theorem region_useA {id : Nat} {a0 : Act} {w0 : World} (G : Nat → Value → World → Prop) (M : Array Bool → Act → World → Prop) (ns : List Tmp) (hns : dstsOf ops = ns) (hm : P.follows .mixedOrders = true) (hk : okOps ops a0.tmps.size = true)
  (hM : M (Array.replicate ops.size false) a0 w0.drew)
  (hop : ∀ (i : Nat) (o : Oper) (l : Array Bool) (a : Act) (w : World), ops[i]? = some o → l.size = ops.size → l.getD i true = false → (∀ e ∈ o.after, Region.binds .any e = true → l.getD e.on false = true) → ClosedL ops l → OnR ops a0 G l a w → M l a w →
   ∀ K : Act → World → Prop, (∀ v w', (∀ j u, G j u w → G j u w') → (∀ N, o.dst = some N → G i v w') → M (l.setIfInBounds i true) (a.put o.dst v) w' → K (a.put o.dst v) w') → o.wp P a w K Q)
  (hend : ∀ (v : Nat → Value) w, (∀ (i : Nat) (o : Oper) (N : Nat), ops[i]? = some o → o.dst = some N → G i (v N) w) → (∀ a, (∀ n ∈ ns, a.tmps.getD n undef = v n) → M (Array.replicate ops.size true) a w → Q .normal (putAll a0 (ns.map fun n => (n, v n))) w)) : (Code.region id ops true).wp P Q a0 w0 :=
 region_inv (fun l a w => (OnR ops a0 G l a w ∧ M l a w) ∧ ClosedL ops l) hm (fun i o hi => (okOps_at hk hi).1) (fun i o hi => (okOps_at hk hi).2.1)
  ⟨⟨⟨rfl, rfl, fun _ _ => rfl, fun i o N hi _ hl => by
   rw [Array.getD_eq_getD_getElem?] at hl
   simp [Array.getElem?_replicate] at hl
   split at hl <;> simp at hl⟩, hM⟩, fun j oj hj hl => by rw [Array.getD_eq_getD_getElem?] at hl; simp [Array.getElem?_replicate] at hl; split at hl <;> simp at hl⟩
  (fun i o l a w hi hs hnd hdeps hI K hK => hop i o l a w hi hs hnd hdeps hI.2 hI.1.1 hI.1.2 K fun v w' h1 h2 h3 => hK _ _ ⟨⟨hI.1.1.step (fun i j o o' N hi hj h1 h2 => ((okOps_at hk hj).2.2 N h2).2 i o hi h1) hi (fun N hN => ((okOps_at hk hi).2.2 N hN).1) h1 h2, h3⟩, hI.2.step hi hdeps⟩)
  fun a w hI => by
   rw [hI.1.1.all hk, hns]
   exact hend (fun n => a.tmps.getD n undef) w (fun i o N hi hN => hI.1.1.good i o N hi hN (by have := (Array.getElem?_eq_some_iff.1 hi).1; simp [Array.getD, this])) a (fun n _ => rfl) hI.1.2
theorem put_at {a : Act} {N t : Nat} {v : Value} (h : N ≠ t) : (a.put (some N) v).tmps.getD t undef = a.tmps.getD t undef := by
 rw [Array.getD_eq_getD_getElem?, Array.getD_eq_getD_getElem?]
 simp [Act.put, h]
theorem put_same {a : Act} {N : Nat} {v : Value} (h : N < a.tmps.size) : (a.put (some N) v).tmps.getD N undef = v := by
 simp [Act.put, Array.getD, h]
end
end Go.Proofs.YtmgbaefgcdglpaaGreatDoor.Net
end
section
namespace Go.Proofs.YtmgbaefgcdglpaaGreatDoor.Net
open Go Go.RowKit Go.Proofs Go.Proofs.YtmgbaefgcdglpaaGreatDoorW.PrintWords Go.Proofs.YtmgbaefgcdglpaaGreatDoorW.PrintLast Go.Proofs.YtmgbaefgcdglpaaGreatDoorW.PrintMore Go.Proofs.YtmgbaefgcdglpaaGreatDoor.Dir
set_option linter.unusedVariables false
set_option linter.unusedSimpArgs false
def zeroMap : Array Value := #[.int .i64 0, .int .i64 0, .int .i64 0, .int .u8 0, .int .u8 0, .int .u8 0, .int .u8 0, .int .u8 0, .int .u8 0, .int .u8 0, .int .u8 0, .int .u8 0, .int .u8 0, .int .u8 0, .int .u8 0, .int .u8 0, .int .u8 0, .int .u8 0, .int .u8 0, .int .u8 0, .int .u8 0, .int .u8 0, .int .u8 0, .int .u8 0, .int .u8 0, .int .u8 0, .int .u8 0, .int .u8 0, .int .u8 0, .int .u8 0, .int .u8 0, .int .u8 0, .int .u8 0, .int .u8 0, .int .u8 0, .int .i64 0, .slice none 0 0]
set_option maxRecDepth 100000 in
theorem zeroMap_eq : zeroMap = (mapV 0 0 0 key0 0 (.slice none 0 0)).toArray := by kernel_rfl
theorem mapV_len (v c n : Int) (k : Key) (e : Int) (x : Value) : (mapV v c n k e x).length = 37 := by unfold mapV; simp [encK_len]
theorem mapV_one (v c n : Int) (k : Key) (e : Int) (x : Value) (hx : x.oneCell' = true) : ∀ u ∈ mapV v c n k e x, u.oneCell' = true := by
 intro u hu
 unfold mapV at hu
 rcases List.mem_cons.1 hu with rfl | hu
 ·rfl
 rcases List.mem_cons.1 hu with rfl | hu
 ·rfl
 rcases List.mem_cons.1 hu with rfl | hu
 ·rfl
 rcases List.mem_append.1 hu with hu | hu
 ·exact encK_one k u hu
 rcases List.mem_cons.1 hu with rfl | hu
 ·rfl
 rcases List.mem_cons.1 hu with rfl | hu
 ·exact hx
 ·cases hu
theorem mapV35 (v c n : Int) (k : Key) (e : Int) (x : Value) : (mapV v c n k e x)[35]? = some (.int .i64 e) := by
 unfold mapV
 rw [List.getElem?_cons_succ, List.getElem?_cons_succ, List.getElem?_cons_succ, List.getElem?_append_right (by rw [encK_len]; decide), encK_len]; rfl
theorem mapV36 (v c n : Int) (k : Key) (e : Int) (x : Value) : (mapV v c n k e x)[36]? = some x := by
 unfold mapV
 rw [List.getElem?_cons_succ, List.getElem?_cons_succ, List.getElem?_cons_succ, List.getElem?_append_right (by rw [encK_len]; decide), encK_len]; rfl
theorem mapV_set35 (v c n : Int) (k : Key) (e e2 : Int) (x : Value) : (mapV v c n k e x).set 35 (.int .i64 e2) = mapV v c n k e2 x := by
 unfold mapV
 rw [List.set_cons_succ, List.set_cons_succ, List.set_cons_succ, List.set_append_right _ _ (by rw [encK_len]; decide), encK_len]; rfl
theorem mapV_set36 (v c n : Int) (k : Key) (e : Int) (x y : Value) : (mapV v c n k e x).set 36 y = mapV v c n k e y := by
 unfold mapV
 rw [List.set_cons_succ, List.set_cons_succ, List.set_cons_succ, List.set_append_right _ _ (by rw [encK_len]; decide), encK_len]; rfl
theorem mapV_splice (v c n : Int) (k k2 : Key) (e : Int) (x : Value) : splice (mapV v c n k e x) 3 (encK k2) = mapV v c n k2 e x :=
 splice_mid [.int .i64 v, .int .i64 c, .int .i64 n] (encK k) [.int .i64 e, x] (encK k2) 3 rfl (by rw [encK_len, encK_len])
def OfEnd (B : Book) (n : Int) (base : Nat) (e : Ending) (w' : World) : Prop :=
 (¬ OkB B ∧ e = .returned (.tuple #[.agg (mapV 0 0 0 key0 0 (.slice none 0 0)).toArray, .int .i64 2])) ∨
 (OkB B ∧ nodeIn n = false ∧ e = .returned (.tuple #[.agg (mapV 0 0 0 key0 0 (.slice none 0 0)).toArray, .int .i64 220])) ∨
 (OkB B ∧ nodeIn n = true ∧ ∃ v, e = .returned (.tuple #[.agg (mapV B.ver B.clock n (ofV (spB B) B n).key (ofV (spB B) B n).exp v).toArray, .int .i64 0]) ∧ kPeer.R 48 w' base (fun _ => True) v (ofV (spB B) B n).peers)
structure OnOf (B : Book) (n : Int) (w w7 : World) (b6 kk : Nat) (wr : World) : Prop where
 lo : Below w.heap.size w wr
 kp : KeepBut w7 wr b6 none
 row : ∃ v, wr.heap[b6]? = some (.cells (mapV B.ver B.clock n (kxOf B n (B.devs.take kk)).1 (kxOf B n (B.devs.take kk)).2 v).toArray 31 (0, 0)) ∧ kPeer.R 48 wr w7.heap.size (fun k => w7.heap.size ≤ k) v (ppOf (spB B) B n (B.devs.take kk))
theorem OnOf.grow {B : Book} {n : Int} {w w7 W W' : World} {b6 kk : Nat} (h : OnOf B n w w7 b6 kk W) (hw : w.heap.size ≤ W.heap.size) (hb : Below W.heap.size W W') : OnOf B n w w7 b6 kk W' := by
 obtain ⟨v, h1, h2⟩ := h.row
 refine ⟨h.lo.trans (hb.mono hw), ⟨Nat.le_trans h.kp.1 hb.size, fun i hi hg hr => ?_⟩, v, roomN h1 hb, Kd.R_below h2 hb⟩
 rw [hb.block i (Nat.lt_of_lt_of_le hi h.kp.1)]
 exact h.kp.2 i hi hg hr
theorem peerR_val {w : World} {base : Nat} {ok : Nat → Prop} {v : Value} {l : List Peer} (h : kPeer.R 48 w base ok v l) : ∃ A c, v = .slice A l.length c ∧ PsAt w A c l := by
 obtain ⟨A, c, rfl, h1, h2⟩ := Kd.R_reads h
 exact ⟨A, c, rfl, h1, h2⟩
end Go.Proofs.YtmgbaefgcdglpaaGreatDoor.Net
end
section
namespace Go.Proofs.YtmgbaefgcdglpaaGreatDoor.Net
open Go Go.RowKit Go.Proofs Go.Proofs.YtmgbaefgcdglpaaGreatDoorW.PrintWords Go.Proofs.YtmgbaefgcdglpaaGreatDoorW.PrintLast Go.Proofs.YtmgbaefgcdglpaaGreatDoorW.PrintMore Go.Proofs.YtmgbaefgcdglpaaGreatDoor.Dir
set_option linter.unusedVariables false
set_option linter.unusedSimpArgs false
theorem field85_0 (w : World) (b : Nat) : (Instr.fieldAt 85 (.pointer (some ⟨b, 0, none⟩)) 0).run Tryz.prog w = .ok (.pointer (some ⟨b, 0, none⟩)) w := by
 simp [Instr.fieldAt, run_underlying Tryz.underlying85, Instr.sureAddr, fieldPlace, go_sem]
theorem field85_1 (w : World) (b : Nat) : (Instr.fieldAt 85 (.pointer (some ⟨b, 0, none⟩)) 1).run Tryz.prog w = .ok (.pointer (some ⟨b, 1, none⟩)) w := by
 simp [Instr.fieldAt, run_underlying Tryz.underlying85, Instr.sureAddr, fieldPlace, go_sem]
theorem field85_2 (w : World) (b : Nat) : (Instr.fieldAt 85 (.pointer (some ⟨b, 0, none⟩)) 2).run Tryz.prog w = .ok (.pointer (some ⟨b, 33, none⟩)) w := by
 simp [Instr.fieldAt, run_underlying Tryz.underlying85, Instr.sureAddr, fieldPlace, go_sem]
theorem field31_3 (w : World) (b : Nat) : (Instr.fieldAt 31 (.pointer (some ⟨b, 0, none⟩)) 3).run Tryz.prog w = .ok (.pointer (some ⟨b, 3, none⟩)) w := by
 simp [Instr.fieldAt, run_underlying Tryz.underlying31, Instr.sureAddr, fieldPlace, go_sem]
theorem field31_4 (w : World) (b : Nat) : (Instr.fieldAt 31 (.pointer (some ⟨b, 0, none⟩)) 4).run Tryz.prog w = .ok (.pointer (some ⟨b, 35, none⟩)) w := by
 simp [Instr.fieldAt, run_underlying Tryz.underlying31, Instr.sureAddr, fieldPlace, go_sem]
theorem exec_move {P : Program} {w : World} (x : Operand) (o : Oper) (ho : o.op = .move x) (a : Act) (v : Value) (hx : a.eval x = v) : (execOp a.eval o).run P w = .ok (.value v) w := by
 subst hx
 unfold execOp
 simp [ho]
theorem exec_alloc48 {w : World} (o : Oper) (ho : o.op = .alloc 48) (a : Act) : (execOp a.eval o).run Tryz.prog w = .ok (.value (.pointer (some ⟨w.heap.size, 0, none⟩))) (w.alloc (.cells (peerCells peerZ none 0 none 0).toArray 48)) := by
 have hz := zero48 w
 generalize (peerCells peerZ none 0 none 0).toArray = Z at hz ⊢
 unfold execOp
 simp only [ho, Sem.run_bind]
 simp [Instr.alloc, hz, newVar, newRow, newObj, Value.cells]
 rfl
def G13 (nb b6 : Nat) (d : Dev) : Nat → Value → World → Prop := fun i v _ => match i with
 | 0 => v = .pointer (some ⟨nb, 1, none⟩)
 | 1 => v = .agg (encK d.key).toArray
 | 2 => v = .pointer (some ⟨nb, 33, none⟩)
 | 3 => v = .int .i64 d.exp
 | 4 => v = .pointer (some ⟨b6, 3, none⟩)
 | 6 => v = .pointer (some ⟨b6, 35, none⟩)
 | _ => True
structure M13 (B : Book) (n : Int) (nb b6 : Nat) (d : Dev) (w w9 : World) (k : Key) (e : Int) (x : Value) (l : Array Bool) (W : World) : Prop where
 lo : Below w.heap.size w W
 kp : KeepBut w9 W b6 none
 dev : W.heap[nb]? = some (.cells (encD d).toArray 85 (0, 0))
 row : W.heap[b6]? = some (.cells (mapV B.ver B.clock n (if l.getD 5 false = true then d.key else k) (if l.getD 7 false = true then d.exp else e) x).toArray 31 (0, 0))
section
variable {B : Book} {n : Int} {nb b6 : Nat} {d : Dev} {w w9 : World} {k : Key} {e : Int} {x : Value}
theorem M13.drew {l : Array Bool} {W : World} (h : M13 B n nb b6 d w w9 k e x l W) : M13 B n nb b6 d w w9 k e x l W.drew := ⟨h.lo.drew, h.kp, h.dev, h.row⟩
theorem M13.step {l : Array Bool} {W : World} {i : Nat} (h : M13 B n nb b6 d w w9 k e x l W) (h5 : i ≠ 5) (h7 : i ≠ 7) : M13 B n nb b6 d w w9 k e x (l.setIfInBounds i true) W := ⟨h.lo, h.kp, h.dev, by rw [setB h5, setB h7]; exact h.row⟩
theorem M13.key {l : Array Bool} {W : World} (h : M13 B n nb b6 d w w9 k e x l W) (hs : 5 < l.size) (hb : w.heap.size ≤ b6) (hne : nb ≠ b6) :
  ∃ W', (Instr.storeAt 28 (.pointer (some ⟨b6, 3, none⟩)) (.agg (encK d.key).toArray)).run Tryz.prog W = .ok () W' ∧ M13 B n nb b6 d w w9 k e x (l.setIfInBounds 5 true) W' := by
 have hr := run_storeAtK Tryz.prog W 28 32 Tryz.sizeOf28 b6 3 (encK d.key) (encK_len _) (encK_one _) _ 31 h.row (by rw [mapV_len]; decide)
 rw [mapV_splice] at hr
 refine ⟨_, hr, below_setRow h.lo hb _, ⟨Nat.le_trans h.kp.1 (by simp), fun i hi hg hr => ?_⟩, ?_, ?_⟩
 ·rw [setRow_other W b6 i _ hg]; exact h.kp.2 i hi hg hr
 ·rw [setRow_other W b6 nb _ hne]; exact h.dev
 ·rw [setS hs, setB (by decide), if_pos rfl]; exact setRow_heap W b6 _ _ 31 (0, 0) h.row
theorem M13.exp {l : Array Bool} {W : World} (h : M13 B n nb b6 d w w9 k e x l W) (hs : 7 < l.size) (hb : w.heap.size ≤ b6) (hne : nb ≠ b6) :
  ∃ W', (Instr.storeAt 3 (.pointer (some ⟨b6, 35, none⟩)) (.int .i64 d.exp)).run Tryz.prog W = .ok () W' ∧ M13 B n nb b6 d w w9 k e x (l.setIfInBounds 7 true) W' := by
 have hr := run_storeAt1 Tryz.prog W 3 Tryz.sizeOf3 b6 35 (.int .i64 d.exp) rfl rfl _ (by rw [cell_of_heap h.row]; exact mapV35 _ _ _ _ _ _) (frozen_of_heap h.row)
 refine ⟨_, hr, h.lo.setCell hb _, ⟨Nat.le_trans h.kp.1 (by simp), fun i hi hg hr => ?_⟩, ?_, ?_⟩
 ·rw [Below.heap_setCell _ _ _ _ hg]; exact h.kp.2 i hi hg hr
 ·rw [Below.heap_setCell _ _ _ _ hne]; exact h.dev
 ·rw [setS hs, setB (by decide), if_pos rfl]
  have := Go.heap_setCell_same W b6 35 _ _ (.int .i64 d.exp) h.row
  rw [this]
  simp only [List.setIfInBounds_toArray, mapV_set35]
end
theorem OnOf.own {B : Book} {n : Int} {w w7 w9 W : World} {b6 kk : Nat} {d : Dev} (hB : WF B) (hd : B.devs[kk]? = some d) (hn : d.node = n) (hl : live B d = true) {v : Value} (hkp : KeepBut w7 w9 b6 none) (h7 : b6 < w7.heap.size)
  (hR : kPeer.R 48 w9 w7.heap.size (fun k => w7.heap.size ≤ k) v (ppOf (spB B) B n (B.devs.take kk))) (lo : Below w.heap.size w W) (kp : KeepBut w9 W b6 none) (row : W.heap[b6]? = some (.cells (mapV B.ver B.clock n d.key d.exp v).toArray 31 (0, 0))) : OnOf B n w w7 b6 (kk + 1) W := by
 refine ⟨lo, ⟨Nat.le_trans hkp.1 kp.1, fun i hi hg hr => (kp.2 i (Nat.lt_of_lt_of_le hi hkp.1) hg hr).trans (hkp.2 i hi hg hr)⟩, v, ?_, ?_⟩
 ·rw [kx_own hB hd (by rw [decide_eq_true hn, hl]; rfl)]; exact row
 ·rw [pp_skip hd (by unfold talks; rw [decide_eq_false (fun h => h hn)]; rfl)]
  exact Kd.R_step hR (fun k hk hlt => kp.2 k hlt (by omega) (by simp))
theorem OnOf.skip {B : Book} {n : Int} {w w7 W : World} {b6 kk : Nat} {d : Dev} (h : OnOf B n w w7 b6 kk W) (hd : B.devs[kk]? = some d) (hl : live B d = false) : OnOf B n w w7 b6 (kk + 1) W := by
 obtain ⟨v, h1, h2⟩ := h.row
 refine ⟨h.lo, h.kp, v, ?_, ?_⟩
 ·rw [kx_other hd (by rw [hl, Bool.and_false])]; exact h1
 ·rw [pp_skip hd (by unfold talks; rw [hl, Bool.and_false]; rfl)]; exact h2
theorem OnOf.mute {B : Book} {n : Int} {w w7 W : World} {b6 kk : Nat} {d : Dev} (h : OnOf B n w w7 b6 kk W) (hd : B.devs[kk]? = some d) (hn : d.node ≠ n) (h0 : (spB B d.node n).length + (spB B n d.node).length = 0) : OnOf B n w w7 b6 (kk + 1) W := by
 obtain ⟨v, h1, h2⟩ := h.row
 refine ⟨h.lo, h.kp, v, ?_, ?_⟩
 ·rw [kx_other hd (by rw [decide_eq_false hn]; rfl)]; exact h1
 ·rw [pp_skip hd (by unfold talks; rw [decide_eq_false (p := (spB B d.node n).length + (spB B n d.node).length ≠ 0) (fun h => h h0), Bool.and_false])]; exact h2
section
variable (B : Book) (n : Int) (d : Dev) (nb N : Nat) (rv : Value)
def G14 : Nat → Value → World → Prop := fun i v W => match i with
 | 0 => v = .pointer (some ⟨nb, 0, none⟩)
 | 1 => v = .int .i64 d.node
 | 2 => v = .pointer (some ⟨nb, 1, none⟩)
 | 3 => v = .agg (encK d.key).toArray
 | 4 => v = .pointer (some ⟨nb, 33, none⟩)
 | 5 => v = .int .i64 d.exp
 | 6 => v = rv
 | 7 => v = .pointer (some ⟨nb, 0, none⟩)
 | 8 => v = .int .i64 d.node
 | 9 => v = .int .i64 n
 | 10 => kSp.R 80 W N (fun k => N ≤ k) v (spB B d.node n)
 | 11 => v = rv
 | 12 => v = .int .i64 n
 | 13 => v = .pointer (some ⟨nb, 0, none⟩)
 | 14 => v = .int .i64 d.node
 | 15 => kSp.R 80 W N (fun k => N ≤ k) v (spB B n d.node)
 | 16 => ∃ x1 x2, v = .agg (peerV (peerOf (spB B) n d) x1 x2).toArray ∧ kSp.R 80 W N (fun k => N ≤ k) x1 (spB B d.node n) ∧ kSp.R 80 W N (fun k => N ≤ k) x2 (spB B n d.node)
 | _ => True
theorem G14.below {W W' : World} (hb : Below W.heap.size W W') : ∀ i v, G14 B n d nb N rv i v W → G14 B n d nb N rv i v W' := by
 intro i v h
 unfold G14 at h ⊢
 split at h <;> first | exact h | exact Kd.R_below h hb | (obtain ⟨x1, x2, e, h1, h2⟩ := h; exact ⟨x1, x2, e, Kd.R_below h1 hb, Kd.R_below h2 hb⟩) | trivial
theorem G14.row {W : World} {pb : Nat} {cells : Array Value} (hw : W.heap[pb]? = some (.cells cells 48 (0, 0))) (new : Array Value) : ∀ i v, G14 B n d nb N rv i v W → G14 B n d nb N rv i v (W.setRow pb new) := by
 have st : ∀ {v : Value} {xs : List Sp}, kSp.R 80 W N (fun k => N ≤ k) v xs → kSp.R 80 (W.setRow pb new) N (fun k => N ≤ k) v xs := fun h =>
  Kd.R_mono (Kd.R_step (Kd.R_types h hw (by decide)) (fun k hk _ => setRow_other W pb k _ hk.2)) (fun _ hk => hk.1)
 intro i v h
 unfold G14 at h ⊢
 split at h <;> first | exact h | exact st h | (obtain ⟨x1, x2, e, h1, h2⟩ := h; exact ⟨x1, x2, e, st h1, st h2⟩) | trivial
structure M14 (wN : World) (l : Array Bool) (a : Act) (W : World) : Prop where
 lo : Below N wN W
 at_ : l.getD 17 false = true → ∃ pb cs, a.tmps.getD 13 undef = .pointer (some ⟨pb, 0, none⟩) ∧ N ≤ pb ∧ cs.length = 36 ∧ W.heap[pb]? = some (.cells cs.toArray 48 (0, 0)) ∧
  (l.getD 18 false = true → ∃ x1 x2, cs = peerV (peerOf (spB B) n d) x1 x2 ∧ kSp.R 80 W N (fun k => N ≤ k ∧ k ≠ pb) x1 (spB B d.node n) ∧ kSp.R 80 W N (fun k => N ≤ k ∧ k ≠ pb) x2 (spB B n d.node))
theorem M14.step {wN W W' : World} {l : Array Bool} {a a' : Act} {i : Nat} (h : M14 B n d N wN l a W) (hN : N ≤ wN.heap.size) (hb : Below W.heap.size W W') (h17 : i ≠ 17) (h18 : i ≠ 18) (ha : a'.tmps.getD 13 undef = a.tmps.getD 13 undef) : M14 B n d N wN (l.setIfInBounds i true) a' W' := by
 refine ⟨h.lo.trans (hb.mono (Nat.le_trans hN h.lo.size)), fun e => ?_⟩
 rw [setB h17] at e
 obtain ⟨pb, cs, h1, h2, h3, h4, h5⟩ := h.at_ e
 refine ⟨pb, cs, ha.trans h1, h2, h3, roomN h4 hb, fun e2 => ?_⟩
 rw [setB h18] at e2
 obtain ⟨x1, x2, e3, r1, r2⟩ := h5 e2
 exact ⟨x1, x2, e3, Kd.R_below r1 hb, Kd.R_below r2 hb⟩
end
theorem spansGo_len (ok : Int → Bool) : ∀ (P : List Int) (out : List PA.S80), (PA.spansGo ok P out).length ≤ out.length + P.length
 | [], out => by simp [PA.spansGo]
 | [x], out => by simp [PA.spansGo]
 | x :: y :: rest, out => by
  unfold PA.spansGo
  have h1 := spansGo_len ok (y :: rest) (if ok x = true then PA.addSpan out x (y - 1) else out)
  have h2 := PA.addSpan_len out x (y - 1)
  simp only [List.length_cons] at h1 ⊢
  by_cases hx : ok x = true
  ·rw [if_pos hx] at h1 ⊢; omega
  ·rw [if_neg hx] at h1 ⊢; omega
theorem spB_len (B : Book) (a b : Int) : (spB B a b).length ≤ 66 := by
 unfold spB PA.spansV
 have h1 := spansGo_len (fun p => PA.allowsV (rulesB B) a b p) (PA.pointsOf (rulesB B) ++ [65536]) []
 have h2 := (PA.points_spec (rulesB B)).2.2
 have h3 : (rulesB B).length ≤ 32 := parse_len _
 rw [List.length_append, List.length_singleton, List.length_nil] at h1
 omega
theorem buildP (w : World) (p : Peer) (x1 x2 : Value) : (Instr.buildSlice 29 1 #[(0, .agg (peerV p x1 x2).toArray)]).run Tryz.prog w = .ok (.slice (some ⟨w.heap.size, 0, none⟩) 1 1) (w.alloc (.cells (peerV p x1 x2).toArray 48)) :=
 run_buildSlice1 Tryz.prog w 29 48 36 _ Tryz.underlying29 Tryz.sizeOf48 zero48 (by decide) (by decide) _ (peerV_len p x1 x2)
theorem peerR_one {w : World} {base : Nat} {ok : Nat → Prop} {v : Value} {l : List Peer} (h : kPeer.R 48 w base ok v l) : v.cells = #[v] ∧ v.oneCell' = true := by
 obtain ⟨A, c, rfl⟩ := Kd.R_slice h
 exact ⟨rfl, rfl⟩
theorem OnOf.push {B : Book} {n : Int} {w w7 W w1 : World} {b6 kk : Nat} {d : Dev} (h : OnOf B n w w7 b6 kk W) (hd : B.devs[kk]? = some d) (hn : d.node ≠ n) (hl : live B d = true) (h0 : ¬ (spB B d.node n).length + (spB B n d.node).length = 0) (hb : w.heap.size ≤ b6) (h7 : b6 < w7.heap.size) {v v1 : Value}
  (hrow : W.heap[b6]? = some (.cells (mapV B.ver B.clock n (kxOf B n (B.devs.take kk)).1 (kxOf B n (B.devs.take kk)).2 v).toArray 31 (0, 0)))
  (hR : kPeer.R 48 w1 w7.heap.size (fun k => w7.heap.size ≤ k) v1 (ppOf (spB B) B n (B.devs.take kk) ++ [peerOf (spB B) n d])) (hbel : Below w7.heap.size W w1) : OnOf B n w w7 b6 (kk + 1) (w1.setCell ⟨b6, 36, none⟩ v1) := by
 have hr1 := (hbel.block b6 h7).trans hrow
 refine ⟨(h.lo.trans (hbel.mono (by omega))).setCell hb _, ⟨by simpa using Nat.le_trans h.kp.1 hbel.size, fun i hi hg hr => ?_⟩, v1, ?_, ?_⟩
 ·rw [Below.heap_setCell _ _ _ _ hg, hbel.block i hi]
  exact h.kp.2 i hi hg hr
 ·rw [kx_other hd (by rw [decide_eq_false hn]; rfl)]
  have := Go.heap_setCell_same w1 b6 36 _ _ v1 hr1
  rw [this]
  simp only [List.setIfInBounds_toArray, mapV_set36]
 ·rw [pp_add hd (by unfold talks; rw [decide_eq_true hn, hl, decide_eq_true (p := (spB B d.node n).length + (spB B n d.node).length ≠ 0) h0]; rfl)]
  exact Kd.R_far hR (fun k hk => by show k ≠ b6; omega) v1
end Go.Proofs.YtmgbaefgcdglpaaGreatDoor.Net
end
