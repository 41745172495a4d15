/- WalCheck, the plain law: the program's check of bytes and the document's come to one number, bit by bit, and bytes that were copied are the same; no condition. -/
import Derived.Test.YtccacngllckbkaaPWalCheckx1
namespace Go.Proofs.Ytccacngllckbkaa.Pure
open Go.RowKit Go.Proofs.Ytccacngllckbkaa.PWalCheck Go.Proofs.YtccacngllckbkaaW.PrintWords Go.Proofs.YtccacngllckbkaaW.PrintLast

theorem ofInt_toNat {c : Int} (h0 : 0 ≤ c) (h1 : c < 4294967296) : (BitVec.ofInt 32 c).toNat = c.toNat := by
  simp [BitVec.toNat_ofInt]; omega

theorem wrap_nat (n : Nat) (h : n < 4294967296) : IntKind.u32.wrap (n : Int) = n := by
  have e : IntKind.u32.wrap (n : Int) = (n : Int) % 4294967296 := rfl
  rw [e]; omega

theorem xor_eq (a b : Int) : Go.bits .xor .u32 a b = ((BitVec.ofInt 32 a ^^^ BitVec.ofInt 32 b).toNat : Int) := by
  have h : Go.bits .xor .u32 a b = IntKind.u32.wrap ((BitVec.ofInt 32 a ^^^ BitVec.ofInt 32 b).toNat : Int) := rfl
  rw [h, wrap_nat _ (BitVec.isLt _)]

theorem and_eq (a b : Int) : Go.bits .and .u32 a b = ((BitVec.ofInt 32 a &&& BitVec.ofInt 32 b).toNat : Int) := by
  have h : Go.bits .and .u32 a b = IntKind.u32.wrap ((BitVec.ofInt 32 a &&& BitVec.ofInt 32 b).toNat : Int) := rfl
  rw [h, wrap_nat _ (BitVec.isLt _)]

theorem xor_lo (a b : Int) : 0 ≤ Go.bits .xor .u32 a b := by rw [xor_eq]; omega
theorem xor_hi (a b : Int) : Go.bits .xor .u32 a b < 4294967296 := by
  rw [xor_eq]; have := (BitVec.ofInt 32 a ^^^ BitVec.ofInt 32 b).isLt; omega

theorem and_one {c : Int} (h0 : 0 ≤ c) (h1 : c < 4294967296) : Go.bits .and .u32 c 1 = c % 2 := by
  rw [and_eq, BitVec.toNat_and, ofInt_toNat h0 h1]
  have e : (BitVec.ofInt 32 1).toNat = 1 := rfl
  rw [e, Nat.and_one_is_mod]; omega

theorem xor_zero {c : Int} (h0 : 0 ≤ c) (h1 : c < 4294967296) : Go.bits .xor .u32 c 0 = c := by
  rw [xor_eq, BitVec.toNat_xor, ofInt_toNat h0 h1]
  have e : (BitVec.ofInt 32 0).toNat = 0 := rfl
  rw [e, Nat.xor_zero]; omega

theorem and_all : Go.bits .and .u32 3988292384 4294967295 = 3988292384 := by decide +kernel
theorem and_none : Go.bits .and .u32 3988292384 0 = 0 := by decide +kernel

/-- One bit's step. -/
def st (c : Int) : Int := if c % 2 = 1 then Go.bits .xor .u32 (c / 2) 3988292384 else c / 2
def rep : Nat → Int → Int
  | 0, c => c
  | n + 1, c => rep n (st c)
def crcs : List Int → Int → Int
  | [], c => c
  | x :: r, c => crcs r (rep 8 (Go.bits .xor .u32 c (x % 4294967296)))

theorem st_lo {c : Int} (h0 : 0 ≤ c) : 0 ≤ st c := by
  unfold st; split
  · exact xor_lo _ _
  · omega
theorem st_hi {c : Int} (h1 : c < 4294967296) : st c < 4294967296 := by
  unfold st; split
  · exact xor_hi _ _
  · omega

theorem st_wal {c : Int} (h0 : 0 ≤ c) (h1 : c < 4294967296) :
    Go.bits .xor .u32 (c / 2) (Go.bits .and .u32 3988292384 ((-(Go.bits .and .u32 c 1)) % 4294967296)) = st c := by
  rw [and_one h0 h1]; unfold st
  by_cases h : c % 2 = 1
  · rw [if_pos h, h, show (-1 : Int) % 4294967296 = 4294967295 from rfl, and_all]
  · rw [if_neg h, show c % 2 = 0 by omega, show (-0 : Int) % 4294967296 = 0 from rfl, and_none, xor_zero (by omega) (by omega)]

theorem wal_bits (l : List Int) (x7 x8 : Int) (n : Nat) : ∀ (k : Nat) (c i : Int), 0 ≤ c → c < 4294967296 → i + n = 8 → 0 ≤ i →
    wal_Check.l1 (k + n + 1) c l x7 x8 i = wal_Check.l0 k (rep n c) l x7 (wrap64 (x8 + 1)) := by
  induction n with
  | zero =>
    intro k c i _ _ hi _
    simp only [wal_Check.l1]; rw [if_neg (by omega)]; rfl
  | succ n ih =>
    intro k c i h0 h1 hi hi0
    rw [show k + (n + 1) + 1 = (k + n + 1) + 1 by omega]
    simp only [wal_Check.l1]; rw [if_pos (by omega), st_wal h0 h1, show wrap64 (i + 1) = i + 1 by unfold wrap64; omega]
    exact ih k (st c) (i + 1) (st_lo h0) (st_hi h1) (by omega) (by omega)

theorem ref_l1_succ (k : Nat) (l : List Int) (x3 x4 x5 : Int) : causewayref15_Check.l1 (k + 1) l x3 x4 x5 = if x5 < 8 then (if (Go.bits .and .u32 x3 1) = 1 then (causewayref15_Check.l1 k l (Go.bits .xor .u32 (x3 / 2) 3988292384) x4 (wrap64 (x5 + 1))) else (causewayref15_Check.l1 k l (x3 / 2) x4 (wrap64 (x5 + 1)))) else (causewayref15_Check.l0 k l x3 (wrap64 (x4 + 1))) := rfl

theorem ref_bits (l : List Int) (x4 : Int) (n : Nat) : ∀ (k : Nat) (c i : Int), 0 ≤ c → c < 4294967296 → i + n = 8 → 0 ≤ i →
    causewayref15_Check.l1 (k + n + 1) l c x4 i = causewayref15_Check.l0 k l (rep n c) (wrap64 (x4 + 1)) := by
  induction n with
  | zero =>
    intro k c i _ _ hi _
    simp only [causewayref15_Check.l1]; rw [if_neg (by omega)]; rfl
  | succ n ih =>
    intro k c i h0 h1 hi hi0
    rw [show k + (n + 1) + 1 = (k + n + 1) + 1 by omega, ref_l1_succ, if_pos (by omega), and_one h0 h1, show wrap64 (i + 1) = i + 1 by unfold wrap64; omega]
    have ih' := ih k (st c) (i + 1) (st_lo h0) (st_hi h1) (by omega) (by omega)
    by_cases h : c % 2 = 1
    · rw [if_pos h]; have e : st c = Go.bits .xor .u32 (c / 2) 3988292384 := by unfold st; rw [if_pos h]
      rw [e] at ih'; rw [ih', ← e]; rfl
    · rw [if_neg h]; have e : st c = c / 2 := by unfold st; rw [if_neg h]
      rw [e] at ih'; rw [ih', ← e]; rfl

theorem rep_lo (n : Nat) : ∀ {c : Int}, 0 ≤ c → 0 ≤ rep n c := by
  induction n with
  | zero => intro c h; exact h
  | succ n ih => intro c h; exact ih (st_lo h)
theorem rep_hi (n : Nat) : ∀ {c : Int}, c < 4294967296 → rep n c < 4294967296 := by
  induction n with
  | zero => intro c h; exact h
  | succ n ih => intro c h; exact ih (st_hi h)

theorem drop_rd (l : List Int) (i : Int) (h0 : 0 ≤ i) (h1 : i < (l.length : Int)) : l.drop i.toNat = rd l i :: l.drop (i + 1).toNat := by
  have h : i.toNat < l.length := by omega
  rw [List.drop_eq_getElem_cons h, show (i + 1).toNat = i.toNat + 1 by omega]
  simp [rd, List.getD_eq_getElem?_getD, List.getElem?_eq_getElem h]

theorem wal_sum (l : List Int) (hl : (l.length : Int) ≤ 140737488355328) (d : Nat) : ∀ (k : Nat) (c i : Int), 0 ≤ i → i + d = l.length → 0 ≤ c → c < 4294967296 → 10 * d < k →
    wal_Check.l0 k c l (l.length : Int) i = some (Go.bits .xor .u32 4294967295 (crcs (l.drop i.toNat) c)) := by
  induction d with
  | zero =>
    intro k c i h0 hi _ _ hk
    obtain ⟨k, rfl⟩ : ∃ m, k = m + 1 := ⟨k - 1, by omega⟩
    simp only [wal_Check.l0]; rw [if_neg (by omega), List.drop_of_length_le (by omega)]; rfl
  | succ d ih =>
    intro k c i h0 hi hc0 hc1 hk
    obtain ⟨k, rfl⟩ : ∃ m, k = m + 10 := ⟨k - 10, by omega⟩
    rw [show k + 10 = (k + 8 + 1) + 1 by omega]
    simp only [wal_Check.l0]; rw [if_pos (by omega), if_pos h0, if_pos (by omega), wal_bits l _ _ 8 k _ 0 (xor_lo _ _) (xor_hi _ _) rfl (by omega), show wrap64 (i + 1) = i + 1 by unfold wrap64; omega,
      ih k _ (i + 1) (by omega) (by omega) (rep_lo 8 (xor_lo _ _)) (rep_hi 8 (xor_hi _ _)) (by omega), drop_rd l i h0 (by omega)]
    rfl

theorem ref_sum (l : List Int) (hl : (l.length : Int) ≤ 140737488355328) (d : Nat) : ∀ (k : Nat) (c i : Int), 0 ≤ i → i + d = l.length → 0 ≤ c → c < 4294967296 → 10 * d < k →
    causewayref15_Check.l0 k l c i = some (Go.bits .xor .u32 4294967295 (crcs (l.drop i.toNat) c)) := by
  induction d with
  | zero =>
    intro k c i h0 hi _ _ hk
    obtain ⟨k, rfl⟩ : ∃ m, k = m + 1 := ⟨k - 1, by omega⟩
    simp only [causewayref15_Check.l0]; rw [if_neg (by omega), List.drop_of_length_le (by omega)]; rfl
  | succ d ih =>
    intro k c i h0 hi hc0 hc1 hk
    obtain ⟨k, rfl⟩ : ∃ m, k = m + 10 := ⟨k - 10, by omega⟩
    rw [show k + 10 = (k + 8 + 1) + 1 by omega]
    simp only [causewayref15_Check.l0]; rw [if_pos (by omega), if_pos h0, ref_bits l _ 8 k _ 0 (xor_lo _ _) (xor_hi _ _) rfl (by omega), show wrap64 (i + 1) = i + 1 by unfold wrap64; omega,
      ih k _ (i + 1) (by omega) (by omega) (rep_lo 8 (xor_lo _ _)) (rep_hi 8 (xor_hi _ _)) (by omega), drop_rd l i h0 (by omega)]
    rfl

theorem eq_self (l : List Int) (hl : (l.length : Int) ≤ 140737488355328) (d : Nat) : ∀ (k : Nat) (i : Int), 0 ≤ i → i + d = l.length → d < k → causewayref00_EqBytes.l0 k l l i = some true := by
  induction d with
  | zero =>
    intro k i h0 hi hk
    obtain ⟨k, rfl⟩ : ∃ m, k = m + 1 := ⟨k - 1, by omega⟩
    simp only [causewayref00_EqBytes.l0]; rw [if_neg (by omega)]
  | succ d ih =>
    intro k i h0 hi hk
    obtain ⟨k, rfl⟩ : ∃ m, k = m + 1 := ⟨k - 1, by omega⟩
    simp only [causewayref00_EqBytes.l0]; rw [if_pos (by omega), if_pos h0, if_pos (by omega), if_pos trivial, show wrap64 (i + 1) = i + 1 by unfold wrap64; omega]
    exact ih k (i + 1) (by omega) (by omega) (by omega)

theorem WalCheck : causewaylaw15_WalCheck.Pure := by
  intro l _ hl _
  have hl' : (l.length : Int) ≤ 140737488355328 := by omega
  refine ⟨10 * l.length + 1, ?_⟩
  have hc : causewayref00_CopyBytes.f l = some l := by
    unfold causewayref00_CopyBytes.f; rw [if_pos (by simp; omega)]; rfl
  have hw : wal_Check.f (10 * l.length + 1) l = some (Go.bits .xor .u32 4294967295 (crcs (l.drop (0 : Int).toNat) 4294967295)) :=
    wal_sum l hl' l.length _ _ 0 (by omega) (by omega) (by omega) (by omega) (by omega)
  have hr : causewayref15_Check.f (10 * l.length + 1) l = some (Go.bits .xor .u32 4294967295 (crcs (l.drop (0 : Int).toNat) 4294967295)) :=
    ref_sum l hl' l.length _ _ 0 (by omega) (by omega) (by omega) (by omega) (by omega)
  have he : causewayref00_EqBytes.f (10 * l.length + 1) l l = some true := by
    unfold causewayref00_EqBytes.f; rw [if_pos rfl]
    exact eq_self l hl' l.length _ 0 (by omega) (by omega) (by omega)
  unfold causewaylaw15_WalCheck.f
  rw [hc]; simp only [Option.bind_some]; rw [hw, hr]; simp only [Option.bind_some]; rw [if_pos trivial, he]; rfl

end Go.Proofs.Ytccacngllckbkaa.Pure
