/- The document's Parse, as it was walked, is the plain one. The document's directory in plain words: what find, put and spend come to at books that may be; and its Parse. The document's directory: next. The document's directory: next, at ops that change devices. The document's directory: next, at ops that rotate and revoke. The document's directory: next, at ops that rotate and revoke. The document' -/
import Derived.Test.YthnpiimiimiijaaGreatDoorKp16
import Derived.Test.YthnpiimiimiijaaGreatDoorKp18
section
namespace Go.Proofs.YthnpiimiimiijaaGreatDoor.PA
open Go.RowKit Go.Proofs.YthnpiimiimiijaaGreatDoor.Acl Go.Proofs.YthnpiimiimiijaaGreatDoorW.PrintWords Go.Proofs.YthnpiimiimiijaaGreatDoorW.PrintLast Go.Proofs.YthnpiimiimiijaaGreatDoorW.PrintMore
/-- A text of bytes. -/
def toB (r : List UInt8) : ByteArray := ⟨r.toArray⟩
theorem toB_size (r : List UInt8) : (toB r).size = r.length := by simp [toB, ByteArray.size]
theorem toB_list (r : List UInt8) : (toB r).toList = r := by rw [ByteArray.toList_eq]; rfl
theorem toB_bt (r : List UInt8) (i : Nat) (h : i < r.length) : bt (toB r) (i : Int) = (r[i].toNat : Int) := by
 unfold bt
 have h2 : ((i : Int).toNat) < (toB r).size := by rw [toB_size]; omega
 rw [dif_pos h2]
 rfl
theorem toB_cut (r : List UInt8) (a b : Nat) : (toB r).extract a b = toB ((r.take b).drop a) := Acl.extract_eq r a b
theorem wrapZ {n : Int} (h0 : -9223372036854775808 ≤ n) (h1 : n < 9223372036854775808) : wrap64 n = n := by unfold wrap64; omega
theorem wrap_next (i : Nat) (h : i < 9223372036854775807) : wrap64 ((i : Int) + 1) = ((i + 1 : Nat) : Int) := by rw [wrapZ (by omega) (by omega)]; rfl
theorem take_grow (r : List UInt8) (i from' : Nat) (h : i < r.length) (hf : from' ≤ i) : (r.take (i + 1)).drop from' = (r.take i).drop from' ++ [r[i]] := by
 rw [List.take_add_one, List.getElem?_eq_getElem h, List.drop_append_of_le_length (by simp; omega)]; rfl
theorem take_none (r : List UInt8) (i : Nat) : (r.take i).drop i = [] := List.drop_of_length_le (by simp; omega)
theorem take_some (r : List UInt8) (i from' : Nat) (hi : i ≤ r.length) (h : from' < i) : (r.take i).drop from' ≠ [] := fun e => by
 have := congrArg List.length e; simp at this; omega
theorem byte_eq (c : UInt8) (n : Nat) (hn : n < 256) : ((c.toNat : Int) = (n : Int)) ↔ c = UInt8.ofNat n := by
 constructor
 ·intro h
  apply UInt8.toNat_inj.1
  show c.toNat = n % 256
  omega
 ·intro h
  rw [h]
  show ((n % 256 : Nat) : Int) = n
  omega
theorem byte10 (c : UInt8) : ((c.toNat : Int) = 10) ↔ c = 10 := byte_eq c 10 (by decide)
theorem byte32 (c : UInt8) : ((c.toNat : Int) = 32) ↔ c = 32 := byte_eq c 32 (by decide)
theorem byte35 (c : UInt8) : ((c.toNat : Int) = 35) ↔ c = 35 := byte_eq c 35 (by decide)
theorem byte44 (c : UInt8) : ((c.toNat : Int) = 44) ↔ c = 44 := byte_eq c 44 (by decide)
theorem byte45 (c : UInt8) : ((c.toNat : Int) = 45) ↔ c = 45 := byte_eq c 45 (by decide)
theorem byte48 (c : UInt8) : ((c.toNat : Int) = 48) ↔ c = 48 := byte_eq c 48 (by decide)
/-! #### lines -/
theorem lines_l0 (r : List UInt8) (hr : r.length ≤ 1024) : ∀ (n k i from' : Nat) (out : List ByteArray), r.length - i ≤ n → n < k → from' ≤ i → i ≤ r.length → out.length ≤ i →
  causewayref20_lines.l0 k (toB r) out (from' : Int) (i : Int) = some (out ++ (docLines ((r.take i).drop from') (r.drop i)).map toB) := by
 intro n
 induction n with
 | zero =>
  intro k i from' out hn hk hf hi ho
  obtain ⟨k, rfl⟩ : ∃ j, k = j + 1 := ⟨k - 1, by omega⟩
  obtain rfl : i = r.length := by omega
  unfold causewayref20_lines.l0
  rw [toB_size, if_neg (by omega), List.drop_length]
  by_cases h : from' < r.length
  ·rw [if_pos (by omega), if_pos (by omega), if_pos (by omega), if_pos (by omega)]
   unfold docLines
   rw [if_neg (take_some r _ _ (Nat.le_refl _) h), show ((from' : Int)).toNat = from' by omega, toB_cut]
   simp
  ·obtain rfl : from' = r.length := by omega
   rw [if_neg (by omega), take_none]
   unfold docLines
   simp
 | succ n ih =>
  intro k i from' out hn hk hf hi ho
  by_cases h : i < r.length
  ·obtain ⟨k, rfl⟩ : ∃ j, k = j + 1 := ⟨k - 1, by omega⟩
   unfold causewayref20_lines.l0
   rw [toB_size, if_pos (by omega), if_pos (by omega), toB_bt r i h, wrap_next i (by omega), List.drop_eq_getElem_cons h]
   unfold docLines
   by_cases hc : r[i] = 10
   ·rw [if_pos (by rw [hc]; rfl), if_pos (by omega), if_pos (by omega), if_pos (by omega), if_pos (by omega), if_pos hc, show ((from' : Int)).toNat = from' by omega, show ((i : Int)).toNat = i by omega, toB_cut,
     ih k (i + 1) (i + 1) _ (by omega) (by omega) (Nat.le_refl _) (by omega) (by simp; omega), take_none]
    simp
   ·rw [if_neg (fun e => hc ((byte10 _).1 e)), if_neg hc, ih k (i + 1) from' out (by omega) (by omega) (by omega) (by omega) (by omega), take_grow r i from' h hf]
  ·exact ih k i from' out (by omega) (by omega) hf hi ho
theorem ref_lines_eq (r : List UInt8) (hr : r.length ≤ 1024) (k : Nat) (hk : 1100 ≤ k) : causewayref20_lines.f k (toB r) = some ((docLines [] r).map toB) := by
 unfold causewayref20_lines.f
 have := lines_l0 r hr r.length k 0 0 [] (by omega) (by omega) (by omega) (by omega) (by simp)
 simpa using this
/-! #### words -/
theorem words_l0 (r : List UInt8) (hr : r.length ≤ 1024) : ∀ (n k i from' : Nat) (out : List ByteArray), r.length - i ≤ n → 2 * n + 4 < k → from' ≤ i → i ≤ r.length → out.length ≤ i →
  causewayref20_words.l0 k (toB r) out (from' : Int) (i : Int) = some (out ++ (wordsGo ((r.take i).drop from') (r.drop i)).map toB) := by
 intro n
 induction n with
 | zero =>
  intro k i from' out hn hk hf hi ho
  obtain ⟨k, rfl⟩ : ∃ j, k = j + 3 := ⟨k - 3, by omega⟩
  obtain rfl : i = r.length := by omega
  have hlast : ∀ (out' : List ByteArray), causewayref20_words.l0 (k + 1) (toB r) out' ((r.length + 1 : Nat) : Int) ((r.length + 1 : Nat) : Int) = some out' := by
   intro out'
   unfold causewayref20_words.l0
   rw [toB_size, if_neg (by omega)]
  unfold causewayref20_words.l0
  rw [toB_size, if_pos (by omega), if_pos rfl, List.drop_length]
  unfold causewayref20_words.j1
  rw [if_pos rfl, wrap_next _ (by omega), toB_size]
  by_cases h : from' < r.length
  ·rw [if_pos (by omega), if_pos (by omega), if_pos (by omega), if_pos (by omega), if_pos (by omega), hlast]
   unfold wordsGo
   rw [if_neg (take_some r _ _ (Nat.le_refl _) h), show ((from' : Int)).toNat = from' by omega, show ((r.length : Int)).toNat = r.length by omega, toB_cut]
   simp
  ·obtain rfl : from' = r.length := by omega
   rw [if_neg (by omega), take_none, hlast]
   unfold wordsGo
   simp
 | succ n ih =>
  intro k i from' out hn hk hf hi ho
  by_cases h : i < r.length
  ·obtain ⟨k, rfl⟩ : ∃ j, k = j + 2 := ⟨k - 2, by omega⟩
   unfold causewayref20_words.l0
   rw [toB_size, if_pos (by omega), if_neg (by omega), if_pos (by omega), if_pos (by omega), toB_bt r i h, List.drop_eq_getElem_cons h]
   unfold causewayref20_words.j1 wordsGo
   rw [wrap_next i (by omega), toB_size]
   by_cases hc : r[i] = 32
   ·rw [if_pos (by rw [hc]; rfl), if_pos hc]
    by_cases hw : from' < i
    ·rw [if_pos (by omega), if_pos (by omega), if_pos (by omega), if_pos (by omega), if_pos (by omega), if_neg (take_some r _ _ hi hw), show ((from' : Int)).toNat = from' by omega, show ((i : Int)).toNat = i by omega, toB_cut,
      ih k (i + 1) (i + 1) _ (by omega) (by omega) (Nat.le_refl _) (by omega) (by simp; omega), take_none]
     simp
    ·obtain rfl : from' = i := by omega
     rw [if_neg (by omega), ih k (from' + 1) (from' + 1) out (by omega) (by omega) (Nat.le_refl _) (by omega) (by omega), take_none, take_none]
     simp
   ·have hb : ((r[i].toNat : Int) == 32) = false := beq_eq_false_iff_ne.2 (fun e => hc ((byte32 _).1 e))
    rw [hb, if_neg (by simp), if_neg hc, ih k (i + 1) from' out (by omega) (by omega) (by omega) (by omega) (by omega), take_grow r i from' h hf]
  ·exact ih k i from' out (by omega) (by omega) hf hi ho
theorem ref_words_eq (r : List UInt8) (hr : r.length ≤ 1024) (k : Nat) (hk : 2100 ≤ k) : causewayref20_words.f k (toB r) = some ((wordsOf r).map toB) := by
 unfold causewayref20_words.f
 rw [words_bytes]
 have := words_l0 r hr r.length k 0 0 [] (by omega) (by omega) (by omega) (by omega) (by simp)
 simpa using this
/-! #### nodes -/
/-- What a part of the document's answers: its value and true; or some value and false. -/
def Says {α : Type} (o : Option α) (p : α × Bool) : Prop := match o with | some v => p = (v, true) | none => p.2 = false
def shiftTable : Bool := (List.range 512).all fun o => (List.range 9).all fun k =>
 (decide (Int.tmod (shr .i64 (o : Int) (k : Int)) 2 = 1) == decide (o / 2 ^ k % 2 = 1)) && (wrap64 ((o : Int) + shl .i64 1 (k : Int)) == ((o + 2 ^ k : Nat) : Int))
theorem shiftTable_true : shiftTable = true := by kernel_rfl
theorem shift_at (o k : Nat) (ho : o < 512) (hk : k ≤ 8) : (Int.tmod (shr .i64 (o : Int) (k : Int)) 2 = 1 ↔ o / 2 ^ k % 2 = 1) ∧ wrap64 ((o : Int) + shl .i64 1 (k : Int)) = ((o + 2 ^ k : Nat) : Int) := by
 have h := shiftTable_true
 unfold shiftTable at h
 have h2 := List.all_eq_true.1 (List.all_eq_true.1 h o (List.mem_range.2 ho)) k (List.mem_range.2 (by omega))
 simp only [Bool.and_eq_true, beq_iff_eq] at h2
 exact ⟨by simpa using h2.1, h2.2⟩
theorem nodes_l0 (r : List UInt8) (hr : r.length ≤ 1024) : ∀ (n k i o : Nat), r.length - i ≤ n → n < k → i ≤ r.length → o < 512 →
  ∃ p, causewayref20_nodes.l0 k (toB r) (o : Int) (i : Int) = some p ∧ Says ((nodesFrom (decide (i % 2 = 1)) o (r.drop i)).map fun v : Nat => (v : Int)) p := by
 intro n
 induction n with
 | zero =>
  intro k i o hn hk hi ho
  obtain ⟨k, rfl⟩ : ∃ j, k = j + 1 := ⟨k - 1, by omega⟩
  obtain rfl : i = r.length := by omega
  unfold causewayref20_nodes.l0
  rw [toB_size, if_neg (by omega), List.drop_length]
  refine ⟨_, rfl, ?_⟩
  unfold nodesFrom
  by_cases h : r.length % 2 = 1
  ·have h2 : ((r.length : Int) % 2) = 1 := by omega
   simp [Says, h, h2]
  ·have h2 : ¬ ((r.length : Int) % 2) = 1 := by omega
   simp [Says, h, h2]
 | succ n ih =>
  intro k i o hn hk hi ho
  by_cases h : i < r.length
  ·obtain ⟨k, rfl⟩ : ∃ j, k = j + 1 := ⟨k - 1, by omega⟩
   unfold causewayref20_nodes.l0
   rw [toB_size, if_pos (by omega), toB_bt r i h, wrap_next i (by omega), List.drop_eq_getElem_cons h]
   have hbt : r[i].toNat < 256 := UInt8.toNat_lt _
   by_cases hp : i % 2 = 1
   ·rw [if_pos (by rw [Int.tmod_eq_emod_of_nonneg (by omega)]; omega), if_pos (by omega), decide_eq_true hp, nodesFrom_odd]
    by_cases hc : r[i] = 44
    ·rw [if_pos (by rw [hc]; rfl), if_pos hc]
     have := ih k (i + 1) o (by omega) (by omega) (by omega) ho
     rw [show decide ((i + 1) % 2 = 1) = false by simp; omega] at this
     exact this
    ·rw [if_neg (fun e => hc ((byte44 _).1 e)), if_neg hc]
     exact ⟨_, rfl, rfl⟩
   ·rw [if_neg (by rw [Int.tmod_eq_emod_of_nonneg (by omega)]; omega), if_pos (by omega), decide_eq_false hp, nodesFrom_even]
    have hw : wrap64 (wrap64 (r[i].toNat : Int) - 48) = (r[i].toNat : Int) - 48 := by rw [wrapZ (n := (r[i].toNat : Int)) (by omega) (by omega), wrapZ (by omega) (by omega)]
    rw [hw]
    by_cases h1 : (r[i].toNat : Int) - 48 < 1
    ·rw [if_pos h1, if_neg (by omega)]
     exact ⟨_, rfl, rfl⟩
    ·rw [if_neg h1]
     by_cases h8 : (r[i].toNat : Int) - 48 > 8
     ·rw [if_pos h8, if_neg (by omega)]
      exact ⟨_, rfl, rfl⟩
     ·rw [if_neg h8, if_pos (by omega)]
      have e : (r[i].toNat : Int) - 48 = ((r[i].toNat - 48 : Nat) : Int) := by omega
      obtain ⟨s1, s2⟩ := shift_at o (r[i].toNat - 48) ho (by omega)
      rw [e]
      by_cases hb : o / 2 ^ (r[i].toNat - 48) % 2 = 1
      ·rw [if_pos (s1.2 hb), if_neg (fun h => h.2 hb)]
       exact ⟨_, rfl, rfl⟩
      ·rw [if_neg (fun h => hb (s1.1 h)), if_pos ⟨by omega, hb⟩, s2]
       have := ih k (i + 1) (o + 2 ^ (r[i].toNat - 48)) (by omega) (by omega) (by omega) (bit_room o _ ho (by omega) (by omega) hb)
       rw [show decide ((i + 1) % 2 = 1) = true by simp; omega] at this
       exact this
  ·exact ih k i o (by omega) (by omega) hi ho
theorem ref_nodes_eq (r : List UInt8) (hr : r.length ≤ 1024) (k : Nat) (hk : 1100 ≤ k) : ∃ p, causewayref20_nodes.f k (toB r) = some p ∧ Says (nodesOf r) p := by
 unfold causewayref20_nodes.f
 rw [nodes_doc, toB_list]
 unfold docNodes
 by_cases h : r = [42]
 ·rw [if_pos h, if_pos h]
  exact ⟨_, rfl, rfl⟩
 ·rw [if_neg h, if_neg h]
  exact nodes_l0 r hr r.length k 0 0 (by omega) (by omega) (by omega) (by omega)
/-! #### numbers -/
theorem number_l0 (r : List UInt8) (hr : r.length ≤ 5) : ∀ (n k i acc : Nat), r.length - i ≤ n → n < k → i ≤ r.length → acc < 10 ^ i →
  causewayref20_number.l0 k (toB r) (acc : Int) (i : Int) = some (match digs acc (r.drop i) with | some v => ((v : Int), decide ((v : Int) ≤ 65535)) | none => (0, false)) := by
 intro n
 induction n with
 | zero =>
  intro k i acc hn hk hi ha
  obtain ⟨k, rfl⟩ : ∃ j, k = j + 1 := ⟨k - 1, by omega⟩
  obtain rfl : i = r.length := by omega
  unfold causewayref20_number.l0
  rw [toB_size, if_neg (by omega), List.drop_length]
  rfl
 | succ n ih =>
  intro k i acc hn hk hi ha
  by_cases h : i < r.length
  ·obtain ⟨k, rfl⟩ : ∃ j, k = j + 1 := ⟨k - 1, by omega⟩
   unfold causewayref20_number.l0
   rw [toB_size, if_pos (by omega), toB_bt r i h, wrap_next i (by omega), List.drop_eq_getElem_cons h, if_pos (by omega)]
   unfold digs
   have hbt : r[i].toNat < 256 := UInt8.toNat_lt _
   have hp : 10 ^ i ≤ 10 ^ 5 := Nat.pow_le_pow_right (by decide) (by omega)
   by_cases h1 : (r[i].toNat : Int) < 48
   ·rw [if_pos h1, if_neg (by omega)]
   ·rw [if_neg h1]
    by_cases h2 : (r[i].toNat : Int) > 57
    ·rw [if_pos h2, if_neg (by omega)]
    ·rw [if_neg h2, if_pos (by omega)]
     have e : wrap64 (wrap64 ((acc : Int) * 10) + ((r[i].toNat : Int) - 48) % 256) = ((acc * 10 + (r[i].toNat - 48) : Nat) : Int) := by
      rw [wrapZ (n := (acc : Int) * 10) (by omega) (by omega), wrapZ (by omega) (by omega)]; omega
     rw [e]
     exact ih k (i + 1) _ (by omega) (by omega) (by omega) (by rw [Nat.pow_succ]; omega)
  ·exact ih k i acc (by omega) (by omega) hi ha
theorem ref_number_eq (r : List UInt8) (hr : r.length ≤ 1024) (k : Nat) (hk : 20 ≤ k) : ∃ p, causewayref20_number.f k (toB r) = some p ∧ Says (docNumber r) p := by
 obtain ⟨k, rfl⟩ : ∃ j, k = j + 1 := ⟨k - 1, by omega⟩
 unfold causewayref20_number.f docNumber
 rw [toB_list, toB_size]
 have hj : causewayref20_number.j0 (k + 1) (toB r) true = some (0, false) := by unfold causewayref20_number.j0; rfl
 by_cases h0 : r = []
 ·rw [if_pos h0, hj, if_pos (.inl h0)]
  exact ⟨_, rfl, rfl⟩
 ·rw [if_neg h0]
  by_cases h5 : (r.length : Int) > 5
  ·rw [if_pos h5, hj, if_pos (.inr (.inl (by omega)))]
   exact ⟨_, rfl, rfl⟩
  ·rw [if_neg h5]
   have go : ¬ (1 < r.length ∧ r.getD 0 0 = 48) → causewayref20_number.j0 (k + 1) (toB r) false = some (match digs 0 r with | some v => ((v : Int), decide ((v : Int) ≤ 65535)) | none => (0, false)) := by
    intro _
    rw [causewayref20_number.j0, if_neg (by simp)]
    have := number_l0 r (by omega) r.length k 0 0 (by omega) (by omega) (by omega) (by decide)
    simpa using this
   have fin : ¬ (1 < r.length ∧ r.getD 0 0 = 48) → ∃ p, causewayref20_number.j0 (k + 1) (toB r) false = some p ∧ Says (if r = [] ∨ 5 < r.length ∨ (1 < r.length ∧ r.getD 0 0 = 48) then none else match digs 0 r with | some n => if n ≤ 65535 then some (n : Int) else none | none => none) p := by
    intro hn
    refine ⟨_, go hn, ?_⟩
    rw [if_neg (by rintro (h | h | h); exact h0 h; omega; exact hn h)]
    cases digs 0 r with
    | none => rfl
    | some v =>
     by_cases hv : v ≤ 65535
     ·simp only [if_pos hv]
      show _ = _
      congr 1
      exact decide_eq_true (by omega)
     ·simp only [if_neg hv]
      exact decide_eq_false (by omega)
   by_cases h1 : (r.length : Int) > 1
   ·rw [if_pos h1, if_pos (by omega)]
    have hb : bt (toB r) 0 = ((r.getD 0 0).toNat : Int) := by
     have := toB_bt r 0 (by omega)
     rw [List.getD_eq_getElem?_getD, List.getElem?_eq_getElem (by omega)]
     exact this
    rw [hb]
    by_cases hc : r.getD 0 0 = 48
    ·rw [hc, show ((((48 : UInt8).toNat : Int)) == 48) = true from rfl, hj, if_pos (.inr (.inr ⟨by omega, rfl⟩))]
     exact ⟨_, rfl, rfl⟩
    ·rw [show (((r.getD 0 0).toNat : Int) == 48) = false from beq_eq_false_iff_ne.2 (fun e => hc ((byte48 _).1 e))]
     exact fin (fun h => hc h.2)
   ·rw [if_neg h1]
    exact fin (fun h => h1 (by omega))
/-! #### ports -/
def Says3 (o : Option (Int × Int)) (p : Int × Int × Bool) : Prop := match o with | some v => p = (v.1, v.2, true) | none => p.2.2 = false
theorem ports_l0 (r : List UInt8) (hr : r.length ≤ 1024) : ∀ (n k i : Nat), r.length - i ≤ n → n + 30 < k → i ≤ r.length →
  ∃ p, causewayref20_ports.l0 k (toB r) (i : Int) = some p ∧ Says3 (match scan (r.take i) (r.drop i) with
   | some (a, b) => (docNumber a).bind fun x => (docNumber b).bind fun y => if x ≤ y then some (x, y) else none
   | none => (docNumber r).map fun x => (x, x)) p := by
 intro n
 induction n with
 | zero =>
  intro k i hn hk hi
  obtain ⟨k, rfl⟩ : ∃ j, k = j + 1 := ⟨k - 1, by omega⟩
  obtain rfl : i = r.length := by omega
  unfold causewayref20_ports.l0
  rw [toB_size, if_neg (by omega), List.drop_length]
  obtain ⟨p, hp, hs⟩ := ref_number_eq r hr k (by omega)
  rw [hp]
  refine ⟨_, rfl, ?_⟩
  simp only [scan]
  cases hd : docNumber r with
  | none => rw [hd] at hs; exact hs
  | some v => rw [hd] at hs; obtain rfl : p = (v, true) := hs; rfl
 | succ n ih =>
  intro k i hn hk hi
  by_cases h : i < r.length
  ·obtain ⟨k, rfl⟩ : ∃ j, k = j + 1 := ⟨k - 1, by omega⟩
   unfold causewayref20_ports.l0
   rw [toB_size, if_pos (by omega), toB_bt r i h, wrap_next i (by omega), List.drop_eq_getElem_cons h, if_pos (by omega)]
   unfold scan
   by_cases hc : r[i] = 45
   ·rw [if_pos (by rw [hc]; rfl), if_pos (by omega), if_pos hc, show ((i : Int)).toNat = i by omega, show (((i + 1 : Nat) : Int)).toNat = i + 1 by omega, toB_cut, toB_cut]
    simp only [List.drop_zero, List.take_length]
    obtain ⟨p, hp, hs⟩ := ref_number_eq (r.take i) (by simp; omega) k (by omega)
    obtain ⟨q, hq, ht⟩ := ref_number_eq (r.drop (i + 1)) (by simp; omega) k (by omega)
    rw [hp, hq]
    simp only [Option.bind_some]
    rw [if_pos (by omega), if_pos (by omega)]
    obtain ⟨p1, p2⟩ := p
    obtain ⟨q1, q2⟩ := q
    cases hd : docNumber (r.take i) with
    | none =>
     rw [hd] at hs
     obtain rfl : p2 = false := hs
     exact ⟨_, rfl, rfl⟩
    | some v =>
     rw [hd] at hs
     obtain ⟨rfl, rfl⟩ := Prod.mk.inj (show (p1, p2) = (v, true) from hs)
     cases hd2 : docNumber (r.drop (i + 1)) with
     | none =>
      rw [hd2] at ht
      obtain rfl : q2 = false := ht
      exact ⟨_, rfl, rfl⟩
     | some u =>
      rw [hd2] at ht
      obtain ⟨rfl, rfl⟩ := Prod.mk.inj (show (q1, q2) = (u, true) from ht)
      refine ⟨_, rfl, ?_⟩
      simp only [Option.bind_some]
      by_cases hle : p1 ≤ q1
      ·rw [if_pos hle]
       show (p1, q1, decide (p1 ≤ q1)) = (p1, q1, true)
       rw [decide_eq_true hle]
      ·rw [if_neg hle]
       exact decide_eq_false hle
   ·rw [if_neg (fun e => hc ((byte45 _).1 e)), if_neg hc]
    have := ih k (i + 1) (by omega) (by omega) (by omega)
    rw [List.take_add_one, List.getElem?_eq_getElem h] at this
    exact this
  ·exact ih k i (by omega) (by omega) hi
theorem ref_ports_eq (r : List UInt8) (hr : r.length ≤ 1024) (k : Nat) (hk : 1100 ≤ k) : ∃ p, causewayref20_ports.f k (toB r) = some p ∧ Says3 (portsOf r) p := by
 unfold causewayref20_ports.f
 rw [ports_doc, toB_list]
 unfold docPorts
 by_cases h : r = [42]
 ·rw [if_pos h, if_pos h]
  exact ⟨_, rfl, rfl⟩
 ·rw [if_neg h, if_neg h]
  exact ports_l0 r hr r.length k 0 (by omega) (by omega) (by omega)
/-! #### a rule -/
def Says6 (o : Option (Bool × Int × Int × Int × Int)) (p : Bool × Int × Int × Int × Int × Bool) : Prop :=
 match o with | some v => p = (v.1, v.2.1, v.2.2.1, v.2.2.2.1, v.2.2.2.2, true) | none => p.2.2.2.2.2 = false
theorem rule_five_doc (a b c d p : List UInt8) (hl : ∀ z ∈ [a, b, c, d, p], z.length ≤ 1024) (k : Nat) (hk : 1200 ≤ k) :
  ∃ q, causewayref20_rule.f k ([a, b, c, d, p].map toB) = some q ∧ Says6 (ruleOf [a, b, c, d, p]) q := by
 obtain ⟨k, rfl⟩ : ∃ j, k = j + 1 := ⟨k - 1, by omega⟩
 unfold causewayref20_rule.f
 have e0 : rdOf ByteArray.empty ([a, b, c, d, p].map toB) 0 = toB a := rfl
 have e1 : rdOf ByteArray.empty ([a, b, c, d, p].map toB) 1 = toB b := rfl
 have e2 : rdOf ByteArray.empty ([a, b, c, d, p].map toB) 2 = toB c := rfl
 have e3 : rdOf ByteArray.empty ([a, b, c, d, p].map toB) 3 = toB d := rfl
 have e4 : rdOf ByteArray.empty ([a, b, c, d, p].map toB) 4 = toB p := rfl
 have el : ((([a, b, c, d, p].map toB).length : Nat) : Int) = 5 := rfl
 have hno : ∃ q, causewayref20_rule.j0 (k + 1) ([a, b, c, d, p].map toB) true = some q ∧ q.2.2.2.2.2 = false := ⟨_, by unfold causewayref20_rule.j0; rfl, rfl⟩
 have hyes : ∃ q, causewayref20_rule.j0 (k + 1) ([a, b, c, d, p].map toB) false = some q ∧
   Says6 ((nodesOf b).bind fun f => (nodesOf d).bind fun t => (portsOf p).map fun q => (a == allowB, f, t, q.1, q.2)) q := by
  obtain ⟨p1, h1, s1⟩ := ref_nodes_eq b (hl b (by simp)) k (by omega)
  obtain ⟨p2, h2, s2⟩ := ref_nodes_eq d (hl d (by simp)) k (by omega)
  obtain ⟨p3, h3, s3⟩ := ref_ports_eq p (hl p (by simp)) k (by omega)
  rw [causewayref20_rule.j0, if_neg (by simp), el, e0, e1, e3, e4, h1, h2, h3, if_pos (by omega), toB_list]
  simp only [Option.bind_some]
  rw [if_pos (by omega), if_pos (by omega), if_pos (by omega)]
  obtain ⟨x1, y1⟩ := p1
  obtain ⟨x2, y2⟩ := p2
  obtain ⟨x3, z3, y3⟩ := p3
  cases hb : nodesOf b with
  | none =>
   rw [hb] at s1
   obtain rfl : y1 = false := s1
   exact ⟨_, rfl, rfl⟩
  | some f =>
   rw [hb] at s1
   obtain ⟨rfl, rfl⟩ := Prod.mk.inj (show (x1, y1) = (f, true) from s1)
   cases hd : nodesOf d with
   | none =>
    rw [hd] at s2
    obtain rfl : y2 = false := s2
    exact ⟨_, rfl, rfl⟩
   | some t =>
    rw [hd] at s2
    obtain ⟨rfl, rfl⟩ := Prod.mk.inj (show (x2, y2) = (t, true) from s2)
    cases hp : portsOf p with
    | none =>
     rw [hp] at s3
     obtain rfl : y3 = false := s3
     exact ⟨_, rfl, rfl⟩
    | some v =>
     rw [hp] at s3
     obtain ⟨v1, v2⟩ := v
     have hs3 : (x3, z3, y3) = (v1, v2, true) := s3
     simp only [Prod.mk.injEq] at hs3
     obtain ⟨rfl, rfl, rfl⟩ := hs3
     exact ⟨_, rfl, rfl⟩
 rw [el, if_pos rfl, if_pos (by omega), e0, e2, toB_list, toB_list, ruleOf_five]
 have hfin : ∀ (hab : (a == allowB || a == denyB) = true), ∃ q, causewayref20_rule.j0 (k + 1) ([a, b, c, d, p].map toB) (c != [62]) = some q ∧
   Says6 (if ((a == allowB || a == denyB) && c == [62]) = true then (nodesOf b).bind fun f => (nodesOf d).bind fun t => (portsOf p).map fun q => (a == allowB, f, t, q.1, q.2) else none) q := by
  intro hab
  rw [hab, Bool.true_and]
  by_cases hc : c = [62]
  ·rw [hc, show ((([62] : List UInt8)) != [62]) = false from rfl, if_pos (by rfl)]
   exact hyes
  ·rw [show (c != [62]) = true by simpa using hc, if_neg (by simpa using hc)]
   exact hno
 by_cases ha : a = [97, 108, 108, 111, 119]
 ·rw [if_pos ha, if_pos (by omega)]
  exact hfin (by rw [ha]; rfl)
 ·rw [if_neg ha]
  by_cases hd : a = [100, 101, 110, 121]
  ·rw [if_pos hd, if_pos (by omega)]
   exact hfin (by rw [hd]; rfl)
  ·rw [if_neg hd]
   have : (a == allowB || a == denyB) = false := by simp [allowB, denyB, ha, hd]
   rw [this, Bool.false_and, if_neg (by simp)]
   exact hno
theorem ref_rule_eq (ws : List (List UInt8)) (hl : ∀ z ∈ ws, z.length ≤ 1024) (k : Nat) (hk : 1200 ≤ k) : ∃ q, causewayref20_rule.f k (ws.map toB) = some q ∧ Says6 (ruleOf ws) q := by
 by_cases h5 : ws.length = 5
 ·match ws, h5 with
  | [a, b, c, d, p], _ => exact rule_five_doc a b c d p hl k hk
 ·rw [ruleOf_not5 ws h5]
  obtain ⟨k, rfl⟩ : ∃ j, k = j + 1 := ⟨k - 1, by omega⟩
  unfold causewayref20_rule.f
  rw [List.length_map, if_neg (by omega)]
  unfold causewayref20_rule.j0
  exact ⟨_, rfl, rfl⟩
/-! #### all of it -/
theorem rdOf_toB (ls : List (List UInt8)) (i : Nat) : rdOf ByteArray.empty (ls.map toB) (i : Int) = toB (ls.getD i []) := by
 unfold rdOf
 rw [show ((i : Int)).toNat = i by omega]
 simp only [List.getD_eq_getElem?_getD, List.getElem?_map]
 cases ls[i]? with
 | none => rfl
 | some v => rfl
theorem docLines_le : ∀ (s cur : List UInt8) (z : List UInt8), z ∈ docLines cur s → z.length ≤ cur.length + s.length := by
 intro s
 induction s with
 | nil =>
  intro cur z hz
  unfold docLines at hz
  split at hz
  ·cases hz
  ·rw [List.mem_singleton.1 hz]; simp
 | cons c r ih =>
  intro cur z hz
  unfold docLines at hz
  split at hz
  ·rcases List.mem_cons.1 hz with rfl | h
   ·simp
   ·have := ih _ _ h; simp at this ⊢; omega
  ·have := ih _ _ hz; simp at this ⊢; omega
theorem docLines_many : ∀ (s cur : List UInt8), (docLines cur s).length ≤ s.length + 1 := by
 intro s
 induction s with
 | nil => intro cur; unfold docLines; split <;> simp
 | cons c r ih =>
  intro cur
  unfold docLines
  split
  ·have := ih []; simp; omega
  ·have := ih (cur ++ [c]); simp; omega
theorem parse_l0 (ls : List (List UInt8)) (hls : ls.length ≤ 1025) (hz : ∀ z ∈ ls, z.length ≤ 1024) : ∀ (n k i : Nat) (acc : List S135), ls.length - i ≤ n → 2 * n + 2200 < k → i ≤ ls.length → acc.length ≤ 32 →
  causewayref20_Parse.l0 k acc (ls.map toB) (i : Int) = some (linesOf (ls.drop i) acc) := by
 intro n
 induction n with
 | zero =>
  intro k i acc hn hk hi ha
  obtain ⟨k, rfl⟩ : ∃ j, k = j + 1 := ⟨k - 1, by omega⟩
  obtain rfl : i = ls.length := by omega
  unfold causewayref20_Parse.l0
  rw [List.length_map, if_neg (by omega), List.drop_length]
  rfl
 | succ n ih =>
  intro k i acc hn hk hi ha
  by_cases h : i < ls.length
  ·obtain ⟨k, rfl⟩ : ∃ j, k = j + 2 := ⟨k - 2, by omega⟩
   have hg : ls.getD i [] = ls[i] := by rw [List.getD_eq_getElem?_getD, List.getElem?_eq_getElem h]; rfl
   have hlen : ls[i].length ≤ 1024 := hz _ (List.getElem_mem h)
   have IH := fun acc' (h' : acc'.length ≤ 32) => ih k (i + 1) acc' (by omega) (by omega) (by omega) h'
   unfold causewayref20_Parse.l0
   rw [List.length_map, if_pos (by omega), if_pos (by omega), rdOf_toB, hg, ref_words_eq _ hlen (k + 1) (by omega), List.drop_eq_getElem_cons h]
   simp only [Option.bind_some, List.length_map]
   have hok : ∀ z ∈ wordsOf ls[i], z ≠ [] ∧ z.length ≤ 1024 := fun z hz => ⟨(words_ok hz).1, Nat.le_trans (words_ok hz).2 hlen⟩
   have hj : ∀ b, b = skips (wordsOf ls[i]) → causewayref20_Parse.j1 (k + 1) acc (ls.map toB) (i : Int) ((wordsOf ls[i]).map toB) b = some (linesOf (ls[i] :: ls.drop (i + 1)) acc) := by
    intro b hb
    unfold causewayref20_Parse.j1
    rw [wrap_next i (by omega)]
    cases b with
    | true => rw [if_pos rfl, lines_skip hb.symm, IH acc ha]
    | false =>
     rw [if_neg (by simp)]
     obtain ⟨q, hq, hs⟩ := ref_rule_eq (wordsOf ls[i]) (fun z hz => (hok z hz).2) k (by omega)
     rw [hq]
     simp only [Option.bind_some]
     cases hr : ruleOf (wordsOf ls[i]) with
     | none =>
      rw [hr] at hs
      have hs' : q.2.2.2.2.2 = false := hs
      rw [if_neg (by rw [hs']; simp), lines_bad hb.symm hr]
     | some v =>
      rw [hr] at hs
      obtain rfl : q = (v.1, v.2.1, v.2.2.1, v.2.2.2.1, v.2.2.2.2, true) := hs
      rw [if_pos rfl]
      by_cases h32 : acc.length = 32
      ·rw [if_pos (by omega), lines_full hb.symm hr h32]
      ·rw [if_neg (by omega), if_pos (by omega), lines_add hb.symm hr h32]
       exact IH (acc ++ [ruleS v]) (by simp; omega)
   cases hw : wordsOf ls[i] with
   | nil =>
    have := hj true (by rw [hw]; rfl)
    rw [hw] at this
    rw [if_pos (by simp)]
    exact this
   | cons z t =>
    have hz1 := hok z (by rw [hw]; simp)
    have hzl : 0 < z.length := List.length_pos_iff.2 hz1.1
    rw [if_neg (by simp; omega), if_pos (by simp)]
    have e0 : rdOf ByteArray.empty (List.map toB (z :: t)) 0 = toB z := rfl
    rw [e0, toB_size, if_pos (by omega)]
    have hb0 : bt (toB z) 0 = (z[0].toNat : Int) := toB_bt z 0 hzl
    have := hj (bt (toB z) 0 == 35) (by
     rw [hw, hb0]
     unfold skips
     simp only [List.isEmpty_cons, Bool.false_or, List.getD_cons_zero]
     rw [List.getD_eq_getElem?_getD, List.getElem?_eq_getElem hzl]
     rw [Bool.eq_iff_iff]
     simp only [beq_iff_eq, Option.getD_some]
     exact byte35 _)
    rw [hw] at this
    exact this
  ·exact ih k i acc (by omega) (by omega) hi ha
theorem ref_Parse_eq (r : List UInt8) (k : Nat) (hk : 5000 ≤ k) : causewayref20_Parse.f k (toB r) = some (parseOf r) := by
 unfold causewayref20_Parse.f
 rw [toB_size]
 by_cases h : r.length > 1024
 ·rw [if_pos (by omega)]
  unfold parseOf
  rw [if_pos h]
 ·rw [if_neg (by omega), ref_lines_eq r (by omega) k (by omega), parse_lines r (by omega)]
  simp only [Option.bind_some]
  have hm := docLines_many r []
  exact parse_l0 (docLines [] r) (by omega) (fun z hz => by have := docLines_le r [] z hz; simp at this; omega) (docLines [] r).length k 0 [] (by omega) (by omega) (by omega) (by simp)
end Go.Proofs.YthnpiimiimiijaaGreatDoor.PA
end
section
namespace Go.Proofs.YthnpiimiimiijaaGreatDoor.Dir
open Go Go.RowKit Go.Proofs Go.Proofs.YthnpiimiimiijaaGreatDoorW.PrintWords Go.Proofs.YthnpiimiimiijaaGreatDoorW.PrintLast Go.Proofs.YthnpiimiimiijaaGreatDoorW.PrintMore
set_option linter.unusedVariables false
set_option linter.unusedSimpArgs false
def ParsedR (r : Int) (e : Ending) : Prop := ∃ v0, e = .returned (.tuple #[v0, .int .i64 r])
theorem parse_ref (t : List UInt8) (w : World) : Calls Tryz.prog 69 #[.string (str t)] w fun e w' => ParsedR (rulesOf t) e ∧ Below w.heap.size w w' := by
 refine (PA.causewayref20_Parse.calls 5000 (PA.toB t) (Acl.parseOf t).1 (Acl.parseOf t).2 w (PA.ref_Parse_eq t 5000 (Nat.le_refl _))).mono ?_
 rintro e w' ⟨v0, he, -, hb⟩
 exact ⟨⟨v0, he⟩, hb⟩
end Go.Proofs.YthnpiimiimiijaaGreatDoor.Dir
end
section
namespace Go.Proofs.YthnpiimiimiijaaGreatDoor.Dir
open Go Go.RowKit Go.Proofs Go.Proofs.YthnpiimiimiijaaGreatDoorW.PrintWords Go.Proofs.YthnpiimiimiijaaGreatDoorW.PrintLast Go.Proofs.YthnpiimiimiijaaGreatDoorW.PrintMore
set_option linter.unusedVariables false
set_option linter.unusedSimpArgs false
theorem results_row_tmp {P : Program} {fn : Func} {p u : Tmp} {ty : TypeId} (h : fn.results = #[.cell p ty, .tmp u]) (tmps : Array Value) (w : World) (g : Nat) (t : TypeId) (cs : Array Value) (fr : Nat × Nat) (d : TypeDesc)
  (hp : tmps.getD p undef = .pointer (some ⟨g, 0, none⟩)) (hg : w.heap[g]? = some (.cells cs t fr))
  (hu : P.underlying ty = some d) (hd : (match d with | .struct _ | .array _ _ => true | _ => false) = true) (hi : (P.info? ty).map (·.size) = some cs.size) :
  (results fn tmps).run P w = .ok (.tuple #[.agg cs, tmps.getD u undef]) w := by
 rw [results_cell_tmp h, hp]
 simp [asAddr, run_loadVar_row w g t ty cs fr d hg hu hd hi, Result.andThen]
theorem SrcAt.setRow {w : World} {A : Option Addr} {n size : Nat} {xs : List Value} (h : SrcAt w A n size xs) {g : Nat} (hg : ∀ a, A = some a → a.block ≠ g) (cs : Array Value) : SrcAt (w.setRow g cs) A n size xs :=
 ⟨h.1, h.2.1, fun a ha j u hj => by
  rw [cell_setRow_other w g cs _ (by have e : (a.add j).block = a.block := (by unfold Addr.add; split <;> rfl); rw [e]; exact hg a ha)]
  exact h.2.2 a ha j u hj⟩
theorem room_at {W0 W : World} {r : Nat} {o : Obj} (h : W0.heap[r]? = some o) (hb : Below W0.heap.size W0 W) : W.heap[r]? = some o := (hb.block _ (Array.getElem?_eq_some_iff.1 h).1).trans h
end Go.Proofs.YthnpiimiimiijaaGreatDoor.Dir
end
section
namespace Go.Proofs.YthnpiimiimiijaaGreatDoor.Dir
open Go Go.RowKit Go.Proofs Go.Proofs.YthnpiimiimiijaaGreatDoorW.PrintWords Go.Proofs.YthnpiimiimiijaaGreatDoorW.PrintLast Go.Proofs.YthnpiimiimiijaaGreatDoorW.PrintMore
set_option linter.unusedVariables false
set_option linter.unusedSimpArgs false
end Go.Proofs.YthnpiimiimiijaaGreatDoor.Dir
end
section
namespace Go.Proofs.YthnpiimiimiijaaGreatDoor.Dir
open Go Go.RowKit Go.Proofs Go.Proofs.YthnpiimiimiijaaGreatDoorW.PrintWords Go.Proofs.YthnpiimiimiijaaGreatDoorW.PrintLast Go.Proofs.YthnpiimiimiijaaGreatDoorW.PrintMore
set_option linter.unusedVariables false
set_option linter.unusedSimpArgs false
end Go.Proofs.YthnpiimiimiijaaGreatDoor.Dir
end
section
namespace Go.Proofs.YthnpiimiimiijaaGreatDoor.Dir
open Go Go.RowKit Go.Proofs Go.Proofs.YthnpiimiimiijaaGreatDoorW.PrintWords Go.Proofs.YthnpiimiimiijaaGreatDoorW.PrintLast Go.Proofs.YthnpiimiimiijaaGreatDoorW.PrintMore
set_option linter.unusedVariables false
set_option linter.unusedSimpArgs false
end Go.Proofs.YthnpiimiimiijaaGreatDoor.Dir
end
section
namespace Go.Proofs.YthnpiimiimiijaaGreatDoorW.PrintLast
section
variable {P : Program} {md : Region.Mode} {ops : Array Oper} {Q : Exit → Act → World → Prop} {S : World → Prop} {ds : List Nat}
theorem two_ {i j : Nat} {Ni Nj : Option Tmp} {oi oj : Oper} {fuel : Nat} {l : Array Bool} {a : Act} {w : World} (li lj : Array Bool) (hi : ops[i]? = some oi) (hj : ops[j]? = some oj) (hNi : oi.dst = Ni) (hNj : oj.dst = Nj)
  (hc : (Region.ready md ops l == [i, j] && l.setIfInBounds i true == li && l.setIfInBounds j true == lj) = true) (hdi : i ∉ ds) (hdj : j ∉ ds)
  (h1 : ∀ K : Act → World → Prop, Shut (∀ a' w', S w' → (S w' → wpAnyLast P md ops Q S ds fuel li a' w') → K a' w') → if Region.wanted oi (yielded ops a.tmps) = true then Oper.wp P oi a w K Q else K (a.put Ni undef) w)
  (h2 : ∀ K : Act → World → Prop, Shut (∀ a' w', S w' → (S w' → wpAnyLast P md ops Q S ds fuel lj a' w') → K a' w') → if Region.wanted oj (yielded ops a.tmps) = true then Oper.wp P oj a w K Q else K (a.put Nj undef) w) :
  wpAnyLast P md ops Q S ds (fuel + 1) l a w := by
 subst hNi
 subst hNj
 simp only [Bool.and_eq_true, beq_iff_eq] at hc
 obtain ⟨⟨h3, h4⟩, h5⟩ := hc
 subst h4
 subst h5
 exact wpAnyLast_ready h3 (by simp) (AllReadyL.cons hi hdi (fun K hK => h1 K hK) (AllReadyL.cons hj hdj (fun K hK => h2 K hK) AllReadyL.nil))
def putAll : Act → List (Tmp × Value) → Act
 | a, [] => a
 | a, (n, v) :: r => putAll (a.put (some n) v) r
theorem join_ {σ : Type} {fuel : Nat} {l : Array Bool} {a : Act} {w : World} (fuel' : Nat) (l' : Array Bool) (ns : σ → List (Tmp × Value)) (F : σ → World → Prop)
  (hcont : ∀ s w', F s w' → wpAnyLast P md ops Q S ds fuel' l' (putAll a (ns s)) w')
  (h : (∀ s w', F s w' → wpAnyLast P md ops Q S ds fuel' l' (putAll a (ns s)) w') → wpAnyLast P md ops Q S ds fuel l a w) : wpAnyLast P md ops Q S ds fuel l a w := h hcont
end
end Go.Proofs.YthnpiimiimiijaaGreatDoorW.PrintLast
namespace Go.Proofs.YthnpiimiimiijaaGreatDoor.Dir
open Go Go.RowKit Go.Proofs Go.Proofs.YthnpiimiimiijaaGreatDoorW.PrintWords Go.Proofs.YthnpiimiimiijaaGreatDoorW.PrintLast Go.Proofs.YthnpiimiimiijaaGreatDoorW.PrintMore
set_option linter.unusedVariables false
set_option linter.unusedSimpArgs false
/-- The document's directory in the block r. -/
structure RDirIs (W : World) (r : Nat) (B : Book) (A1 : Option Addr) (c1 : Nat) (A2 : Option Addr) (c2 : Nat) : Prop where
 box : W.heap[r]? = some (.cells (bookCells B A1 c1 A2 c2).toArray 63 (0, 0))
 src : SrcB W B A1 A2
 t1 : TyA W A1 46
 t2 : TyA W A2 34
def RDir (W : World) (r : Nat) (B : Book) : Prop := ∃ A1 c1 A2 c2, RDirIs W r B A1 c1 A2 c2
section
variable {W W' : World} {r : Nat} {B : Book} {A1 : Option Addr} {c1 : Nat} {A2 : Option Addr} {c2 : Nat}
theorem RDirIs.below (h : RDirIs W r B A1 c1 A2 c2) (hb : Below W.heap.size W W') : RDirIs W' r B A1 c1 A2 c2 := ⟨room_at h.box hb, h.src.later hb, h.t1.below hb, h.t2.below hb⟩
theorem RDir.below (h : RDir W r B) (hb : Below W.heap.size W W') : RDir W' r B := by
 obtain ⟨A1, c1, A2, c2, h⟩ := h
 exact ⟨A1, c1, A2, c2, h.below hb⟩
theorem SrcAt.other {A : Option Addr} {n size : Nat} {xs : List Value} (h : SrcAt W A n size xs) {g : Nat} (hg : W.grownBy W' (some g)) (hne : ∀ a, A = some a → a.block ≠ g) : SrcAt W' A n size xs :=
 ⟨h.1, h.2.1, fun a ha j u hj => by
  have hc := h.2.2 a ha j u hj
  have hl := World.block_lt_of_cell? W _ hc
  have e : (a.add j).block = a.block := by unfold Addr.add; split <;> rfl
  have hb := hg.block (a.add j).block hl (fun h2 => hne a ha (by rw [e] at h2; exact Option.some.inj h2))
  unfold World.cell? at hc ⊢
  rw [hb]; exact hc⟩
theorem TyA.ne {A : Option Addr} {T T' : TypeId} (h : TyA W A T) {g : Nat} {cs : Array Value} {fr : Nat × Nat} (hg : W.heap[g]? = some (.cells cs T' fr)) (hne : T ≠ T') : ∀ a, A = some a → a.block ≠ g := fun a ha e => by
 obtain ⟨cs', fr', hq⟩ := h a ha
 rw [e, hg] at hq
 cases hq
 exact hne rfl
theorem TyA.other {A : Option Addr} {T : TypeId} (h : TyA W A T) {g : Nat} (hg : W.grownBy W' (some g)) (hne : ∀ a, A = some a → a.block ≠ g) : TyA W' A T := fun a ha => by
 obtain ⟨cs', fr', hq⟩ := h a ha
 exact ⟨cs', fr', (hg.block _ (Array.getElem?_eq_some_iff.1 hq).1 (fun e => hne a ha (Option.some.inj e))).trans hq⟩
/-- A directory of the document's beside another block that is written. -/
theorem RDirIs.other (h : RDirIs W r B A1 c1 A2 c2) {g : Nat} {cs : Array Value} {T : TypeId} {fr : Nat × Nat} (hq : W.heap[g]? = some (.cells cs T fr)) (h1 : T ≠ 46) (h2 : T ≠ 34) (h3 : r ≠ g) (hg : W.grownBy W' (some g)) : RDirIs W' r B A1 c1 A2 c2 := by
 have n1 := h.t1.ne hq (fun e => h1 e.symm)
 have n2 := h.t2.ne hq (fun e => h2 e.symm)
 exact ⟨(hg.block _ (Array.getElem?_eq_some_iff.1 h.box).1 (fun e => h3 (Option.some.inj e))).trans h.box, ⟨h.src.devs.other hg n1, h.src.spent.other hg n2, h.src.few, h.src.len⟩, h.t1.other hg n1, h.t2.other hg n2⟩
theorem RDir.other (h : RDir W r B) {g : Nat} {cs : Array Value} {T : TypeId} {fr : Nat × Nat} (hq : W.heap[g]? = some (.cells cs T fr)) (h1 : T ≠ 46) (h2 : T ≠ 34) (h3 : r ≠ g) (hg : W.grownBy W' (some g)) : RDir W' r B := by
 obtain ⟨A1, c1, A2, c2, h⟩ := h
 exact ⟨A1, c1, A2, c2, h.other hq h1 h2 h3 hg⟩
end
theorem NewA.ty {n : Nat} {W W' : World} {T : TypeId} {A A' : Option Addr} (h : NewA n W' T A A') (h0 : TyA W A T) (hb : Below W.heap.size W W') : TyA W' A' T := by
 rcases h with e | h
 ·rw [e]; exact h0.below hb
 ·exact h.ty
end Go.Proofs.YthnpiimiimiijaaGreatDoor.Dir
end
section
namespace Go.Proofs.YthnpiimiimiijaaGreatDoor.Dir
open Go Go.RowKit Go.Proofs Go.Proofs.YthnpiimiimiijaaGreatDoorW.PrintWords Go.Proofs.YthnpiimiimiijaaGreatDoorW.PrintLast Go.Proofs.YthnpiimiimiijaaGreatDoorW.PrintMore
set_option linter.unusedVariables false
set_option linter.unusedSimpArgs false
end Go.Proofs.YthnpiimiimiijaaGreatDoor.Dir
end
