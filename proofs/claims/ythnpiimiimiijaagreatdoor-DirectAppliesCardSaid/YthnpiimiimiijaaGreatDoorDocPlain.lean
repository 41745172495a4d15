/- The document's way of reading a rule's words, in plain Lean, and that the program's way comes to the same. -/
import Derived.Test.YthnpiimiimiijaaGreatDoorDocWords
import Derived.Lib.IndexMore
import Derived.Lib.AtoiAllCases
import Derived.Lib.ItoaMem
namespace Go.Proofs.YthnpiimiimiijaaGreatDoor.Acl
open Go.Lib Go.RowKit Go.Proofs.YthnpiimiimiijaaGreatDoor.PA Go.Proofs.YthnpiimiimiijaaGreatDoorW.PrintWords Go.Proofs.YthnpiimiimiijaaGreatDoorW.PrintLast Go.Proofs.YthnpiimiimiijaaGreatDoorW.PrintMore
/-! #### numbers -/
/-- The number that digits spell behind acc. -/
def digs (acc : Nat) : List UInt8 → Option Nat
 | [] => some acc
 | c :: r => if 48 ≤ c.toNat ∧ c.toNat ≤ 57 then digs (acc * 10 + (c.toNat - 48)) r else none
def docNumber (s : List UInt8) : Option Int :=
 if s = [] ∨ 5 < s.length ∨ (1 < s.length ∧ s.getD 0 0 = 48) then none else
 match digs 0 s with
 | some n => if n ≤ 65535 then some (n : Int) else none
 | none => none
theorem digs_append : ∀ (l : List UInt8) (acc : Nat) (c : UInt8), digs acc (l ++ [c]) = (digs acc l).bind fun n => if 48 ≤ c.toNat ∧ c.toNat ≤ 57 then some (n * 10 + (c.toNat - 48)) else none := by
 intro l
 induction l with
 | nil => intro acc c; simp [digs]
 | cons d l ih =>
  intro acc c
  simp only [List.cons_append, digs]
  split
  ·exact ih _ c
  ·rfl
theorem digs_mono : ∀ (l : List UInt8) (acc n : Nat), digs acc l = some n → acc ≤ n := by
 intro l
 induction l with
 | nil => intro acc n h; cases h; exact Nat.le_refl _
 | cons c l ih =>
  intro acc n h
  simp only [digs] at h
  split at h
  ·have := ih _ _ h; omega
  ·cases h
theorem byte_digit {d : Nat} (h : d < 10) : (UInt8.ofNat (48 + d)).toNat = 48 + d := by
 show (48 + d) % 256 = 48 + d
 omega
theorem digs_dec (u : Nat) : digs 0 (decDigits u) = some u := by
 induction u using Nat.strongRecOn with
 | _ u ih =>
  by_cases h : u < 10
  ·rw [decDigits, dif_pos h]
   simp only [digs, byte_digit h]
   rw [if_pos (by omega)]
   congr 1; omega
  ·rw [decDigits, dif_neg h, digs_append, ih (u / 10) (by omega)]
   simp only [Option.bind_some, byte_digit (show u % 10 < 10 by omega)]
   rw [if_pos (by omega)]
   congr 1; omega
theorem dec_ne (u : Nat) : decDigits u ≠ [] := fun e => by
 have h := decDigits_length u
 have := nDigits_pos u
 rw [e] at h; simp at h; omega
theorem dec_head (u : Nat) (h1 : 1 ≤ u) : (decDigits u).getD 0 0 ≠ 48 := by
 induction u using Nat.strongRecOn with
 | _ u ih =>
  by_cases h : u < 10
  ·rw [decDigits, dif_pos h]
   intro e
   have := congrArg UInt8.toNat e
   simp only [List.getD_cons_zero, byte_digit h] at this
   have h48 : (48 : UInt8).toNat = 48 := rfl
   omega
  ·rw [decDigits, dif_neg h]
   have hi := ih (u / 10) (by omega) (by omega)
   have hn := dec_ne (u / 10)
   cases hd : decDigits (u / 10) with
   | nil => exact absurd hd hn
   | cons a t => rw [hd] at hi; simpa using hi
theorem nDigits_le : ∀ (k u : Nat), u < 10 ^ (k + 1) → nDigits u ≤ k + 1 := by
 intro k
 induction k with
 | zero => intro u h; rw [nDigits_small (by simpa using h)]; exact Nat.le_refl _
 | succ k ih =>
  intro u h
  by_cases h10 : u < 10
  ·rw [nDigits_small h10]; omega
  ·rw [nDigits_big h10]
   have := ih (u / 10) (by rw [Nat.pow_succ] at h; omega)
   omega
theorem dec_of_digs : ∀ (k : Nat) (l : List UInt8) (n : Nat), l.length ≤ k → l ≠ [] → (1 < l.length → l.getD 0 0 ≠ 48) → digs 0 l = some n → decDigits n = l := by
 intro k
 induction k with
 | zero => intro l n hk hl; exact absurd (List.eq_nil_of_length_eq_zero (by omega)) hl
 | succ k ih =>
  intro l n hk hl hh hd
  obtain ⟨m, c, rfl⟩ : ∃ m c, l = m ++ [c] := ⟨l.dropLast, l.getLast hl, (List.dropLast_concat_getLast hl).symm⟩
  rw [digs_append] at hd
  cases hm : digs 0 m with
  | none => rw [hm] at hd; cases hd
  | some n' =>
   rw [hm] at hd
   simp only [Option.bind_some] at hd
   split at hd
   ·rename_i hc
    obtain rfl := Option.some.inj hd
    by_cases he : m = []
    ·subst he
     obtain rfl : 0 = n' := Option.some.inj hm
     rw [decDigits, dif_pos (by omega)]
     simp only [List.nil_append]
     congr 1
     apply UInt8.toNat_inj.1
     rw [byte_digit (by omega)]; omega
    ·have hml : 0 < m.length := List.length_pos_iff.2 he
     have hhead : m.getD 0 0 ≠ 48 := by
      have := hh (by simp; omega)
      cases m with
      | nil => exact absurd rfl he
      | cons a t => simpa using this
     have e := ih m n' (by simp at hk; omega) he (fun _ => hhead) hm
     have hn' : 1 ≤ n' := by
      rcases Nat.eq_zero_or_pos n' with h0 | h0
      ·subst h0
       rw [← e] at hhead
       exact absurd (by rw [decDigits, dif_pos (by decide)]; rfl) hhead
      ·exact h0
     rw [decDigits, dif_neg (by omega), show (n' * 10 + (c.toNat - 48)) / 10 = n' by omega, e]
     congr 2
     apply UInt8.toNat_inj.1
     rw [byte_digit (by omega)]; omega
   ·cases hd
theorem parse_digs : ∀ (l : List UInt8) (acc n : Nat), digs acc l = some n → n ≤ 65535 → parseUint10 acc l = .ok n := by
 intro l
 induction l with
 | nil => intro acc n h _; cases h; rfl
 | cons c l ih =>
  intro acc n h hn
  have h' := h
  simp only [digs] at h
  split at h
  ·rename_i hc
   have hm := digs_mono _ _ _ h
   have ha := digs_mono _ _ _ h'
   unfold parseUint10
   rw [if_pos hc, if_neg (by omega), if_neg (by omega)]
   exact ih _ _ h hn
  ·cases h
theorem atoi_digs {s : List UInt8} {n : Nat} (hs : s ≠ []) (h : digs 0 s = some n) (hn : n ≤ 65535) : atoiAll s = .ok (n : Int) := by
 have hp := parse_digs s 0 n h hn
 cases s with
 | nil => exact absurd rfl hs
 | cons c r =>
  have hc : 48 ≤ c.toNat ∧ c.toNat ≤ 57 := by
   simp only [digs] at h
   split at h
   ·assumption
   ·cases h
  rw [atoiAll_plain c r (by omega) (by omega)]
  unfold parseMag
  rw [if_neg (by simp), hp]
  unfold signless
  simp only
  rw [if_neg (by omega)]
theorem port_doc (s : List UInt8) : portOf s = docNumber s := by
 have fwd : ∀ v, portOf s = some v → docNumber s = some v := by
  intro v h
  have hr := portOf_range h
  unfold portOf at h
  cases hq : atoiAll s with
  | ok w =>
   rw [hq] at h
   simp only at h
   split at h
   ·rename_i hc
    obtain rfl := Option.some.inj h
    obtain ⟨u, rfl⟩ : ∃ u : Nat, w = u := ⟨w.toNat, by omega⟩
    have hs := hc.2.2
    rw [itoa_nonneg] at hs
    subst hs
    unfold docNumber
    rw [digs_dec, if_neg]
    ·simp only; rw [if_pos (by omega)]
    ·rintro (h1 | h1 | ⟨h1, h2⟩)
     ·exact dec_ne u h1
     ·rw [decDigits_length] at h1
      have := nDigits_le 4 u (by omega)
      omega
     ·rcases Nat.eq_zero_or_pos u with h0 | h0
      ·subst h0; rw [decDigits_length, nDigits_small (by decide)] at h1; omega
      ·exact dec_head u h0 h2
   ·cases h
  | range => rw [hq] at h; cases h
  | _ => rw [hq] at h; cases h
 cases hd : docNumber s with
 | none =>
  cases hp : portOf s with
  | none => rfl
  | some v => rw [fwd v hp] at hd; cases hd
 | some v =>
  unfold docNumber at hd
  split at hd
  ·cases hd
  ·rename_i hc
   have h1 : s ≠ [] := fun e => hc (.inl e)
   have h2 : 1 < s.length → s.getD 0 0 ≠ 48 := fun a b => hc (.inr (.inr ⟨a, b⟩))
   cases hg : digs 0 s with
   | none => rw [hg] at hd; cases hd
   | some n =>
    rw [hg] at hd
    simp only at hd
    split at hd
    ·rename_i hn
     obtain rfl := Option.some.inj hd
     unfold portOf
     rw [atoi_digs h1 hg hn]
     simp only
     rw [if_pos ⟨by omega, by omega, by rw [itoa_nonneg]; exact dec_of_digs _ s n (Nat.le_refl _) h1 h2 hg⟩]
    ·cases hd
/-! #### ports -/
/-- What stands ahead of the first '-' and behind it. -/
def scan (pre : List UInt8) : List UInt8 → Option (List UInt8 × List UInt8)
 | [] => none
 | c :: r => if c = 45 then some (pre, r) else scan (pre ++ [c]) r
def docPorts (s : List UInt8) : Option (Int × Int) :=
 if s = [42] then some (0, 65535) else
 match scan [] s with
 | some (a, b) => (docNumber a).bind fun x => (docNumber b).bind fun y => if x ≤ y then some (x, y) else none
 | none => (docNumber s).map fun x => (x, x)
theorem scan_index : ∀ (s pre : List UInt8), scan pre s = if 0 ≤ index s [45] then some (pre ++ s.take (index s [45]).toNat, s.drop ((index s [45]).toNat + 1)) else none := by
 intro s
 induction s with
 | nil => intro pre; rfl
 | cons c r ih =>
  intro pre
  unfold scan index
  by_cases hc : c = 45
  ·subst hc
   rw [if_pos rfl]
   simp [List.isPrefixOf]
  ·have h0 : ([45] : List UInt8).isPrefixOf (c :: r) = false := by
    simp only [List.isPrefixOf, Bool.and_true, beq_eq_false_iff_ne]
    exact fun e => hc e.symm
   rw [if_neg hc, ih (pre ++ [c]), h0]
   rcases index_spec r [45] with ⟨h1, _⟩ | ⟨i, h1, _⟩
   ·rw [h1]; simp
   ·rw [h1]
    have e1 : ((i : Int) == -1) = false := by rw [beq_eq_false_iff_ne]; omega
    have e2 : ((i : Int) + 1).toNat = i + 1 := by omega
    simp only [e1]
    simp [e2]
    omega
theorem ports_doc (s : List UInt8) : portsOf s = docPorts s := by
 unfold portsOf docPorts
 by_cases h : s = [42]
 ·rw [if_pos h, if_pos h]
 ·rw [if_neg h, if_neg h, scan_index, port_doc, port_doc]
  unfold cut
  by_cases hi : 0 ≤ index s [45]
  ·simp only [if_pos hi, List.nil_append, if_true, List.length_singleton]
   cases docNumber (s.take (index s [45]).toNat) with
   | none => rfl
   | some a => cases docNumber (s.drop ((index s [45]).toNat + 1)) with
    | none => rfl
    | some b => rfl
  ·simp only [if_neg hi, Bool.false_eq_true, if_false]
   cases docNumber s with
   | none => rfl
   | some a => rfl
/-! #### nodes -/
def nodesFrom (odd : Bool) (out : Nat) : List UInt8 → Option Nat
 | [] => if odd = true then some out else none
 | c :: r => if odd = true then (if c = 44 then nodesFrom false out r else none)
  else if (49 ≤ c.toNat ∧ c.toNat ≤ 56) ∧ out / 2 ^ (c.toNat - 48) % 2 ≠ 1 then nodesFrom true (out + 2 ^ (c.toNat - 48)) r else none
def docNodes (s : List UInt8) : Option Int := if s = [42] then some 510 else (nodesFrom false 0 s).map fun n : Nat => (n : Int)
theorem nodesFrom_cons (odd : Bool) (out : Nat) (c : UInt8) (r : List UInt8) : nodesFrom odd out (c :: r) = if odd = true then (if c = 44 then nodesFrom false out r else none)
  else if (49 ≤ c.toNat ∧ c.toNat ≤ 56) ∧ out / 2 ^ (c.toNat - 48) % 2 ≠ 1 then nodesFrom true (out + 2 ^ (c.toNat - 48)) r else none := rfl
theorem nodesFrom_even (out : Nat) (c : UInt8) (r : List UInt8) : nodesFrom false out (c :: r) = if (49 ≤ c.toNat ∧ c.toNat ≤ 56) ∧ out / 2 ^ (c.toNat - 48) % 2 ≠ 1 then nodesFrom true (out + 2 ^ (c.toNat - 48)) r else none := by
 rw [nodesFrom_cons, if_neg (by simp)]
theorem nodesFrom_odd (out : Nat) (c : UInt8) (r : List UInt8) : nodesFrom true out (c :: r) = if c = 44 then nodesFrom false out r else none := by
 rw [nodesFrom_cons, if_pos rfl]
theorem bitsOf_cons (d : UInt8) (r : List (List UInt8)) (out : Int) (k : Nat) (h : digitOf [d] = some k) : bitsOf ([d] :: r) out =
  if Go.bits .and .i64 out (wrap64 (2 ^ k)) = 0 then bitsOf r (Go.bits .or .i64 out (wrap64 (2 ^ k))) else none := by rw [bitsOf, h]
theorem bitsOf_none (p : List UInt8) (r : List (List UInt8)) (out : Int) (h : digitOf p = none) : bitsOf (p :: r) out = none := by rw [bitsOf, h]
theorem digitOf_one (d : UInt8) : digitOf [d] = if 49 ≤ d.toNat ∧ d.toNat ≤ 56 then some (d.toNat - 48) else none := rfl
def bitTable : Bool := (List.range 512).all fun o => (List.range 9).all fun k => k == 0 ||
 (if o / 2 ^ k % 2 = 1 then Go.bits .and .i64 (o : Int) (wrap64 (2 ^ k)) != 0
  else Go.bits .and .i64 (o : Int) (wrap64 (2 ^ k)) == 0 && Go.bits .or .i64 (o : Int) (wrap64 (2 ^ k)) == ((o + 2 ^ k : Nat) : Int) && decide (o + 2 ^ k < 512))
theorem bitTable_true : bitTable = true := by kernel_rfl
theorem bit_at (o k : Nat) (ho : o < 512) (h1 : 1 ≤ k) (h8 : k ≤ 8) :
  (if o / 2 ^ k % 2 = 1 then Go.bits .and .i64 (o : Int) (wrap64 (2 ^ k)) != 0
   else Go.bits .and .i64 (o : Int) (wrap64 (2 ^ k)) == 0 && Go.bits .or .i64 (o : Int) (wrap64 (2 ^ k)) == ((o + 2 ^ k : Nat) : Int) && decide (o + 2 ^ k < 512)) = true := by
 have h := bitTable_true
 unfold bitTable at h
 have h2 := List.all_eq_true.1 (List.all_eq_true.1 h o (List.mem_range.2 ho)) k (List.mem_range.2 (by omega))
 simp only [Bool.or_eq_true] at h2
 rcases h2 with h2 | h2
 ·have : k = 0 := by simpa using h2
  omega
 ·exact h2
theorem bits_cons (d : UInt8) (r : List (List UInt8)) (o : Nat) (ho : o < 512) :
  bitsOf ([d] :: r) (o : Int) = if (49 ≤ d.toNat ∧ d.toNat ≤ 56) ∧ o / 2 ^ (d.toNat - 48) % 2 ≠ 1 then bitsOf r ((o + 2 ^ (d.toNat - 48) : Nat) : Int) else none := by
 by_cases hd : 49 ≤ d.toNat ∧ d.toNat ≤ 56
 ·rw [bitsOf_cons d r o (d.toNat - 48) (by rw [digitOf_one, if_pos hd])]
  have hb := bit_at o (d.toNat - 48) ho (by omega) (by omega)
  by_cases h1 : o / 2 ^ (d.toNat - 48) % 2 = 1
  ·rw [if_pos h1] at hb
   rw [if_neg (by simpa using hb), if_neg (fun h => h.2 h1)]
  ·rw [if_neg h1] at hb
   simp only [Bool.and_eq_true, beq_iff_eq, decide_eq_true_eq] at hb
   rw [if_pos hb.1.1, if_pos ⟨hd, h1⟩, hb.1.2]
 ·rw [bitsOf_none _ _ _ (by rw [digitOf_one, if_neg hd]), if_neg (fun h => hd h.1)]
theorem bit_room (o k : Nat) (ho : o < 512) (h1 : 1 ≤ k) (h8 : k ≤ 8) (h : o / 2 ^ k % 2 ≠ 1) : o + 2 ^ k < 512 := by
 have hb := bit_at o k ho h1 h8
 rw [if_neg h] at hb
 simp only [Bool.and_eq_true, decide_eq_true_eq] at hb
 exact hb.2
theorem bits_nodes : ∀ (n : Nat) (s : List UInt8) (o : Nat), s.length ≤ n → o < 512 → bitsOf (splitB 44 s) (o : Int) = (nodesFrom false o s).map fun n : Nat => (n : Int) := by
 intro n
 induction n using Nat.strongRecOn with
 | _ n ih =>
  intro s o hn ho
  match s, hn with
  | [], _ => rfl
  | [d], _ =>
   by_cases h44 : d = 44
   ·subst h44; rfl
   ·have e : splitB 44 [d] = [[d]] := by simp [splitB, h44]
    rw [e, bits_cons d [] o ho]
    rw [nodesFrom_even]
    split <;> rfl
  | d :: x :: r, hn =>
   by_cases h44 : d = 44
   ·subst h44
    have e : splitB 44 (44 :: x :: r) = [] :: splitB 44 (x :: r) := by rw [splitB, if_pos rfl]
    rw [e]
    rfl
   ·by_cases hx : x = 44
    ·subst hx
     have e : splitB 44 (d :: 44 :: r) = [d] :: splitB 44 r := by rw [splitB, if_neg h44, splitB, if_pos rfl]; rfl
     rw [e, bits_cons d _ o ho]
     rw [nodesFrom_even]
     split
     ·rename_i hc
      rw [nodesFrom_odd, if_pos rfl]
      exact ih (n - 2) (by simp at hn; omega) r _ (by simp at hn; omega) (bit_room o _ ho (by omega) (by omega) hc.2)
     ·rfl
    ·have e : ∃ y t, splitB 44 (d :: x :: r) = (d :: x :: y) :: t := by
      rw [splitB, if_neg h44, splitB, if_neg hx]
      exact ⟨_, _, rfl⟩
     obtain ⟨y, t, e⟩ := e
     rw [e]
     have e2 : bitsOf ((d :: x :: y) :: t) (o : Int) = none := rfl
     rw [e2, nodesFrom_even]
     split
     ·rw [nodesFrom_odd, if_neg hx]; rfl
     ·rfl
theorem nodes_doc (s : List UInt8) : nodesOf s = docNodes s := by
 unfold nodesOf docNodes
 split
 ·rfl
 ·exact bits_nodes _ s 0 (Nat.le_refl _) (by decide)
/-! #### lines -/
def docLines (cur : List UInt8) : List UInt8 → List (List UInt8)
 | [] => if cur = [] then [] else [cur]
 | c :: r => if c = 10 then cur :: docLines [] r else docLines (cur ++ [c]) r
theorem words_none : wordsOf [] = [] := by rw [words_bytes]; rfl
theorem lines_cons (l : List UInt8) (a b : List (List UInt8)) (h : ∀ acc, linesOf a acc = linesOf b acc) (acc : List S135) : linesOf (l :: a) acc = linesOf (l :: b) acc := by
 unfold linesOf
 split
 ·exact h acc
 ·split
  ·rfl
  ·split
   ·rfl
   ·exact h _
theorem lines_doc : ∀ (s cur : List UInt8) (acc : List S135), linesOf ((cur ++ (splitB 10 s).headD []) :: (splitB 10 s).tail) acc = linesOf (docLines cur s) acc := by
 intro s
 induction s with
 | nil =>
  intro cur acc
  unfold docLines splitB
  by_cases h : cur = []
  ·subst h
   rw [if_pos rfl]
   show linesOf [[]] acc = linesOf [] acc
   exact lines_skip (by rw [words_none]; rfl)
  ·rw [if_neg h]; simp
 | cons c r ih =>
  intro cur acc
  unfold docLines splitB
  by_cases h : c = 10
  ·rw [if_pos h, if_pos h]
   simp only [List.headD_cons, List.tail_cons, List.append_nil]
   refine lines_cons _ _ _ (fun acc => ?_) acc
   have e := ih [] acc
   rw [List.nil_append] at e
   rw [← e]
   congr 1
   have hne := splitB_ne 10 r
   cases hs : splitB 10 r with
   | nil => exact absurd hs hne
   | cons a t => rfl
  ·rw [if_neg h, if_neg h]
   have e := ih (cur ++ [c]) acc
   rw [← e]
   simp
theorem parse_lines (s : List UInt8) (hs : s.length ≤ 1024) : parseOf s = linesOf (docLines [] s) [] := by
 unfold parseOf
 rw [if_neg (by omega), ← lines_doc s [] []]
 congr 1
 have hne := splitB_ne 10 s
 cases h : splitB 10 s with
 | nil => exact absurd h hne
 | cons a t => rfl
end Go.Proofs.YthnpiimiimiijaaGreatDoor.Acl
