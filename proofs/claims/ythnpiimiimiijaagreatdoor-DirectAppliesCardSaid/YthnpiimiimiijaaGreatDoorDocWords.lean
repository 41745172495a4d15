/- The words of a line, byte by byte: strings.FieldsFunc at the byte 32 alone. -/
import Derived.Test.YthnpiimiimiijaaGreatDoorAclParse
import Derived.Lib.MapLaws
namespace Go.Proofs.YthnpiimiimiijaaGreatDoor.Acl
open Go.Lib
/-- The words of a line: cur is the word begun. -/
def wordsGo (cur : List UInt8) : List UInt8 → List (List UInt8)
 | [] => if cur = [] then [] else [cur]
 | c :: r => if c = 32 then (if cur = [] then [] else [cur]) ++ wordsGo [] r else wordsGo (cur ++ [c]) r
def endAt (acc : List (Nat × Nat)) (st : Option Nat) (pos : Nat) : List (Nat × Nat) := match st with | some a => acc ++ [(a, pos)] | none => acc
def byteSpans (s : ByteArray) : Nat → Nat → Option Nat → List (Nat × Nat) → List (Nat × Nat) × Option Nat
 | 0, _, st, acc => (acc, st)
 | f + 1, pos, st, acc => if pos < s.size then
   (if s.get! pos = 32 then byteSpans s f (pos + 1) none (endAt acc st pos)
    else byteSpans s f (pos + 1) (some (st.getD pos)) acc)
  else (acc, st)
theorem byteSpans_at (s : ByteArray) (f pos : Nat) (st : Option Nat) (acc : List (Nat × Nat)) (h : pos < s.size) : byteSpans s (f + 1) pos st acc =
  if s.get! pos = 32 then byteSpans s f (pos + 1) none (endAt acc st pos) else byteSpans s f (pos + 1) (some (st.getD pos)) acc := by
 show (if pos < s.size then _ else _) = _
 rw [if_pos h]
theorem byteSpans_end (s : ByteArray) (f pos : Nat) (st : Option Nat) (acc : List (Nat × Nat)) (h : ¬ pos < s.size) : byteSpans s f pos st acc = (acc, st) := by
 cases f with
 | zero => rfl
 | succ f => simp [byteSpans, h]
theorem not32 {c : UInt8} (h : c.toNat ≠ 32) : c ≠ 32 := fun e => h (by rw [e]; rfl)
theorem is32 {c : UInt8} (h : c.toNat = 32) : c = 32 := UInt8.toNat_inj.1 (by rw [h]; rfl)
theorem blank_ne {r : Nat} (h : r ≠ 32) : isBlank r = false := by unfold isBlank; exact beq_eq_false_iff_ne.2 h
theorem dec_step (s : ByteArray) (pos : Nat) (h : pos < s.size) :
  (isBlank (Utf8.decode s pos).1 = true ∧ s.get! pos = 32 ∧ (Utf8.decode s pos).2 = 1) ∨
  (isBlank (Utf8.decode s pos).1 = false ∧ ∃ w, (Utf8.decode s pos).2 = w + 1 ∧ pos + w < s.size ∧ ∀ j, j ≤ w → s.get! (pos + j) ≠ 32) := by
 rw [decode_at]
 by_cases h0 : (s.get! pos).toNat < 128
 ·rw [decodeN_ascii _ _ _ _ _ h0]
  by_cases h32 : (s.get! pos).toNat = 32
  ·exact .inl ⟨by unfold isBlank; simp [h32], is32 h32, rfl⟩
  ·refine .inr ⟨blank_ne h32, 0, rfl, h, fun j hj => ?_⟩
   obtain rfl : j = 0 := by omega
   exact not32 h32
 ·right
  rcases decodeN_shape (s.size - pos) (s.get! pos).toNat (s.get! (pos + 1)).toNat (s.get! (pos + 2)).toNat (s.get! (pos + 3)).toNat with h1 | h1 | h1 | h1 | h1
  ·omega
  ·obtain ⟨a1, a2, a3, a4, a5⟩ := h1
   rw [a5]
   refine ⟨blank_ne (by simp only; omega), 1, rfl, by omega, fun j hj => not32 ?_⟩
   match j, hj with
   | 0, _ => show (s.get! pos).toNat ≠ 32; omega
   | 1, _ => omega
  ·obtain ⟨a1, a2, a3, a4, a5, a6, a7⟩ := h1
   rw [a7]
   refine ⟨blank_ne (by simp only; omega), 2, rfl, by omega, fun j hj => not32 ?_⟩
   match j, hj with
   | 0, _ => show (s.get! pos).toNat ≠ 32; omega
   | 1, _ => omega
   | 2, _ => omega
  ·obtain ⟨a1, a2, a3, a4, a5, a6, a7, a8⟩ := h1
   rw [a8]
   refine ⟨blank_ne (by simp only; omega), 3, rfl, by omega, fun j hj => not32 ?_⟩
   match j, hj with
   | 0, _ => show (s.get! pos).toNat ≠ 32; omega
   | 1, _ => omega
   | 2, _ => omega
   | 3, _ => omega
  ·rw [h1]
   refine ⟨blank_ne (by decide), 0, rfl, h, fun j hj => not32 ?_⟩
   obtain rfl : j = 0 := by omega
   show (s.get! pos).toNat ≠ 32
   omega
theorem byteSpans_skip (s : ByteArray) : ∀ (w pos f : Nat) (st : Option Nat) (acc : List (Nat × Nat)), (∀ j, j ≤ w → s.get! (pos + j) ≠ 32) → pos + w < s.size →
  byteSpans s (f + (w + 1)) pos st acc = byteSpans s f (pos + (w + 1)) (some (st.getD pos)) acc := by
 intro w
 induction w with
 | zero =>
  intro pos f st acc h hp
  have h0 : s.get! pos ≠ 32 := h 0 (by omega)
  show byteSpans s (f + 1) pos st acc = _
  rw [byteSpans_at _ _ _ _ _ (by omega), if_neg h0]
 | succ w ih =>
  intro pos f st acc h hp
  have h0 : s.get! pos ≠ 32 := h 0 (by omega)
  have e := ih (pos + 1) f (some (st.getD pos)) acc (fun j hj => by have := h (j + 1) (by omega); rwa [show pos + (j + 1) = pos + 1 + j by omega] at this) (by omega)
  show byteSpans s (f + (w + 1) + 1) pos st acc = _
  rw [byteSpans_at _ _ _ _ _ (by omega), if_neg h0, e]
  rw [show pos + 1 + (w + 1) = pos + (w + 1 + 1) by omega]
  rfl
theorem spans_bytes (s : ByteArray) : ∀ (n f f' pos : Nat) (st : Option Nat) (acc : List (Nat × Nat)), s.size - pos ≤ n → n ≤ f → n ≤ f' → spansFromP isBlank s f pos st acc = byteSpans s f' pos st acc := by
 intro n
 induction n using Nat.strongRecOn with
 | _ n ih =>
  intro f f' pos st acc hn hf hf'
  by_cases hp : pos < s.size
  ·obtain ⟨f, rfl⟩ : ∃ g, f = g + 1 := ⟨f - 1, by omega⟩
   unfold spansFromP
   rw [if_pos hp]
   rcases dec_step s pos hp with ⟨h1, h2, h3⟩ | ⟨h1, w, h2, h3, h4⟩
   ·rw [if_pos h1, h3]
    obtain ⟨f', rfl⟩ : ∃ g, f' = g + 1 := ⟨f' - 1, by omega⟩
    rw [byteSpans_at _ _ _ _ _ hp, if_pos h2]
    cases st with
    | none => exact ih (n - 1) (by omega) f f' _ _ _ (by omega) (by omega) (by omega)
    | some a => exact ih (n - 1) (by omega) f f' _ _ _ (by omega) (by omega) (by omega)
   ·rw [if_neg (by rw [h1]; simp), h2]
    obtain ⟨f', rfl⟩ : ∃ g, f' = g + (w + 1) := ⟨f' - (w + 1), by omega⟩
    rw [byteSpans_skip s w pos f' st acc h4 h3]
    cases st with
    | none => exact ih (n - (w + 1)) (by omega) f f' _ _ _ (by omega) (by omega) (by omega)
    | some a => exact ih (n - (w + 1)) (by omega) f f' _ _ _ (by omega) (by omega) (by omega)
  ·rw [spansFromP_end _ _ _ _ _ _ hp, byteSpans_end _ _ _ _ _ hp]
/-- The bytes of the word begun. -/
def begun (r : List UInt8) (st : Option Nat) (pos : Nat) : List UInt8 := match st with | none => [] | some a => (r.take pos).drop a
theorem spans_words (r : List UInt8) : ∀ (f pos : Nat) (st : Option Nat) (acc : List (Nat × Nat)), r.length - pos ≤ f → (∀ a, st = some a → a < pos) → pos ≤ r.length →
  (closeSpans ⟨r.toArray⟩ (byteSpans ⟨r.toArray⟩ f pos st acc)).map (fun x => (r.take x.2).drop x.1) = acc.map (fun x => (r.take x.2).drop x.1) ++ wordsGo (begun r st pos) (r.drop pos) := by
 have hsz : (⟨r.toArray⟩ : ByteArray).size = r.length := by simp [ByteArray.size]
 have stop : ∀ (st : Option Nat) (acc : List (Nat × Nat)), (∀ a, st = some a → a < r.length) →
   (closeSpans ⟨r.toArray⟩ (acc, st)).map (fun x => (r.take x.2).drop x.1) = acc.map (fun x => (r.take x.2).drop x.1) ++ wordsGo (begun r st r.length) [] := by
  intro st acc hst
  cases st with
  | none => simp [closeSpans, begun, wordsGo]
  | some a =>
   have ha := hst a rfl
   have hne : r.drop a ≠ [] := fun e => by have := congrArg List.length e; simp at this; omega
   unfold closeSpans begun wordsGo
   simp only [hsz, List.take_length, List.map_append, List.map_cons, List.map_nil]
   rw [if_neg hne]
 intro f
 induction f with
 | zero =>
  intro pos st acc hf hst hp
  obtain rfl : pos = r.length := by omega
  rw [List.drop_length]
  exact stop st acc hst
 | succ f ih =>
  intro pos st acc hf hst hp
  by_cases h : pos < r.length
  ·have hg : (⟨r.toArray⟩ : ByteArray).get! pos = r[pos] := by
    rw [← getD_get!' ⟨r.toArray⟩ pos]
    show r.getD pos 0 = _
    rw [List.getD_eq_getElem?_getD, List.getElem?_eq_getElem h]
    rfl
   rw [byteSpans_at _ _ _ _ _ (by rw [hsz]; exact h), hg, List.drop_eq_getElem_cons h, wordsGo]
   by_cases hc : r[pos] = 32
   ·rw [if_pos hc, if_pos hc, ih (pos + 1) none _ (by omega) (fun a e => by cases e) (by omega)]
    cases st with
    | none => simp [begun, endAt]
    | some a =>
     have ha := hst a rfl
     have hne : (r.take pos).drop a ≠ [] := fun e => by have := congrArg List.length e; simp at this; omega
     have hb : begun r (some a) pos = (r.take pos).drop a := rfl
     rw [hb, if_neg hne]
     simp [begun, endAt]
   ·rw [if_neg hc, if_neg hc, ih (pos + 1) _ acc (by omega) (fun a e => by cases e; cases st with | none => simp | some b => have := hst b rfl; simp; omega) (by omega)]
    congr 2
    cases st with
    | none =>
     simp only [begun, Option.getD_none, List.take_add_one, List.getElem?_eq_getElem h, Option.toList_some]
     rw [List.drop_append_of_le_length (by simp; omega), List.drop_of_length_le (by simp; omega)]
    | some a =>
     have ha := hst a rfl
     simp only [begun, Option.getD_some, List.take_add_one, List.getElem?_eq_getElem h, Option.toList_some]
     rw [List.drop_append_of_le_length (by simp; omega)]
  ·obtain rfl : pos = r.length := by omega
   rw [byteSpans_end _ _ _ _ _ (by rw [hsz]; exact h), List.drop_length]
   exact stop st acc hst
theorem words_bytes (s : List UInt8) : wordsOf s = wordsGo [] s := by
 have hsz : (⟨s.toArray⟩ : ByteArray).size = s.length := by simp [ByteArray.size]
 unfold wordsOf goFieldsP spansOfP
 rw [spans_bytes ⟨s.toArray⟩ s.length _ s.length 0 none [] (by omega) (by omega) (by omega), List.map_map]
 have := spans_words s s.length 0 none [] (by omega) (fun a e => by cases e) (by omega)
 simp only [List.map_nil, List.nil_append, List.drop_zero] at this
 have e : begun s none 0 = [] := rfl
 rw [e] at this
 rw [← this]
 congr 1
 funext x
 exact congrArg (fun b : ByteArray => b.data.toList) (Acl.extract_eq s x.1 x.2)
end Go.Proofs.YthnpiimiimiijaaGreatDoor.Acl
