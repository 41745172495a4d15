/- Known: region 20 as one step; books that are none; bytes that are none. Known: bytes that are put behind bytes. -/
import Derived.Test.YthnpiimiimiijaaGreatDoorKk24
section
namespace Go.Proofs.YthnpiimiimiijaaGreatDoor.Dir
open Go Go.RowKit Go.Proofs Go.Proofs.YthnpiimiimiijaaGreatDoorW.PrintWords Go.Proofs.YthnpiimiimiijaaGreatDoorW.PrintLast Go.Proofs.YthnpiimiimiijaaGreatDoorW.PrintMore
set_option linter.unusedVariables false
set_option linter.unusedSimpArgs false
theorem region20 {Q : Exit → Act → World → Prop} (tp : Nat) (a0 : Act) (w0 : World) (h13 : a0.tmps[13]? = some (.pointer (some ⟨tp, 0, none⟩))) (hsz : a0.tmps.size = 497) (hone : w0.heap[tp]? = some (.cells (encD devOne).toArray 46 (0, 0)))
  (hend : ∀ (v : Nat → Value) (w : World), GAll (v 338) w → v 339 = .int .i64 16 → v 340 = .int .i64 0 → Below w0.heap.size w0 w → Q .normal (putAll a0 ((List.range' 293 48).map fun n => (n, v n))) w) :
  (Code.region 20 ops20 true).wp Tryz.prog Q a0 w0 := by
 refine region_way (G := G20) rfl G20_later (fun i j o o' N hi hj h1 h2 => ?_) (fun i o hi => ⟨293 + i, (ops20_one hi).2.1, by have h1 := (ops20_one hi).1; rw [hsz]; exact Nat.lt_of_lt_of_le (show 293 + i < 341 by omega) (by decide)⟩) (fun i o hi => (ops20_one hi).2.2.1) (fun i o hi => (ops20_one hi).2.2.2)
  (ops20_do tp a0 w0 h13 hone) (fun a w hI => ?_)
 ·rw [(ops20_one hi).2.1] at h1
  rw [(ops20_one hj).2.1] at h2
  cases h1
  have := Option.some.inj h2
  omega
 ·have ha := hI.act (List.range' 293 48) (fun n hn => by rw [List.mem_range'_1] at hn; rw [hsz]; exact Nat.lt_of_lt_of_le hn.2 (by decide)) (fun t ht i o hi e => ht (by
   rw [(ops20_one hi).2.1] at e
   have h1 := (ops20_one hi).1
   have h2 := Option.some.inj e
   rw [List.mem_range'_1]
   omega))
  have hg : ∀ i, i < 48 → G20 i (a.tmps.getD (293 + i) undef) w := fun i hi => by
   have h1 : ops20[i]? = some ops20[i] := Array.getElem?_eq_getElem (by rw [ops20_size]; exact hi)
   exact hI.good i _ (293 + i) h1 (ops20_one h1).2.1 (by rw [ops20_size]; simp [Array.getD, hi])
  rw [ha]
  exact hend (fun n => a.tmps.getD n undef) w (hg 45 (by decide)) (hg 46 (by decide)) (hg 47 (by decide)) hI.fr
theorem region_swap {P : Program} {Q : Exit → Act → World → Prop} {id : Nat} {ops ops' : Array Oper} {a : Act} {w : World} (h : ops' = ops) (H : (Code.region id ops' true).wp P Q a w) : (Code.region id ops true).wp P Q a w := by
 subst h; exact H
theorem bad_ok : ∀ i, i < 16 → ¬ OkB (badB i)
 | 0, _, h => absurd h.ver (by decide)
 | 1, _, h => absurd h.ver (by decide)
 | 2, _, h => absurd h.clock (by decide)
 | 3, _, h => absurd h.clock (by decide)
 | 4, _, h => absurd h.acl (by decide +kernel)
 | 5, _, h => h.nonzero (by show key0 ∈ [key0]; simp)
 | 6, _, h => absurd (h.sorted 0 (keyN 2) (keyN 1) rfl rfl) (by decide +kernel)
 | 7, _, h => absurd ((wf_of_ok h).keys) (by decide +kernel)
 | 8, _, h => absurd ((wf_of_ok h).keys) (by decide +kernel)
 | 9, _, h => absurd ((wf_of_ok h).keys) (by decide +kernel)
 | 10, _, h => absurd h.devs (by decide +kernel)
 | 11, _, h => absurd h.devs (by decide +kernel)
 | 12, _, h => h.nonzero (by show key0 ∈ [key0]; simp)
 | 13, _, h => absurd h.devs (by decide +kernel)
 | 14, _, h => absurd h.few (by decide)
 | 15, _, h => absurd h.len (by decide)
 | n + 16, h, _ => absurd h (by omega)
theorem said_raw {l : List UInt8} {c : Int} (h : rawP l = .error c) : bookSaid l (.error c) := by
 unfold bookSaid; rw [h]
theorem said_more {l r : List UInt8} {B : Book} (h : rawP l = .ok (B, r)) (hr : r ≠ []) : bookSaid l (.error 4) := by
 unfold bookSaid; rw [h]; exact .inr ⟨fun e => hr e.1, rfl⟩
theorem zero_bytes : bytesB book0 = List.replicate 18 0 := by decide +kernel
theorem parse_17 : bookSaid ((List.replicate 18 0).take 17) (.error 3) := said_raw (by kernel_rfl)
theorem parse_19 : bookSaid (List.replicate 18 0 ++ [0]) (.error 4) := said_more (B := book0) (r := [0]) (by kernel_rfl) (by simp)
theorem parse_none : bookSaid [] (.error 3) := said_raw (by kernel_rfl)
theorem parse_dev : bookSaid (List.replicate 14 0 ++ [9]) (.error 4) := said_raw (by kernel_rfl)
theorem parse_spent : bookSaid (List.replicate 15 0 ++ [65]) (.error 4) := said_raw (by kernel_rfl)
theorem parse_text : bookSaid (List.replicate 16 0 ++ [4, 1]) (.error 5) := said_raw (by kernel_rfl)
theorem may_zero : MayB book0 := (may_ok book0).1 (by
 have : OkB book0 := ok_of book0_wf (by kernel_rfl)
 exact this)
theorem parse_err (l : List UInt8) (n : Nat) (hn : n = l.length) (A : Option Addr) (c : Nat) (w : World) (h : SrcAt w A l.length 1 (l.map byteV)) (hl : l.length ≤ 1000) (hx : PA.LaidW w) (ev : Int) (he : ev ≠ 0) (hs : bookSaid l (.error ev)) :
  Calls Tryz.prog 35 #[.slice A n c] w fun e w' => (∃ v, e = .returned (.tuple #[.agg v, .int .i64 ev]) ∧ v.size = 5 ∧ (∀ u ∈ v, u.oneCell' = true)) ∧ Below w.heap.size w w' := by
 refine (parse35 l n hn A c w h (by omega) hx).mono ?_
 rintro e w' ⟨hp, hb⟩
 obtain ⟨A1, c1, A2, c2, rfl, -, -⟩ := hp.again (.inl ⟨he, hs, rfl⟩)
 exact ⟨⟨_, rfl, rfl, by simpa using book_one book0 A1 A2 c1 c2⟩, hb⟩
end Go.Proofs.YthnpiimiimiijaaGreatDoor.Dir
end
section
namespace Go.Proofs.YthnpiimiimiijaaGreatDoor.Dir
open Go Go.RowKit Go.Proofs Go.Proofs.YthnpiimiimiijaaGreatDoorW.PrintWords Go.Proofs.YthnpiimiimiijaaGreatDoorW.PrintLast Go.Proofs.YthnpiimiimiijaaGreatDoorW.PrintMore
set_option linter.unusedVariables false
set_option linter.unusedSimpArgs false
theorem add_bytes (w : World) (ty : TypeId) (base n c m c2 : Nat) (A A2 : Option Addr) (xs ys : List UInt8) (hn : xs.length = n) (hm : ys.length = m) (ho : OwnB w base A c xs) (hs : SrcAt w A2 m 1 (ys.map byteV)) (hl : n + m ≤ 1000) (hb : base ≤ w.heap.size) :
  ∃ A' c' w', (Builtin.append_ #[67, 67] ty #[.slice A n c, .slice A2 m c2]).run Tryz.prog w = .ok (.slice A' (n + m) c') w' ∧ OwnB w' base A' c' (xs ++ ys) ∧ Below base w w' := by
 subst hn; subst hm
 obtain ⟨A', c', w', hr, h1, h2⟩ := run_app appB w ty base xs.length c ys.length c2 A A2 (xs.map byteV) (ys.map byteV) ho hs (bytes_one _) (by omega) (by unfold maxLen; omega) hb
 refine ⟨A', c', w', hr, ?_, below_own ho h2 hb⟩
 unfold OwnB
 rw [List.length_append, List.map_append]
 exact h1
theorem src_take {w : World} {A : Option Addr} {n : Nat} {xs : List UInt8} (h : SrcAt w A n 1 (xs.map byteV)) (k : Nat) (h0 : 0 < k) (hk : k ≤ n) : SrcAt w A k 1 ((xs.take k).map byteV) := by
 have hl : xs.length = n := by have := h.1; simpa using this
 refine ⟨by simp; omega, fun e => absurd (h.2.1 e) (by omega), fun a ha j u hj => h.2.2 a ha j u ?_⟩
 rw [List.getElem?_map] at hj ⊢
 have hlt : j < k := by
  rcases Nat.lt_or_ge j k with h1 | h1
  ·exact h1
  ·rw [List.getElem?_eq_none (by simp; omega)] at hj
   cases hj
 rw [List.getElem?_take_of_lt hlt] at hj
 exact hj
theorem add_keep (w : World) (ty : TypeId) (base n c m c2 : Nat) (A : Option Addr) (a2 : Addr) (xs ys : List UInt8) (hn : xs.length = n) (hm : ys.length = m) (ho : OwnB w base A c xs) (hs : SrcAt w (some a2) m 1 (ys.map byteV)) (hl : n + m ≤ 1000) (hb : base ≤ w.heap.size) :
  ∃ A' c' w', (Builtin.append_ #[67, 67] ty #[.slice A n c, .slice (some a2) m c2]).run Tryz.prog w = .ok (.slice A' (n + m) c') w' ∧ OwnB w' base A' c' (xs ++ ys) ∧ Below base w w' ∧ SrcAt w' A n 1 (xs.map byteV) := by
 obtain ⟨A', c', w', hr, h1, h2⟩ := add_bytes w ty base n c m c2 A (some a2) xs ys hn hm ho hs hl hb
 refine ⟨A', c', w', hr, h1, h2, ?_⟩
 subst hn
 have hsrc := ho.src
 obtain ⟨ht, i, z, hi, hz, e1, e2, e3, e4⟩ := appB
 rcases ho.2 with ⟨e, h0⟩ | ⟨g, cap, cur, e, hlo, hg, hnc, hcm, hcs, htk⟩
 ·have : xs = [] := List.eq_nil_of_length_eq_zero h0
  subst this
  have e2 : A = none := by injection e
  subst e2
  exact src_none
 ·cases e
  by_cases hfit : xs.length + m ≤ c
  ·have hh := run_append_room (P := Tryz.prog) w 67 ty 5 i ht hi g xs.length c cur hg a2 m c2 (ys.map byteV) (by rw [e1]; exact hs.1) (hs.2.2 a2 rfl) (bytes_one _) hfit (by rw [e1, hcs, List.length_map, hm]; omega)
   rw [hh] at hr
   cases hr
   refine ⟨hsrc.1, fun e => (by cases e), fun a ha j u hj => ?_⟩
   cases ha
   rw [add_at, Nat.zero_add, cell_of_heap (setRow_heap w g _ _ 5 (0, 0) hg)]
   have hjl : j < xs.length := by have := (List.getElem?_eq_some_iff.1 hj).1; simpa using this
   rw [← htk] at hj
   rw [e1]
   simp only [List.append_assoc]
   rw [List.getElem?_append_left (by simp; omega)]
   exact hj
  ·have hh := run_append_grow (P := Tryz.prog) (w := w) 67 ty 5 i z ht hi hz ⟨g, 0, none⟩ xs.length c (xs.map byteV) (by rw [e1]; simp) (hsrc.2.2 _ rfl) a2 m c2 (ys.map byteV) (by rw [e1]; exact hs.1) (hs.2.2 a2 rfl) (by omega) (by omega) (by rw [e2, Nat.mul_one]; have := nextslicecap_le (show c < xs.length + m by omega); omega)
   rw [hh] at hr
   cases hr
   exact hsrc.grown (((Below.refl _ w).drew).alloc (Nat.le_refl _) _)
end Go.Proofs.YthnpiimiimiijaaGreatDoor.Dir
end
