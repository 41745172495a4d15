/- The document's Spans, for all rules and nodes: its array of cuts, and one pass over the ports. -/
import Derived.Test.YtglnnlpkhjijhaaDoorPureWorks
import Derived.Test.YtglnnlpkhjijhaaDoorExtX
import Derived.Lib.Hide
set_option linter.unusedVariables false
set_option linter.unusedSimpArgs false
namespace Go.Proofs.YtglnnlpkhjijhaaDoor.PA
open Go.RowKit Go.Proofs.YtglnnlpkhjijhaaDoorW.PrintWords Go.Proofs.YtglnnlpkhjijhaaDoorW.PrintLast Go.Proofs.YtglnnlpkhjijhaaDoorW.PrintMore

def isF : Value → Bool
  | .bool false => true
  | _ => false
theorem isF_eq {v : Value} (h : isF v = true) : v = .bool false := by
  unfold isF at h
  split at h
  · rfl
  · cases h
theorem zero_all : Tryd.zeroCells45.toList.all isF = true := by kernel_rfl
theorem zero_at (p : Nat) (h : p < 65537) : Tryd.zeroCells45[p]? = some (.bool false) := by
  have hs : p < Tryd.zeroCells45.size := by rw [Tryd.zeroCells45_size]; exact h
  rw [Array.getElem?_eq_getElem hs]
  congr 1
  exact isF_eq (List.all_eq_true.1 zero_all _ (Array.getElem_mem_toList hs))

/-- Whether a rule's ports begin at p, or are over there. -/
def lowAt (r : S37) (p : Nat) : Bool := decide (0 ≤ r.f3 ∧ r.f3 ≤ 65535 ∧ r.f3 = (p : Int))
def highAt (r : S37) (p : Nat) : Bool := decide (0 ≤ r.f4 ∧ r.f4 < 65535 ∧ r.f4 + 1 = (p : Int))
def cutB (l : List S37) (p : Nat) : Bool := (p == 0 || p == 65536) || l.any fun r => lowAt r p || highAt r p
def refGo (cut : Nat → Bool) (ok : Int → Bool) : Nat → Nat → List S32 → Int → List S32
  | 0, _, out, _ => out
  | n + 1, p, out, bg => if cut p = false then refGo cut ok n (p + 1) out bg
     else if ok (p : Int) = true then refGo cut ok n (p + 1) out (if bg < 0 then (p : Int) else bg)
     else if 0 ≤ bg then refGo cut ok n (p + 1) (out ++ [⟨bg, (p : Int) - 1⟩]) (-1)
     else refGo cut ok n (p + 1) out bg
def refSpans (l : List S37) (a b : Int) : List S32 := refGo (cutB l) (fun p => allowsV l a b p) 65537 0 [] (-1)
def causewayref20_Spans.f (l : List S37) (a b : Int) : Option (List S32) := if l.length ≤ 1000 then some (refSpans l a b) else none

theorem cut_snoc (l : List S37) (r : S37) (p : Nat) : cutB (l ++ [r]) p = ((lowAt r p || cutB l p) || highAt r p) := by
  unfold cutB
  rw [List.any_append]
  simp only [List.any_cons, List.any_nil, Bool.or_false]
  generalize (p == 0 || p == 65536) = x
  generalize (l.any fun r => lowAt r p || highAt r p) = y
  cases x <;> cases y <;> cases lowAt r p <;> cases highAt r p <;> rfl
theorem low_no {y0 : Bool} {y1 y2 y3 y4 : Int} {p : Nat} (h : ¬ (0 ≤ y3 ∧ y3 ≤ 65535)) : lowAt ⟨y0, y1, y2, y3, y4⟩ p = false := decide_eq_false (fun e => h ⟨e.1, e.2.1⟩)
theorem high_no {y0 : Bool} {y1 y2 y3 y4 : Int} {p : Nat} (h : ¬ (0 ≤ y4 ∧ y4 < 65535)) : highAt ⟨y0, y1, y2, y3, y4⟩ p = false := decide_eq_false (fun e => h ⟨e.1, e.2.1⟩)
theorem low_yes {y0 : Bool} {y1 y2 y4 : Int} {m p : Nat} (h : m ≤ 65535) : lowAt ⟨y0, y1, y2, (m : Int), y4⟩ p = (p == m) := by
  unfold lowAt
  by_cases e : p = m
  · subst e
    simp
    omega
  · rw [beq_eq_false_iff_ne.2 e]
    exact decide_eq_false (fun h => e (by have := h.2.2; simp only at this; omega))
theorem high_yes {y0 : Bool} {y1 y2 y3 : Int} {n p : Nat} (h : n < 65535) : highAt ⟨y0, y1, y2, y3, (n : Int)⟩ p = (p == n + 1) := by
  unfold highAt
  by_cases e : p = n + 1
  · subst e
    simp
    omega
  · rw [beq_eq_false_iff_ne.2 e]
    exact decide_eq_false (fun h => e (by have := h.2.2; simp only at this; omega))
theorem nextI {i n : Nat} (hn : n ≤ 1000) (hi : i < n) : Value.int .i64 (wrap64 ((i : Int) + 1)) = Value.int .i64 ((i + 1 : Nat) : Int) := by
  congr 1
  unfold wrap64
  omega
theorem nextK {i n k : Nat} (h : i + (k + 1) = n + 1 ∧ i ≤ n) (hi : i < n) : i + 1 + k = n + 1 ∧ i + 1 ≤ n := by omega

/-- A world in which the array has these cuts. -/
structure CS (w W : World) (c : Array Value) (cut : Nat → Bool) : Prop where
  bk : W.heap[w.heap.size]? = some (.cells c 45 (0, 0))
  at_ : ∀ p, p < 65537 → c[p]? = some (.bool (cut p))
  b : Below w.heap.size w W
variable {w W W' : World} {c : Array Value} {cut : Nat → Bool}
theorem CS.later (h : CS w W c cut) (hb : Below W.heap.size W W') : CS w W' c cut :=
  ⟨(hb.block _ (Array.getElem?_eq_some_iff.1 h.bk).1).trans h.bk, h.at_, below_step h.b hb⟩
theorem CS.new (w : World) : CS w (w.alloc (.cells Tryd.zeroCells45 45)) Tryd.zeroCells45 (fun _ => false) :=
  ⟨heap_alloc_new w _, zero_at, (Below.refl _ w).alloc (Nat.le_refl _) _⟩
theorem CS.set (h : CS w W c cut) (i : Nat) (hi : i < 65537) : CS w (W.setCell ⟨w.heap.size, i, none⟩ (.bool true)) (c.setIfInBounds i (.bool true)) (fun p => p == i || cut p) := by
  have hk := h.bk
  refine ⟨by simp [World.setCell, Array.getElem?_modify, hk], fun p hp => ?_, h.b.setCell (Nat.le_refl _) _⟩
  rw [Array.getElem?_setIfInBounds]
  have hs : p < c.size := (Array.getElem?_eq_some_iff.1 (h.at_ p hp)).1
  by_cases e : i = p
  · subst e
    rw [if_pos rfl, if_pos hs]
    simp
  · rw [if_neg e, h.at_ p hp, beq_eq_false_iff_ne.2 (Ne.symm e), Bool.false_or]
theorem CS.same {cut' : Nat → Bool} (h : CS w W c cut) (he : ∀ p, cut p = cut' p) : CS w W c cut' := ⟨h.bk, fun p hp => by rw [← he p]; exact h.at_ p hp, h.b⟩
theorem CS.grown {row : Option Nat} (h : CS w W c cut) (hb : Below w.heap.size w W') (hg : W.grownBy W' row) (hne : some w.heap.size ≠ row) : CS w W' c cut :=
  ⟨blk_grown h.bk hg hne, h.at_, hb⟩
theorem nextP {p : Nat} (hp : p < 65537) : Value.int .i64 (wrap64 ((p : Int) + 1)) = Value.int .i64 ((p + 1 : Nat) : Int) := by
  congr 1
  unfold wrap64
  omega
theorem step_same {p k n : Nat} {bg : Int} (h : p + (k + 1) = 65538 ∧ p ≤ 65537 ∧ n ≤ p ∧ -1 ≤ bg ∧ bg ≤ 65537) (hp : p < 65537) : p + 1 + k = 65538 ∧ p + 1 ≤ 65537 ∧ n ≤ p + 1 ∧ -1 ≤ bg ∧ bg ≤ 65537 := by omega
theorem step_begin {p k n : Nat} {bg : Int} (h : p + (k + 1) = 65538 ∧ p ≤ 65537 ∧ n ≤ p ∧ -1 ≤ bg ∧ bg ≤ 65537) (hp : p < 65537) : p + 1 + k = 65538 ∧ p + 1 ≤ 65537 ∧ n ≤ p + 1 ∧ -1 ≤ (p : Int) ∧ (p : Int) ≤ 65537 := by omega
theorem step_add {α : Type} {p k : Nat} {out : List α} {x : α} {bg : Int} (h : p + (k + 1) = 65538 ∧ p ≤ 65537 ∧ out.length ≤ p ∧ -1 ≤ bg ∧ bg ≤ 65537) (hp : p < 65537) : p + 1 + k = 65538 ∧ p + 1 ≤ 65537 ∧ (out ++ [x]).length ≤ p + 1 ∧ (-1 : Int) ≤ -1 ∧ (-1 : Int) ≤ 65537 := by
  simp
  omega
theorem CS.cell (h : CS w W c cut) (p : Nat) (hp : p < 65537) : W.cell? ⟨w.heap.size, p, none⟩ = some (.bool (cut p)) ∧ W.frozen? ⟨w.heap.size, p, none⟩ = false := by
  have hk := h.bk
  have ha := h.at_ p hp
  simp [World.cell?, World.frozen?, hk, ha]

set_option maxHeartbeats 8000000 in
set_option maxRecDepth 100000 in
theorem causewayref20_Spans.calls (A0 : Option Addr) (c0 : Nat) (l0 : List S37) (a1 a2 : Int) (r : List S32) (w : World) (hr0 : Kd.C k37 w A0 l0.length l0) (hc0 : l0.length ≤ c0) (_hx : LaidW w) (h : causewayref20_Spans.f l0 a1 a2 = some r) :
    Calls Tryd.prog 15 #[.slice A0 l0.length c0, .int .i64 a1, .int .i64 a2] w fun e w' => ∃ v0_ : Value, e = .returned v0_ ∧ Kd.R k32 32 w' w.heap.size (fun _ => True) v0_ r ∧ Below w.heap.size w w' := by
  have hl : l0.length ≤ 1000 := by
    unfold causewayref20_Spans.f at h
    split at h
    · assumption
    · cases h
  have hr : refSpans l0 a1 a2 = r := by
    unfold causewayref20_Spans.f at h
    rw [if_pos hl] at h
    exact Option.some.inj h
  have HR0 := Aside0.mk hr0
  have HC0 := Aside0.mk hc0
  have HL := Aside0.mk hl
  have HR := Aside0.mk hr
  clear hr0 hc0 hl hr h _hx
  go_enter Tryd.func15, Tryd.ntmps15
  go_upto_region 2 with fail
  have C0 := CS.new w
  generalize w.alloc (.cells Tryd.zeroCells45 45) = W0 at C0 ⊢
  generalize Tryd.zeroCells45 = c at C0
  obtain ⟨k0, f0⟩ := C0.cell 0 (by decide)
  have HC := Aside0.mk C0
  clear C0
  go_upto_region 3 with fail
  have C1 := HC.out.set 0 (by decide)
  clear HC k0 f0
  generalize W0.setCell ⟨w.heap.size, 0, none⟩ (.bool true) = W1 at C1 ⊢
  obtain ⟨k0, f0⟩ := C1.cell 65536 (by decide)
  have HC := Aside0.mk C1
  clear C1
  go_upto_region 4 with fail
  have C2 := HC.out.set 65536 (by decide)
  clear HC k0 f0
  generalize W1.setCell ⟨w.heap.size, 65536, none⟩ (.bool true) = W2 at C2 ⊢
  have HC : Aside0 (∃ c, CS w W2 c (cutB (l0.take 0))) := ⟨_, C2.same (fun p => by
    unfold cutB
    cases h1 : p == 0 <;> cases h2 : p == 65536 <;> simp [h1, h2])⟩
  clear C2
  go_wp2
  go_loopg [8] (l0.length + 1) (fun kq v8 w' => ∃ (i : Nat), v8 = .int .i64 (i : Int) ∧ Aside0 (i + kq = l0.length + 1 ∧ i ≤ l0.length) ∧ Aside0 (∃ c, CS w w' c (cutB (l0.take i))))
  case atStart => exact ⟨0, rfl, ⟨by omega, by omega⟩, HC⟩
  case round =>
    clear HC
    obtain ⟨i, rfl, HK, HC⟩ := hrel
    obtain ⟨k1, rfl⟩ : ∃ k1, gk = k1 + 1 := ⟨gk - 1, by have := HK.out; omega⟩
    by_cases hi : i < l0.length
    · obtain ⟨c, hC⟩ := HC.out
      have HCC := Aside0.mk hC
      clear HC
      have c0 : decide ((i : Int) < (l0.length : Int)) = true := decide_eq_true (by omega)
      have p1 : 0 ≤ (i : Int) := by omega
      have q1 : (i : Int) < (l0.length : Int) := by omega
      have hrd : rd_T37 l0 (i : Int) = l0.getD i z37 := by unfold rd_T37; rw [show ((i : Int)).toNat = i by omega]
      obtain ⟨ad, e1, hx0, hx1, hx2, hx3, hx4⟩ := at_T37 HR0.out (i : Int) p1 q1
      cases e1
      rw [hrd] at hx3 hx4
      clear hx0 hx1 hx2
      simp only [Int.toNat_natCast] at hx3 hx4
      have hb3 := World.block_lt_of_cell? w _ hx3
      replace hx3 := (hC.b.cell hb3).trans hx3
      have hb4 := World.block_lt_of_cell? w _ hx4
      have hx4w := hx4
      replace hx4 := (hC.b.cell hb4).trans hx4
      have HX4 := Aside0.mk hx4w
      have HB4 := Aside0.mk hb4
      obtain ⟨r', hr⟩ : ∃ r', r' = l0.getD i z37 := ⟨_, rfl⟩
      rw [← hr] at hx3 hx4
      have htk : l0.take (i + 1) = l0.take i ++ [r'] := by
        rw [List.take_add_one, List.getElem?_eq_getElem hi, hr, List.getD_eq_getElem?_getD, List.getElem?_eq_getElem hi]; rfl
      have HTK := Aside0.mk htk
      have HRR := Aside0.mk hr
      have HI := Aside0.mk hi
      clear hC hrd hr htk hb3 hb4 hx4w hi
      replace p1 := eq_true p1
      replace q1 := eq_true q1
      obtain ⟨y0, y1, y2, y3, y4⟩ := r'
      simp only at hx3 hx4
      by_cases hA : 0 ≤ y3
      · by_cases hA2 : y3 ≤ 65535
        · obtain ⟨m, rfl⟩ : ∃ m : Nat, y3 = m := ⟨y3.toNat, by omega⟩
          have hm : m ≤ 65535 := by omega
          have a1 : decide (0 ≤ (m : Int)) = true := decide_eq_true hA
          have a2 : decide ((m : Int) ≤ 65535) = true := decide_eq_true hA2
          have a3 : decide (m ≤ 65535) = true := decide_eq_true hm
          have a4 : ((m : Int) < 65537) = True := eq_true (by omega)
          have a5 : (65537 ≤ (m : Int)) = False := eq_false (by omega)
          have a6 : (0 ≤ (m : Int) ∧ (m : Int) < 65537) = True := eq_true ⟨by omega, by omega⟩
          have HM := Aside0.mk hm
          obtain ⟨k9, f9⟩ := HCC.out.cell m (by omega)
          clear hA hA2 hm
          go_upto_region 9 with fail
          have D3 : Aside0 (CS w (wr.setCell ⟨w.heap.size, m, none⟩ (.bool true)) (c.setIfInBounds m (.bool true)) (fun p => lowAt ⟨y0, y1, y2, (m : Int), y4⟩ p || cutB (l0.take i) p)) := ⟨(HCC.out.set m (by have := HM.out; omega)).same (fun p => by rw [low_yes HM.out])⟩
          clear k9 f9
          clear hx3 hx4 HCC
          generalize wr.setCell ⟨w.heap.size, m, none⟩ (.bool true) = W3 at D3 ⊢
          have hx4 := (D3.out.b.cell HB4.out).trans HX4.out
          rw [← HRR.out] at hx4
          simp only at hx4
          by_cases hB : 0 ≤ y4
          · by_cases hB2 : y4 < 65535
            · obtain ⟨n, rfl⟩ : ∃ n : Nat, y4 = n := ⟨y4.toNat, by omega⟩
              have hn : n < 65535 := by omega
              have b1 : decide (0 ≤ (n : Int)) = true := decide_eq_true hB
              have b2 : decide ((n : Int) < 65535) = true := decide_eq_true hB2
              have b3 : decide (n < 65535) = true := decide_eq_true hn
              have e2 : wrap64 ((n : Int) + 1) = ((n + 1 : Nat) : Int) := by unfold wrap64; omega
              have e3 : IntKind.i64.wrap ((n : Int) + 1) = ((n + 1 : Nat) : Int) := by rw [IntKind.wrap_i64]; omega
              have b4 : (0 ≤ (n : Int) + 1 ∧ (n : Int) + 1 < 65537) = True := eq_true ⟨by omega, by omega⟩
              have b5 : ((n : Int) + 1 < 65537) = True := eq_true (by omega)
              have b6 : (65537 ≤ (n : Int) + 1) = False := eq_false (by omega)
              have HN := Aside0.mk hn
              obtain ⟨k9, f9⟩ := D3.out.cell (n + 1) (by omega)
              clear hB hB2 hn
              go_wp2
              go_roundg k1
              case measure => have := HK.out; omega
              case rel => exact ⟨i + 1, nextI HL.out HI.out, ⟨nextK HK.out HI.out⟩, ⟨_, (D3.out.set (n + 1) (by have := HN.out; omega)).same (fun p => by rw [HTK.out, cut_snoc, high_yes HN.out, Bool.or_comm])⟩⟩
            · have b1 : decide (0 ≤ y4) = true := decide_eq_true hB
              have b2 : decide (y4 < 65535) = false := decide_eq_false hB2
              have HB1 := Aside0.mk (show ¬ (0 ≤ y4 ∧ y4 < 65535) by omega)
              clear hB hB2
              go_wp2
              go_roundg k1
              case measure => have := HK.out; omega
              case rel => exact ⟨i + 1, nextI HL.out HI.out, ⟨nextK HK.out HI.out⟩, ⟨_, D3.out.same (fun p => by rw [HTK.out, cut_snoc, high_no HB1.out, Bool.or_false])⟩⟩
          · have b1 : decide (0 ≤ y4) = false := decide_eq_false hB
            have HB1 := Aside0.mk (show ¬ (0 ≤ y4 ∧ y4 < 65535) by omega)
            clear hB
            go_wp2
            go_roundg k1
            case measure => have := HK.out; omega
            case rel => exact ⟨i + 1, nextI HL.out HI.out, ⟨nextK HK.out HI.out⟩, ⟨_, D3.out.same (fun p => by rw [HTK.out, cut_snoc, high_no HB1.out, Bool.or_false])⟩⟩
        · have a1 : decide (0 ≤ y3) = true := decide_eq_true hA
          have a2 : decide (y3 ≤ 65535) = false := decide_eq_false hA2
          have HA1 := Aside0.mk (show ¬ (0 ≤ y3 ∧ y3 ≤ 65535) by omega)
          clear hA hA2
          go_upto_region 9 with fail
          have D3 : Aside0 (CS w wr c (fun p => lowAt ⟨y0, y1, y2, y3, y4⟩ p || cutB (l0.take i) p)) := ⟨HCC.out.same (fun p => by rw [low_no HA1.out, Bool.false_or])⟩
          clear hx3 hx4 HCC
          generalize wr = W3 at D3 ⊢
          have hx4 := (D3.out.b.cell HB4.out).trans HX4.out
          rw [← HRR.out] at hx4
          simp only at hx4
          by_cases hB : 0 ≤ y4
          · by_cases hB2 : y4 < 65535
            · obtain ⟨n, rfl⟩ : ∃ n : Nat, y4 = n := ⟨y4.toNat, by omega⟩
              have hn : n < 65535 := by omega
              have b1 : decide (0 ≤ (n : Int)) = true := decide_eq_true hB
              have b2 : decide ((n : Int) < 65535) = true := decide_eq_true hB2
              have b3 : decide (n < 65535) = true := decide_eq_true hn
              have e2 : wrap64 ((n : Int) + 1) = ((n + 1 : Nat) : Int) := by unfold wrap64; omega
              have e3 : IntKind.i64.wrap ((n : Int) + 1) = ((n + 1 : Nat) : Int) := by rw [IntKind.wrap_i64]; omega
              have b4 : (0 ≤ (n : Int) + 1 ∧ (n : Int) + 1 < 65537) = True := eq_true ⟨by omega, by omega⟩
              have b5 : ((n : Int) + 1 < 65537) = True := eq_true (by omega)
              have b6 : (65537 ≤ (n : Int) + 1) = False := eq_false (by omega)
              have HN := Aside0.mk hn
              obtain ⟨k9, f9⟩ := D3.out.cell (n + 1) (by omega)
              clear hB hB2 hn
              go_wp2
              go_roundg k1
              case measure => have := HK.out; omega
              case rel => exact ⟨i + 1, nextI HL.out HI.out, ⟨nextK HK.out HI.out⟩, ⟨_, (D3.out.set (n + 1) (by have := HN.out; omega)).same (fun p => by rw [HTK.out, cut_snoc, high_yes HN.out, Bool.or_comm])⟩⟩
            · have b1 : decide (0 ≤ y4) = true := decide_eq_true hB
              have b2 : decide (y4 < 65535) = false := decide_eq_false hB2
              have HB1 := Aside0.mk (show ¬ (0 ≤ y4 ∧ y4 < 65535) by omega)
              clear hB hB2
              go_wp2
              go_roundg k1
              case measure => have := HK.out; omega
              case rel => exact ⟨i + 1, nextI HL.out HI.out, ⟨nextK HK.out HI.out⟩, ⟨_, D3.out.same (fun p => by rw [HTK.out, cut_snoc, high_no HB1.out, Bool.or_false])⟩⟩
          · have b1 : decide (0 ≤ y4) = false := decide_eq_false hB
            have HB1 := Aside0.mk (show ¬ (0 ≤ y4 ∧ y4 < 65535) by omega)
            clear hB
            go_wp2
            go_roundg k1
            case measure => have := HK.out; omega
            case rel => exact ⟨i + 1, nextI HL.out HI.out, ⟨nextK HK.out HI.out⟩, ⟨_, D3.out.same (fun p => by rw [HTK.out, cut_snoc, high_no HB1.out, Bool.or_false])⟩⟩
      · have a1 : decide (0 ≤ y3) = false := decide_eq_false hA
        have HA1 := Aside0.mk (show ¬ (0 ≤ y3 ∧ y3 ≤ 65535) by omega)
        clear hA
        go_upto_region 9 with fail
        have D3 : Aside0 (CS w wr c (fun p => lowAt ⟨y0, y1, y2, y3, y4⟩ p || cutB (l0.take i) p)) := ⟨HCC.out.same (fun p => by rw [low_no HA1.out, Bool.false_or])⟩
        clear hx3 hx4 HCC
        generalize wr = W3 at D3 ⊢
        have hx4 := (D3.out.b.cell HB4.out).trans HX4.out
        rw [← HRR.out] at hx4
        simp only at hx4
        by_cases hB : 0 ≤ y4
        · by_cases hB2 : y4 < 65535
          · obtain ⟨n, rfl⟩ : ∃ n : Nat, y4 = n := ⟨y4.toNat, by omega⟩
            have hn : n < 65535 := by omega
            have b1 : decide (0 ≤ (n : Int)) = true := decide_eq_true hB
            have b2 : decide ((n : Int) < 65535) = true := decide_eq_true hB2
            have b3 : decide (n < 65535) = true := decide_eq_true hn
            have e2 : wrap64 ((n : Int) + 1) = ((n + 1 : Nat) : Int) := by unfold wrap64; omega
            have e3 : IntKind.i64.wrap ((n : Int) + 1) = ((n + 1 : Nat) : Int) := by rw [IntKind.wrap_i64]; omega
            have b4 : (0 ≤ (n : Int) + 1 ∧ (n : Int) + 1 < 65537) = True := eq_true ⟨by omega, by omega⟩
            have b5 : ((n : Int) + 1 < 65537) = True := eq_true (by omega)
            have b6 : (65537 ≤ (n : Int) + 1) = False := eq_false (by omega)
            have HN := Aside0.mk hn
            obtain ⟨k9, f9⟩ := D3.out.cell (n + 1) (by omega)
            clear hB hB2 hn
            go_wp2
            go_roundg k1
            case measure => have := HK.out; omega
            case rel => exact ⟨i + 1, nextI HL.out HI.out, ⟨nextK HK.out HI.out⟩, ⟨_, (D3.out.set (n + 1) (by have := HN.out; omega)).same (fun p => by rw [HTK.out, cut_snoc, high_yes HN.out, Bool.or_comm])⟩⟩
          · have b1 : decide (0 ≤ y4) = true := decide_eq_true hB
            have b2 : decide (y4 < 65535) = false := decide_eq_false hB2
            have HB1 := Aside0.mk (show ¬ (0 ≤ y4 ∧ y4 < 65535) by omega)
            clear hB hB2
            go_wp2
            go_roundg k1
            case measure => have := HK.out; omega
            case rel => exact ⟨i + 1, nextI HL.out HI.out, ⟨nextK HK.out HI.out⟩, ⟨_, D3.out.same (fun p => by rw [HTK.out, cut_snoc, high_no HB1.out, Bool.or_false])⟩⟩
        · have b1 : decide (0 ≤ y4) = false := decide_eq_false hB
          have HB1 := Aside0.mk (show ¬ (0 ≤ y4 ∧ y4 < 65535) by omega)
          clear hB
          go_wp2
          go_roundg k1
          case measure => have := HK.out; omega
          case rel => exact ⟨i + 1, nextI HL.out HI.out, ⟨nextK HK.out HI.out⟩, ⟨_, D3.out.same (fun p => by rw [HTK.out, cut_snoc, high_no HB1.out, Bool.or_false])⟩⟩
    · have c0 : decide ((i : Int) < (l0.length : Int)) = false := decide_eq_false (by omega)
      have c0' : decide (i < l0.length) = false := decide_eq_false hi
      obtain ⟨c, hC⟩ := HC.out
      rw [List.take_of_length_le (by omega)] at hC
      have HCC := Aside0.mk hC
      clear HC hC hi HK
      go_wp2
      go_loopg [9, 10, 11] 65538 (fun kq v9 v10 v11 w' => ∃ (out : List S32) (bg : Int) (p : Nat), v10 = .int .i64 bg ∧ v11 = .int .i64 (p : Int) ∧ Aside0 (p + kq = 65538 ∧ p ≤ 65537 ∧ out.length ≤ p ∧ -1 ≤ bg ∧ bg ≤ 65537) ∧ Aside0 (refGo (cutB l0) (fun p => allowsV l0 a1 a2 p) (65537 - p) p out bg = r) ∧ Aside0 (Kd.R k32 32 w' w.heap.size (fun _ => True) v9 out) ∧ Aside0 (CS w w' c (cutB l0)))
      case atStart => exact ⟨[], -1, 0, rfl, rfl, ⟨by omega, by omega, by simp, by omega, by omega⟩, ⟨HR.out⟩, ⟨Kd.R_nil _ _ _ _ _⟩, HCC⟩
      case round =>
        clear HCC c0 c0'
        obtain ⟨out, bg, p, rfl, rfl, HK, HG, HO, HCC⟩ := hrel
        obtain ⟨k1, rfl⟩ : ∃ k1, gk = k1 + 1 := ⟨gk - 1, by have := HK.out; omega⟩
        obtain ⟨Ao, co, rfl⟩ := Kd.R_slice HO.out
        by_cases hp : p < 65537
        · have d0 : decide ((p : Int) ≤ 65536) = true := decide_eq_true (by omega)
          have d1 : ((p : Int) < 65537) = True := eq_true (by omega)
          have d2 : (65537 ≤ (p : Int)) = False := eq_false (by omega)
          have d3 : (0 ≤ (p : Int) ∧ (p : Int) < 65537) = True := eq_true ⟨by omega, by omega⟩
          have d4 : (0 ≤ (p : Int)) = True := eq_true (by omega)
          obtain ⟨k9, f9⟩ := HCC.out.cell p hp
          have HP := Aside0.mk hp
          have hg := HG.out
          rw [show 65537 - p = (65537 - (p + 1)) + 1 by omega, refGo] at hg
          clear HG hp
          cases hcut : cutB l0 p with
          | false =>
            rw [hcut] at k9
            rw [if_pos hcut] at hg
            have HG := Aside0.mk hg
            clear hg hcut
            go_wp2
            go_roundg k1
            case measure => have := HK.out; omega
            case rel => exact ⟨out, bg, p + 1, (by first | rfl | (simp; done) | (simp [*]; done)), nextP HP.out, ⟨step_same HK.out HP.out⟩, ⟨HG.out⟩, ⟨HO.out⟩, ⟨HCC.out⟩⟩
          | true =>
            rw [hcut] at k9
            rw [if_neg (by rw [hcut]; simp)] at hg
            clear hcut
            have HAL := Aside0.mk (ref_Allows_eq l0 (by have := HL.out; omega) a1 a2 (p : Int) (l0.length + 2) (by omega))
            cases hok : allowsV l0 a1 a2 (p : Int) with
            | true =>
              rw [if_pos hok] at hg
              rw [hok] at HAL
              have HG0 := Aside0.mk hg
              clear hg hok
              go_wp2_with fail
              refine (causewayref20_Allows.calls (l0.length + 2) _ _ l0 a1 a2 (p : Int) true _ (Kd.C_below HR0.out HCC.out.b) HC0.out HAL.out).mono ?_
              rintro e w2 ⟨rfl, hb2⟩
              have HO2 := Aside0.mk (Kd.R_below HO.out hb2)
              have HC2 := Aside0.mk (HCC.out.later hb2)
              clear hb2 k9 f9 HCC HO
              by_cases hbg : bg < 0
              · have e1 : decide (bg < 0) = true := decide_eq_true hbg
                have HG : Aside0 (refGo (cutB l0) (fun p => allowsV l0 a1 a2 p) (65537 - (p + 1)) (p + 1) out (p : Int) = r) := ⟨by have := HG0.out; rwa [if_pos hbg] at this⟩
                clear hbg HG0
                go_wp2
                go_roundg k1
                case measure => have := HK.out; omega
                case rel => exact ⟨out, (p : Int), p + 1, (by first | rfl | (simp; done) | (simp [*]; done)), nextP HP.out, ⟨step_begin HK.out HP.out⟩, ⟨HG.out⟩, ⟨HO2.out⟩, ⟨HC2.out⟩⟩
              · have e1 : decide (bg < 0) = false := decide_eq_false hbg
                have HG : Aside0 (refGo (cutB l0) (fun p => allowsV l0 a1 a2 p) (65537 - (p + 1)) (p + 1) out bg = r) := ⟨by have := HG0.out; rwa [if_neg hbg] at this⟩
                clear hbg HG0
                go_wp2
                go_roundg k1
                case measure => have := HK.out; omega
                case rel => exact ⟨out, bg, p + 1, (by first | rfl | (simp; done) | (simp [*]; done)), nextP HP.out, ⟨step_same HK.out HP.out⟩, ⟨HG.out⟩, ⟨HO2.out⟩, ⟨HC2.out⟩⟩
            | false =>
              rw [if_neg (by rw [hok]; simp)] at hg
              rw [hok] at HAL
              have HG0 := Aside0.mk hg
              clear hg hok
              go_wp2_with fail
              refine (causewayref20_Allows.calls (l0.length + 2) _ _ l0 a1 a2 (p : Int) false _ (Kd.C_below HR0.out HCC.out.b) HC0.out HAL.out).mono ?_
              rintro e w2 ⟨rfl, hb2⟩
              have HO2 := Aside0.mk (Kd.R_below HO.out hb2)
              have HC2 := Aside0.mk (HCC.out.later hb2)
              clear hb2 k9 f9 HCC HO
              by_cases hbg : 0 ≤ bg
              · have e1 : decide (0 ≤ bg) = true := decide_eq_true hbg
                have e2 : wrap64 ((p : Int) - 1) = (p : Int) - 1 := by unfold wrap64; have := HP.out; omega
                have e3 : IntKind.i64.wrap ((p : Int) - 1) = (p : Int) - 1 := by rw [IntKind.wrap_i64]; have := HP.out; omega
                have HG : Aside0 (refGo (cutB l0) (fun p => allowsV l0 a1 a2 p) (65537 - (p + 1)) (p + 1) (out ++ [⟨bg, (p : Int) - 1⟩]) (-1) = r) := ⟨by have := HG0.out; rwa [if_pos hbg] at this⟩
                clear hbg HG0
                go_wp2_with (first | ((with_reducible refine gate_builtin (b := .append) (xs := #[.tmp 87, .tmp 92]) rfl ?_); at_builtin; refine Kd.R_append k32 (w0 := w) w.heap.size rfl (.tmp 87) (.tmp 92) 27 32 (.agg #[(.int .i64 0), (.int .i64 0)]) 16 rfl Tryd.underlying27 info32 rfl (by decide) (by omega) (.slice Ao out.length co) out (⟨bg, (p : Int) - 1⟩ : S32) [.int .i64 bg, .int .i64 ((p : Int) - 1)] (fun _ => True) (fun _ => False) rfl rfl ?aP (fun _ hk => hk.elim) ?aF ?aO ?aB ?aS ?aL ?_; (case aP => exact k32_mkM _ _ _ (⟨bg, (p : Int) - 1⟩ : S32)); (case aB => exact HC2.out.b); (case aF => exact (fun _ _ => trivial)); (case aO => exact HO2.out); (case aS => exact HC2.out.b.size); (case aL => have := HK.out; omega); intro v141 w3 ho hb hgr hat; have HO3 := Aside0.mk ho; have HC3 := Aside0.mk (CS.grown HC2.out hb hgr (Kd.R_ne HO2.out HC2.out.bk (by decide))); clear ho hb hgr hat HO2 HC2))
                go_roundg k1
                case measure => have := HK.out; omega
                case rel => exact ⟨out ++ [⟨bg, (p : Int) - 1⟩], -1, p + 1, (by first | rfl | (simp; done) | (simp [*]; done)), nextP HP.out, ⟨step_add HK.out HP.out⟩, ⟨HG.out⟩, ⟨HO3.out⟩, ⟨HC3.out⟩⟩
              · have e1 : decide (0 ≤ bg) = false := decide_eq_false hbg
                have HG : Aside0 (refGo (cutB l0) (fun p => allowsV l0 a1 a2 p) (65537 - (p + 1)) (p + 1) out bg = r) := ⟨by have := HG0.out; rwa [if_neg hbg] at this⟩
                clear hbg HG0
                go_wp2
                go_roundg k1
                case measure => have := HK.out; omega
                case rel => exact ⟨out, bg, p + 1, (by first | rfl | (simp; done) | (simp [*]; done)), nextP HP.out, ⟨step_same HK.out HP.out⟩, ⟨HG.out⟩, ⟨HO2.out⟩, ⟨HC2.out⟩⟩
        · have d0 : decide ((p : Int) ≤ 65536) = false := decide_eq_false (by omega)
          have hg := HG.out
          rw [show 65537 - p = 0 by omega, refGo] at hg
          subst hg
          clear HG hp
          go_wp2
          go_ret
          exact ⟨_, rfl, HO.out, HCC.out.b⟩
end Go.Proofs.YtglnnlpkhjijhaaDoor.PA
