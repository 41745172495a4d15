/- acl.Text: the text of rules, for all rules. -/
import Derived.Test.YtglnnlpkhjijhaaGreatDoorPAyWord
import Derived.Test.YtglnnlpkhjijhaaGreatDoorExtL
import Derived.Lib.Hide
import Derived.Lib.ItoaLen
set_option linter.unusedVariables false
set_option linter.unusedSimpArgs false
namespace Go.Proofs.YtglnnlpkhjijhaaGreatDoor.PA
open Go.RowKit Go.Proofs.YtglnnlpkhjijhaaGreatDoorW.PrintWords Go.Proofs.YtglnnlpkhjijhaaGreatDoorW.PrintLast Go.Proofs.YtglnnlpkhjijhaaGreatDoorW.PrintMore

/-- The ports' word of a rule. -/
def atOf (lo hi : Int) : List UInt8 := if lo = 0 ∧ hi = 65535 then [42] else if lo < hi then Lib.itoa lo ++ ([45] ++ Lib.itoa hi) else Lib.itoa lo
def whatOf (b : Bool) : List UInt8 := if b = true then [97, 108, 108, 111, 119] else [100, 101, 110, 121]
def lineOf (r : S36) (a b : ByteArray) : List UInt8 := Lib.join [whatOf r.f0, a.data.toList, [62], b.data.toList, atOf r.f3 r.f4] [32] ++ [10]
def textL0 : List S36 → List UInt8 → Option (ByteArray × Int)
  | [], acc => some (if 1024 < acc.length then (⟨#[]⟩, 5) else (⟨acc.toArray⟩, 0))
  | r :: rs, acc => (acl_may.f r.f0 r.f1 r.f2 r.f3 r.f4).bind fun ok => if ok = false then some (⟨#[]⟩, 2) else
    (acl_word.f 20 r.f1).bind fun a => (acl_word.f 20 r.f2).bind fun b => if a.size ≤ 1000 ∧ b.size ≤ 1000 ∧ 0 ≤ r.f3 ∧ r.f3 ≤ 65535 ∧ 0 ≤ r.f4 ∧ r.f4 ≤ 65535 ∧ acc.length ≤ 1000000000 then textL0 rs (acc ++ lineOf r a b) else none
def acl_Text.f (l : List S36) : Option (ByteArray × Int) := if 32 < l.length then some (⟨#[]⟩, 5) else textL0 l []

/-- A world within a round: the rule's own block, the builder, and what lies below. -/
structure TS (w W : World) (g : Nat) (x0 : Bool) (x1 x2 x3 x4 : Int) (acc : List UInt8) : Prop where
  bk : W.heap[g]? = some (.cells #[.bool x0, .int .i64 x1, .int .i64 x2, .int .i64 x3, .int .i64 x4] 36 (0, 0))
  ib : Lib.IsBuilder 55 5 w.heap.size w.heap.size (Lib.byteCells acc) W
  b : Below w.heap.size w W
variable {w W W' : World} {g : Nat} {x0 : Bool} {x1 x2 x3 x4 : Int} {acc : List UInt8}
theorem builderAt_below {T e : TypeId} {B b : Nat} {p : Value} {bs : List Value} (h : Lib.BuilderAt T e B b p bs W) (hb : Below W.heap.size W W') : Lib.BuilderAt T e B b p bs W' := by
  obtain ⟨h1, v, h2, h3, h4⟩ := h
  exact ⟨h1, v, (hb.block _ (Array.getElem?_eq_some_iff.1 h2).1).trans h2, pw_own_below h3 hb, h4⟩
theorem isBuilder_below {T e : TypeId} {B b : Nat} {bs : List Value} (h : Lib.IsBuilder T e B b bs W) (hb : Below W.heap.size W W') : Lib.IsBuilder T e B b bs W' :=
  h.imp (fun h => builderAt_below h hb) (fun h => builderAt_below h hb)
theorem TS.later (h : TS w W g x0 x1 x2 x3 x4 acc) (hb : Below W.heap.size W W') : TS w W' g x0 x1 x2 x3 x4 acc :=
  ⟨(hb.block _ (Array.getElem?_eq_some_iff.1 h.bk).1).trans h.bk, isBuilder_below h.ib hb, below_step h.b hb⟩
theorem TS.new (hI : Lib.IsBuilder 55 5 w.heap.size w.heap.size (Lib.byteCells acc) W) (hB : Below w.heap.size w W) :
    TS w (W.alloc (.cells #[.bool x0, .int .i64 x1, .int .i64 x2, .int .i64 x3, .int .i64 x4] 36)) W.heap.size x0 x1 x2 x3 x4 acc :=
  have hb : Below W.heap.size W (W.alloc (.cells #[.bool x0, .int .i64 x1, .int .i64 x2, .int .i64 x3, .int .i64 x4] 36)) := (Below.refl _ W).alloc (Nat.le_refl _) _
  ⟨heap_alloc_new W _, isBuilder_below hI hb, below_step hB hb⟩
theorem TS.drew (h : TS w W g x0 x1 x2 x3 x4 acc) : TS w W.drew g x0 x1 x2 x3 x4 acc :=
  ⟨h.bk, h.ib.imp (fun h => h.drew) (fun h => h.drew), below_drew1 h.b⟩
theorem TS.cells (h : TS w W g x0 x1 x2 x3 x4 acc) : W.cell? ⟨g, 0, none⟩ = some (.bool x0) ∧ W.cell? ⟨g, 1, none⟩ = some (.int .i64 x1) ∧ W.cell? ⟨g, 2, none⟩ = some (.int .i64 x2) ∧ W.cell? ⟨g, 3, none⟩ = some (.int .i64 x3) ∧ W.cell? ⟨g, 4, none⟩ = some (.int .i64 x4) := by
  have hk := h.bk
  simp [World.cell?, hk]

theorem row5 (w : World) (a b c d e : ByteArray) (j : Nat) (x : ByteArray) (h : [a, b, c, d, e][j]? = some x) :
    (w.alloc (.cells #[.string a, .string b, .string c, .string d, .string e] 9)).cell? ⟨w.heap.size, 0 + j, none⟩ = some (.string x) := by
  rw [World.cell?_alloc_new, Nat.zero_add]
  match j, h with
  | 0, h => exact congrArg (fun o => o.map Value.string) h
  | 1, h => exact congrArg (fun o => o.map Value.string) h
  | 2, h => exact congrArg (fun o => o.map Value.string) h
  | 3, h => exact congrArg (fun o => o.map Value.string) h
  | 4, h => exact congrArg (fun o => o.map Value.string) h
  | j + 5, h => simp at h
theorem line_few {a b : ByteArray} {x0 : Bool} {x3 x4 : Int} {acc : List UInt8} (h : a.size ≤ 1000 ∧ b.size ≤ 1000 ∧ 0 ≤ x3 ∧ x3 ≤ 65535 ∧ 0 ≤ x4 ∧ x4 ≤ 65535 ∧ acc.length ≤ 1000000000) :
    (Lib.join ([(⟨(whatOf x0).toArray⟩ : ByteArray), a, ⟨#[62]⟩, b, ⟨(atOf x3 x4).toArray⟩].map (·.data.toList)) (⟨#[32]⟩ : ByteArray).data.toList).length ≤ 10000 := by
  have ha : a.data.toList.length ≤ 1000 := by rw [Array.length_toList]; exact h.1
  have hb : b.data.toList.length ≤ 1000 := by rw [Array.length_toList]; exact h.2.1
  have hw : (whatOf x0).length ≤ 5 := by unfold whatOf; split <;> simp
  have h3 := Lib.itoa_length_le x3 (by omega) (by omega)
  have h4 := Lib.itoa_length_le x4 (by omega) (by omega)
  have hat : (atOf x3 x4).length ≤ 50 := by
    unfold atOf
    split
    · simp
    · split
      · simp; omega
      · omega
  simp only [List.map_cons, List.map_nil]
  rw [Lib.join_length]
  simp only [Lib.lens, List.map_cons, List.map_nil, List.sum_cons, List.sum_nil, List.length_cons, List.length_nil]
  omega
theorem line_ok {a b : ByteArray} {x0 : Bool} {x3 x4 : Int} {acc : List UInt8} (h : a.size ≤ 1000 ∧ b.size ≤ 1000 ∧ 0 ≤ x3 ∧ x3 ≤ 65535 ∧ 0 ≤ x4 ∧ x4 ≤ 65535 ∧ acc.length ≤ 1000000000) :
    ¬ (9223372036854775807 < (Lib.join [whatOf x0, a.data.toList, [62], b.data.toList, atOf x3 x4] [32]).length + 1) := by
  have := line_few (x0 := x0) h
  simp only [List.map_cons, List.map_nil] at this
  omega
theorem write_few {a b : ByteArray} {x0 : Bool} {x3 x4 : Int} {acc : List UInt8} (h : a.size ≤ 1000 ∧ b.size ≤ 1000 ∧ 0 ≤ x3 ∧ x3 ≤ 65535 ∧ 0 ≤ x4 ∧ x4 ≤ 65535 ∧ acc.length ≤ 1000000000) :
    (Lib.byteCells acc).length + ((⟨(Lib.join ([(⟨(whatOf x0).toArray⟩ : ByteArray), a, ⟨#[62]⟩, b, ⟨(atOf x3 x4).toArray⟩].map (·.data.toList)) (⟨#[32]⟩ : ByteArray).data.toList).toArray⟩ : ByteArray) ++ ⟨#[10]⟩).size ≤ 140737488355328 := by
  have h1 := line_few (x0 := x0) h
  have h2 := h.2.2.2.2.2.2
  rw [Lib.byteCells_length, ByteArray.size_append]
  simp only [ByteArray.size, List.size_toArray] at h1 ⊢
  simp at h1 ⊢
  omega
theorem line_cells {a b : ByteArray} {x0 : Bool} {x1 x2 x3 x4 : Int} {acc : List UInt8} : Lib.byteCells (acc ++ lineOf ⟨x0, x1, x2, x3, x4⟩ a b) =
    Lib.byteCells acc ++ Lib.strCells ((⟨(Lib.join ([(⟨(whatOf x0).toArray⟩ : ByteArray), a, ⟨#[62]⟩, b, ⟨(atOf x3 x4).toArray⟩].map (·.data.toList)) (⟨#[32]⟩ : ByteArray).data.toList).toArray⟩ : ByteArray) ++ ⟨#[10]⟩) := by
  rw [Lib.byteCells_append, Lib.strCells_eq]
  congr 2
theorem next_i {i n : Nat} (hn : n ≤ 32) (hi : i < n) : Value.int .i64 (wrap64 ((i : Int) + 1)) = Value.int .i64 ((i + 1 : Nat) : Int) := by
  congr 1
  unfold wrap64
  omega
theorem next_k {i n k : Nat} (h : i + (k + 1) = n + 1 ∧ i ≤ n) (hi : i < n) : i + 1 + k = n + 1 ∧ i + 1 ≤ n := by omega
theorem itoa_few {x : Int} (h0 : 0 ≤ x) (h1 : x ≤ 65535) : (Lib.itoa x).length ≤ 21 := Lib.itoa_length_le x (by omega) (by omega)
theorem sum_few {a b : Nat} (ha : a ≤ 21) (hb : b ≤ 21) : (9223372036854775807 < a + (1 + b)) = False := eq_false (by omega)
theorem one_few {b : Nat} (hb : b ≤ 21) : (9223372036854775807 < 1 + b) = False := eq_false (by omega)
theorem itoa_ok {x : Int} (h0 : 0 ≤ x) (h1 : x ≤ 65535) : strconv_Itoa.f x = some ⟨(Lib.itoa x).toArray⟩ := by unfold strconv_Itoa.f; rw [if_pos ⟨by omega, by omega⟩]
theorem at_else {x y : Int} (h : ¬ (x = 0 ∧ y = 65535)) (hn : ¬ x < y) : atOf x y = Lib.itoa x := by unfold atOf; rw [if_neg h, if_neg hn]
theorem at_span {x y : Int} (h : ¬ (x = 0 ∧ y = 65535)) (hn : x < y) : atOf x y = Lib.itoa x ++ ([45] ++ Lib.itoa y) := by unfold atOf; rw [if_neg h, if_pos hn]
theorem not_lt' {x y : Int} (h : y ≤ x) : ¬ x < y := by omega

set_option maxHeartbeats 8000000 in
set_option maxRecDepth 100000 in
theorem acl_Text.calls (A0 : Option Addr) (c0 : Nat) (l0 : List S36) (r1 : ByteArray) (r2 : Int) (w : World) (hr0 : Kd.C k36 w A0 l0.length l0) (hc0 : l0.length ≤ c0) (hx : LaidW w) (h : acl_Text.f l0 = some (r1, r2)) :
    Calls Tryz.prog 12 #[.slice A0 l0.length c0] w fun e w' => e = .returned (.tuple #[.string r1, .int .i64 r2]) ∧ Below w.heap.size w w' := by
  have HR0 := Aside0.mk hr0
  have HC0 := Aside0.mk hc0
  have HX := Aside0.mk hx
  clear hr0 hc0 hx
  by_cases h32 : 32 < l0.length
  · have hb : decide ((32 : Int) < (l0.length : Int)) = true := decide_eq_true (by omega)
    unfold acl_Text.f at h
    rw [if_pos h32] at h
    simp only [Option.some.injEq, Prod.mk.injEq] at h
    obtain ⟨rfl, rfl⟩ := h
    go_enter Tryz.func12, Tryz.ntmps12
    go_wp2
    go_ret2
    exact ⟨rfl, Below.refl _ _⟩
  · have hb : decide ((32 : Int) < (l0.length : Int)) = false := decide_eq_false (by omega)
    unfold acl_Text.f at h
    rw [if_neg h32] at h
    have HL := Aside0.mk (show l0.length ≤ 32 by omega)
    have HT := Aside0.mk h
    clear h h32
    go_enter Tryz.func12, Tryz.ntmps12
    go_wp2
    go_loopg [14] (l0.length + 1) (fun kq v14 w' => ∃ (i : Nat) (acc : List UInt8), v14 = .int .i64 (i : Int) ∧ Aside0 (textL0 (l0.drop i) acc = some (r1, r2)) ∧ Aside0 (i + kq = l0.length + 1 ∧ i ≤ l0.length) ∧ Aside0 (Lib.IsBuilder 55 5 w.heap.size w.heap.size (Lib.byteCells acc) w') ∧ Aside0 (Below w.heap.size w w'))
    case atStart => exact ⟨0, [], rfl, ⟨HT.out⟩, ⟨by omega, by omega⟩, ⟨Lib.fresh_isBuilder 55 5 w⟩, ⟨(Below.refl _ w).alloc (Nat.le_refl _) _⟩⟩
    case round =>
      clear HT
      obtain ⟨i, acc, rfl, HA, HK, HI, HB⟩ := hrel
      obtain ⟨k1, rfl⟩ : ∃ k1, gk = k1 + 1 := ⟨gk - 1, by have := HK.out; omega⟩
      by_cases hi : i < l0.length
      · have c0 : decide ((i : Int) < (l0.length : Int)) = true := decide_eq_true (by omega)
        have p1 : 0 ≤ (i : Int) := by omega
        have q1 : (i : Int) < (l0.length : Int) := by omega
        have hrd : rd_T36 l0 (i : Int) = l0.getD i z36 := by unfold rd_T36; rw [show ((i : Int)).toNat = i by omega]
        obtain ⟨ad, e1, hx0, hx1, hx2, hx3, hx4⟩ := at_T36 HR0.out (i : Int) p1 q1
        cases e1
        rw [hrd] at hx0 hx1 hx2 hx3 hx4
        replace hx0 := (HB.out.cell (World.block_lt_of_cell? w _ hx0)).trans hx0
        replace hx1 := (HB.out.cell (World.block_lt_of_cell? w _ hx1)).trans hx1
        replace hx2 := (HB.out.cell (World.block_lt_of_cell? w _ hx2)).trans hx2
        replace hx3 := (HB.out.cell (World.block_lt_of_cell? w _ hx3)).trans hx3
        replace hx4 := (HB.out.cell (World.block_lt_of_cell? w _ hx4)).trans hx4
        obtain ⟨r, hr⟩ : ∃ r, r = l0.getD i z36 := ⟨_, rfl⟩
        rw [← hr] at hx0 hx1 hx2 hx3 hx4
        simp only [Int.toNat_natCast] at hx0 hx1 hx2 hx3 hx4
        have hdrop : l0.drop i = r :: l0.drop (i + 1) := by
          rw [List.drop_eq_getElem_cons hi, hr, List.getD_eq_getElem?_getD, List.getElem?_eq_getElem hi]; rfl
        have H := HA.out
        rw [hdrop, textL0] at H
        clear HA hrd hr
        obtain ⟨x0, x1, x2, x3, x4⟩ := r
        simp only at H hx0 hx1 hx2 hx3 hx4
        replace H := Option.bind_eq_some_iff.mp H
        obtain ⟨ok, A1, H⟩ := H
        have A1' := Aside0.mk A1
        have H' := Aside0.mk H
        have HI' := Aside0.mk hi
        have HD := Aside0.mk hdrop
        clear A1 H hi hdrop
        replace p1 := eq_true p1
        replace q1 := eq_true q1
        cases ok with
        | false =>
          have H := H'.out
          rw [if_pos rfl] at H
          simp only [Option.some.injEq, Prod.mk.injEq] at H
          obtain ⟨rfl, rfl⟩ := H
          go_wp2_with fail
          refine (acl_may.calls _ _ _ _ _ false _ A1'.out).mono ?_
          rintro e w1 ⟨rfl, hb1⟩
          go_wp2
          go_ret2
          exact ⟨rfl, ((TS.new HI.out HB.out).later hb1).b⟩
        | true =>
          have H := H'.out
          rw [if_neg (by simp)] at H
          replace H := Option.bind_eq_some_iff.mp H
          obtain ⟨a, A2, H⟩ := H
          replace H := Option.bind_eq_some_iff.mp H
          obtain ⟨b, A3, H⟩ := H
          have A2' := Aside0.mk A2
          have A3' := Aside0.mk A3
          by_cases hg : a.size ≤ 1000 ∧ b.size ≤ 1000 ∧ 0 ≤ x3 ∧ x3 ≤ 65535 ∧ 0 ≤ x4 ∧ x4 ≤ 65535 ∧ acc.length ≤ 1000000000
          · rw [if_pos hg] at H
            have HG := Aside0.mk hg
            have HN := Aside0.mk H
            clear A2 A3 H H' hg
            go_wp2_with fail
            refine (acl_may.calls _ _ _ _ _ true _ A1'.out).mono ?_
            rintro e w1 ⟨rfl, hb1⟩
            have T1 := Aside0.mk ((TS.new (x0 := x0) (x1 := x1) (x2 := x2) (x3 := x3) (x4 := x4) HI.out HB.out).later hb1)
            clear hb1 hx0 hx1 hx2 hx3 hx4
            obtain ⟨k0, k1, k2, k3, k4⟩ := T1.out.cells
            generalize hgg : wr.heap.size = g at T1 k0 k1 k2 k3 k4 ⊢
            clear hgg
            go_wp2_with fail
            refine (strconv_Itoa.calls x3 ⟨(Lib.itoa x3).toArray⟩ _ (HX.out.below T1.out.b) (itoa_ok HG.out.2.2.1 HG.out.2.2.2.1)).mono ?_
            rintro e w2 ⟨rfl, hb2⟩
            have T2 := Aside0.mk (T1.out.later hb2)
            clear T1 hb2 k0 k1 k2 k3 k4
            obtain ⟨k0, k1, k2, k3, k4⟩ := T2.out.cells
            go_upto_if 25 with (fail)
            go_cut [7] (fun v7 wc => v7 = .string ⟨(whatOf x0).toArray⟩ ∧ wc = w2)
            case first =>
              rcases Bool.eq_false_or_eq_true x0 with rfl | rfl
              · go_wp2
                go_meet
                exact ⟨rfl, rfl⟩
              · go_wp2
                go_meet
                exact ⟨rfl, rfl⟩
            case rest =>
              obtain ⟨rfl, rfl⟩ := hcut
              go_upto_block 2 with fail
              go_cut [8] (fun v8 wc => v8 = .string ⟨(atOf x3 x4).toArray⟩ ∧ Aside0 (TS w wc g x0 x1 x2 x3 x4 acc))
              case first =>
                by_cases h1 : x3 = 0
                · by_cases h2 : x4 = 65535
                  · have HE : Aside0 (atOf x3 x4 = [42]) := ⟨by unfold atOf; rw [if_pos ⟨h1, h2⟩]⟩
                    have c0 : (x3 == 0) = true := beq_iff_eq.2 h1
                    have c1 : (x4 == 65535) = true := beq_iff_eq.2 h2
                    clear h1 h2
                    go_wp2_with fail
                    go_meet
                    exact ⟨by rw [HE.out], T2⟩
                  · have c0 : (x3 == 0) = true := beq_iff_eq.2 h1
                    have c1 : (x4 == 65535) = false := beq_eq_false_iff_ne.2 h2
                    have HH2 := Aside0.mk h2
                    clear h1 h2
                    by_cases hlt : x3 < x4
                    · have HLT := Aside0.mk hlt
                      have c2 : decide (x3 < x4) = true := decide_eq_true hlt
                      clear hlt
                      go_wp2_with fail
                      refine (strconv_Itoa.calls x4 ⟨(Lib.itoa x4).toArray⟩ _ (HX.out.below T2.out.b) (itoa_ok HG.out.2.2.2.2.1 HG.out.2.2.2.2.2.1)).mono ?_
                      rintro e w3 ⟨rfl, hb3⟩
                      have T3 := Aside0.mk (T2.out.later hb3)
                      clear hb3
                      have L34 := sum_few (itoa_few HG.out.2.2.1 HG.out.2.2.2.1) (itoa_few HG.out.2.2.2.2.1 HG.out.2.2.2.2.2.1)
                      have L4 := one_few (itoa_few HG.out.2.2.2.2.1 HG.out.2.2.2.2.2.1)
                      go_wp2_with fail
                      go_meet
                      exact ⟨by rw [at_span (fun h => HH2.out h.2) HLT.out]; rfl, T3⟩
                    · have c2 : decide (x3 < x4) = false := decide_eq_false hlt
                      have HLT := Aside0.mk hlt
                      clear hlt
                      go_wp2_with fail
                      go_meet
                      exact ⟨by rw [at_else (fun h => HH2.out h.2) (not_lt' HLT.out)], T2⟩
                · have c0 : (x3 == 0) = false := beq_eq_false_iff_ne.2 h1
                  have HH2 := Aside0.mk h1
                  clear h1
                  by_cases hlt : x3 < x4
                  · have HLT := Aside0.mk hlt
                    have c2 : decide (x3 < x4) = true := decide_eq_true hlt
                    clear hlt
                    go_wp2_with fail
                    refine (strconv_Itoa.calls x4 ⟨(Lib.itoa x4).toArray⟩ _ (HX.out.below T2.out.b) (itoa_ok HG.out.2.2.2.2.1 HG.out.2.2.2.2.2.1)).mono ?_
                    rintro e w3 ⟨rfl, hb3⟩
                    have T3 := Aside0.mk (T2.out.later hb3)
                    clear hb3
                    have L34 := sum_few (itoa_few HG.out.2.2.1 HG.out.2.2.2.1) (itoa_few HG.out.2.2.2.2.1 HG.out.2.2.2.2.2.1)
                    have L4 := one_few (itoa_few HG.out.2.2.2.2.1 HG.out.2.2.2.2.2.1)
                    go_wp2_with fail
                    go_meet
                    exact ⟨by rw [at_span (fun h => HH2.out h.1) HLT.out]; rfl, T3⟩
                  · have c2 : decide (x3 < x4) = false := decide_eq_false hlt
                    have HLT := Aside0.mk hlt
                    clear hlt
                    go_wp2_with fail
                    go_meet
                    exact ⟨by rw [at_else (fun h => HH2.out h.1) (not_lt' HLT.out)], T2⟩
              case rest =>
                obtain ⟨rfl, T4⟩ := hcut
                clear T2 k0 k1 k2 k3 k4
                go_upto_region 16 with fail
                refine start_ (n := 12) (S := fun w' => TS w w' g x0 x1 x2 x3 x4 acc) (ds := [11]) #[false, false, false, false, false, false, false, false, false, false, false, false] (by kernel_rfl) rfl rfl T4.out.drew (fun hHeld => ?_)
                clear T4
                generalize wc.drew = w5 at hHeld ⊢
                refine pure_ (i := 0) (N := some 47) (v := ?_) (a' := ?_) #[true, false, false, false, false, false, false, false, false, false, false, false] rfl rfl (by kernel_rfl) (fun _ _ _ h => h) (Or.inl ⟨by rfl, ?_⟩) ?_ ?_
                rotate_left
                · intro w'
                  go_simp
                  with_reducible rfl
                rotate_left
                · simp only [Act.put, List.setIfInBounds_toArray, List.set_cons_zero, List.set_cons_succ, i64_w, i32_w]
                  rfl
                refine pure_ (i := 1) (N := some 48) (v := ?_) (a' := ?_) #[true, true, false, false, false, false, false, false, false, false, false, false] rfl rfl (by kernel_rfl) (fun _ _ _ h => h) (Or.inl ⟨by rfl, ?_⟩) ?_ ?_
                rotate_left
                · intro w'
                  go_simp
                  with_reducible rfl
                rotate_left
                · simp only [Act.put, List.setIfInBounds_toArray, List.set_cons_zero, List.set_cons_succ, i64_w, i32_w]
                  rfl
                refine pure_ (i := 4) (N := some 51) (v := ?_) (a' := ?_) #[true, true, false, false, true, false, false, false, false, false, false, false] rfl rfl (by kernel_rfl) (fun _ _ _ h => h) (Or.inl ⟨by rfl, ?_⟩) ?_ ?_
                rotate_left
                · intro w'
                  go_simp
                  with_reducible rfl
                rotate_left
                · simp only [Act.put, List.setIfInBounds_toArray, List.set_cons_zero, List.set_cons_succ, i64_w, i32_w]
                  rfl
                refine pure_ (i := 7) (N := some 54) (v := ?_) (a' := ?_) #[true, true, false, false, true, false, false, true, false, false, false, false] rfl rfl (by kernel_rfl) (fun _ _ _ h => h) (Or.inl ⟨by rfl, ?_⟩) ?_ ?_
                rotate_left
                · intro w'
                  go_simp
                  with_reducible rfl
                rotate_left
                · simp only [Act.put, List.setIfInBounds_toArray, List.set_cons_zero, List.set_cons_succ, i64_w, i32_w]
                  rfl
                refine take_ (i := 2) (N := some 49) (v := ?_) (a' := ?_) #[true, true, true, false, true, false, false, true, false, false, false, false] rfl rfl (by kernel_rfl) (fun _ _ _ h => h) (Or.inl ⟨by rfl, ?_⟩) hHeld ?_ ?_
                rotate_left
                · rintro w' hs
                  obtain ⟨s0, s1, s2, s3, s4⟩ := hs.cells
                  go_simp
                  with_reducible rfl
                rotate_left
                · simp only [Act.put, List.setIfInBounds_toArray, List.set_cons_zero, List.set_cons_succ, i64_w, i32_w]
                  rfl
                refine take_ (i := 5) (N := some 52) (v := ?_) (a' := ?_) #[true, true, true, false, true, true, false, true, false, false, false, false] rfl rfl (by kernel_rfl) (fun _ _ _ h => h) (Or.inl ⟨by rfl, ?_⟩) hHeld ?_ ?_
                rotate_left
                · rintro w' hs
                  obtain ⟨s0, s1, s2, s3, s4⟩ := hs.cells
                  go_simp
                  with_reducible rfl
                rotate_left
                · simp only [Act.put, List.setIfInBounds_toArray, List.set_cons_zero, List.set_cons_succ, i64_w, i32_w]
                  rfl
                refine one_ (i := 3) (N := some 50) #[true, true, true, true, true, true, false, true, false, false, false, false] rfl rfl (by kernel_rfl) (by decide) (fun K hK => ?_)
                refine goes_ Tryz.func30 (by kernel_rfl) rfl #[.int .i64 x1] (by rfl) rfl rfl (by (try simp only [List.map_toArray, List.map_cons, List.map_nil]); first | done | rfl) ?_
                refine (acl_word.calls 20 x1 a _ (HX.out.below hHeld.b) A2'.out).mono ?_
                rintro e w6 ⟨rfl, hb⟩
                refine ⟨_, rfl, ?_⟩
                have hS_ := hHeld.later hb
                clear hb
                refine hK.out _ _ hS_ (fun hHeld => ?_)
                clear hK K
                refine norm_ (a' := ?_) ?_ ?_
                rotate_left
                · show Act.put _ (some 50) _ = _
                  simp only [Act.put, List.setIfInBounds_toArray, List.set_cons_zero, List.set_cons_succ, i64_w, i32_w]
                  rfl
                refine one_ (i := 6) (N := some 53) #[true, true, true, true, true, true, true, true, false, false, false, false] rfl rfl (by kernel_rfl) (by decide) (fun K hK => ?_)
                refine goes_ Tryz.func30 (by kernel_rfl) rfl #[.int .i64 x2] (by rfl) rfl rfl (by (try simp only [List.map_toArray, List.map_cons, List.map_nil]); first | done | rfl) ?_
                refine (acl_word.calls 20 x2 b _ (HX.out.below hHeld.b) A3'.out).mono ?_
                rintro e w7 ⟨rfl, hb⟩
                refine ⟨_, rfl, ?_⟩
                have hS_ := hHeld.later hb
                clear hb
                refine hK.out _ _ hS_ (fun hHeld => ?_)
                clear hK K
                refine norm_ (a' := ?_) ?_ ?_
                rotate_left
                · show Act.put _ (some 53) _ = _
                  simp only [Act.put, List.setIfInBounds_toArray, List.set_cons_zero, List.set_cons_succ, i64_w, i32_w]
                  rfl
                refine one_ (i := 8) (N := some 55) #[true, true, true, true, true, true, true, true, true, false, false, false] rfl rfl (by kernel_rfl) (by decide) (fun K hK => ?_)
                refine value_ (v := .slice (some ⟨w7.heap.size, 0, none⟩) 5 5) (w1 := w7.alloc (.cells #[.string ⟨(whatOf x0).toArray⟩, .string a, .string ⟨#[62]⟩, .string b, .string ⟨(atOf x3 x4).toArray⟩] 9)) (by rfl) rfl ?_ ?_
                · go_simp
                have hS_ := hHeld.later (hb := (Below.refl _ w7).alloc (Nat.le_refl _) (.cells #[.string ⟨(whatOf x0).toArray⟩, .string a, .string ⟨#[62]⟩, .string b, .string ⟨(atOf x3 x4).toArray⟩] 9))
                refine hK.out _ _ hS_ (fun hHeld => ?_)
                clear hK K
                refine norm_ (a' := ?_) ?_ ?_
                rotate_left
                · show Act.put _ (some 55) _ = _
                  simp only [Act.put, List.setIfInBounds_toArray, List.set_cons_zero, List.set_cons_succ, i64_w, i32_w]
                  rfl
                refine one_ (i := 9) (N := some 56) #[true, true, true, true, true, true, true, true, true, true, false, false] rfl rfl (by kernel_rfl) (by decide) (fun K hK => ?_)
                refine goes_ Tryz.func29 (by kernel_rfl) rfl #[.slice (some ⟨w7.heap.size, 0, none⟩) 5 5, .string ⟨#[32]⟩] (by rfl) rfl rfl (by (try simp only [List.map_toArray, List.map_cons, List.map_nil]); first | done | rfl) ?_
                refine (Tryz.strings_Join w7.heap.size 0 5 [⟨(whatOf x0).toArray⟩, a, ⟨#[62]⟩, b, ⟨(atOf x3 x4).toArray⟩] ⟨#[32]⟩ _ (row5 w7 _ _ _ _ _) (by simp) (by simp) (by simp) (Nat.le_trans (line_few HG.out) (by decide))).mono ?_
                rintro e w8 ⟨rfl, hb⟩
                refine ⟨_, rfl, ?_⟩
                have hS_ := hHeld.later hb
                clear hb
                refine hK.out _ _ hS_ (fun hHeld => ?_)
                clear hK K
                refine norm_ (a' := ?_) ?_ ?_
                rotate_left
                · show Act.put _ (some 56) _ = _
                  simp only [Act.put, List.setIfInBounds_toArray, List.set_cons_zero, List.set_cons_succ, i64_w, i32_w]
                  rfl
                refine pure_ (i := 10) (N := some 57) (v := ?_) (a' := ?_) #[true, true, true, true, true, true, true, true, true, true, true, false] rfl rfl (by kernel_rfl) (fun _ _ _ h => h) (Or.inl ⟨by rfl, ?_⟩) ?_ ?_
                rotate_left
                · intro w'
                  go_simp
                  rw [if_neg (line_ok HG.out)]
                rotate_left
                · simp only [Act.put, List.setIfInBounds_toArray, List.set_cons_zero, List.set_cons_succ, i64_w, i32_w]
                  rfl
                refine last_ (i := 11) (N := some 58) #[true, true, true, true, true, true, true, true, true, true, true, true] rfl rfl (by kernel_rfl) (by decide) (fun K hK => ?_)
                refine goes_ Tryz.func28 (by kernel_rfl) rfl #[.pointer (some ⟨w.heap.size, 0, none⟩), .string (⟨(Lib.join ([(⟨(whatOf x0).toArray⟩ : ByteArray), a, ⟨#[62]⟩, b, ⟨(atOf x3 x4).toArray⟩].map (·.data.toList)) (⟨#[32]⟩ : ByteArray).data.toList).toArray⟩ ++ ⟨#[10]⟩)] (by rfl) rfl rfl (by (try simp only [List.map_toArray, List.map_cons, List.map_nil]); first | done | rfl) ?_
                refine (Tryz.Builder_WriteString w.heap.size w.heap.size (Lib.byteCells acc) _ _ hHeld.ib (write_few HG.out) hHeld.b.size).mono ?_
                rintro e w9 ⟨rfl, hib, hb9⟩
                refine ⟨_, rfl, ?_⟩
                have HIB := Aside0.mk hib
                have HB9 := Aside0.mk (hHeld.b.trans hb9)
                clear hib hb9 hHeld
                refine hK.out _ _ ?_
                clear hK K
                refine norm_ (a' := ?_) ?_ ?_
                rotate_left
                · show Act.put _ (some 58) _ = _
                  simp only [Act.put, List.setIfInBounds_toArray, List.set_cons_zero, List.set_cons_succ, i64_w, i32_w]
                  rfl
                refine done_ (by kernel_rfl) ?_
                go_wp2
                go_roundg k1
                case measure => have := HK.out; omega
                case rel => exact ⟨i + 1, acc ++ lineOf ⟨x0, x1, x2, x3, x4⟩ a b, next_i HL.out HI'.out, ⟨HN.out⟩, ⟨next_k HK.out HI'.out⟩, ⟨.inr (by rw [line_cells]; exact HIB.out)⟩, ⟨HB9.out⟩⟩
          · rw [if_neg hg] at H
            cases H
      · have c0 : decide ((i : Int) < (l0.length : Int)) = false := decide_eq_false (by omega)
        have c0' : decide (i < l0.length) = false := decide_eq_false hi
        have H := HA.out
        rw [List.drop_of_length_le (by omega), textL0] at H
        have H' := Aside0.mk (Option.some.inj H)
        clear H HA hi
        go_wp2_with fail
        refine (Tryz.Builder_Len w.heap.size w.heap.size (Lib.byteCells acc) _ HI.out).mono ?_
        rintro e w1 ⟨rfl, rfl⟩
        by_cases hlen : 1024 < acc.length
        · have H2 := H'.out
          rw [if_pos hlen] at H2
          have c1 : decide ((1024 : Int) < ((Lib.byteCells acc).length : Int)) = true := decide_eq_true (by rw [Lib.byteCells_length]; omega)
          have c2 : decide (1024 < (Lib.byteCells acc).length) = true := decide_eq_true (by rw [Lib.byteCells_length]; exact hlen)
          simp only [Prod.mk.injEq] at H2
          obtain ⟨rfl, rfl⟩ := H2
          clear hlen H'
          go_wp2
          go_ret2
          exact ⟨rfl, HB.out⟩
        · have H2 := H'.out
          rw [if_neg hlen] at H2
          have c1 : decide ((1024 : Int) < ((Lib.byteCells acc).length : Int)) = false := decide_eq_false (by rw [Lib.byteCells_length]; omega)
          have c2 : decide (1024 < (Lib.byteCells acc).length) = false := decide_eq_false (by rw [Lib.byteCells_length]; exact hlen)
          simp only [Prod.mk.injEq] at H2
          obtain ⟨rfl, rfl⟩ := H2
          clear hlen H'
          go_wp2_with fail
          refine (Tryz.Builder_String_any w.heap.size w.heap.size acc _ HI.out HB.out.size).mono ?_
          rintro e w2 ⟨rfl, hb2⟩
          go_wp2
          go_ret2
          exact ⟨rfl, HB.out.trans hb2⟩
end Go.Proofs.YtglnnlpkhjijhaaGreatDoor.PA
