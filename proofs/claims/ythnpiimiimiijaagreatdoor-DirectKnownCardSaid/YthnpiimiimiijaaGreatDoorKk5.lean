/- slices.Insert at devices and at keys, one value, the row of the call's own. -/
import Derived.Test.YthnpiimiimiijaaGreatDoorKk4
import Derived.Deep.RegionLaw
import Derived.BigRegion
section
namespace Go.Proofs.YthnpiimiimiijaaGreatDoor.Dir
open Go Go.RowKit Go.Proofs Go.Proofs.YthnpiimiimiijaaGreatDoorW.PrintWords Go.Proofs.YthnpiimiimiijaaGreatDoorW.PrintLast Go.Proofs.YthnpiimiimiijaaGreatDoorW.PrintMore
set_option linter.unusedVariables false
set_option linter.unusedSimpArgs false
theorem grownBy_drew (w : World) (r : Option Nat) : w.grownBy w.drew r := ⟨rfl, rfl, rfl, Nat.le_refl _, fun _ _ _ => rfl⟩
theorem grownBy_new {w W1 W2 W3 : World} {n : Nat} {r : Option Nat} (h2 : W1.grownBy W2 (some n)) (h3 : W2.drew.grownBy W3 (some n)) (h1 : w.grownBy W1 r) (hn : w.heap.size ≤ n) : w.grownBy W3 r := by
 refine ⟨h3.os.trans (h2.os.trans h1.os), h3.tape.trans (h2.tape.trans h1.tape), h3.output.trans (h2.output.trans h1.output), Nat.le_trans h1.size (Nat.le_trans h2.size h3.size), fun k hk hr => ?_⟩
 have e1 := h1.block k hk hr
 have e2 := h2.block k (Nat.lt_of_lt_of_le hk h1.size) (fun e => by have := Option.some.inj e; omega)
 have e3 := h3.block k (Nat.lt_of_lt_of_le hk (Nat.le_trans h1.size h2.size)) (fun e => by have := Option.some.inj e; omega)
 exact e3.trans (e2.trans e1)
set_option maxHeartbeats 4000000 in
set_option maxRecDepth 100000 in
theorem insert119 (w : World) (base : Nat) (A : Option Addr) (c n i : Nat) (xs vs : List Value) (vb : Nat) (h : w.ownsRow base 46 35 (.slice A n c) n xs) (hi : i ≤ n) (hn : n ≤ 100) (hv : w.heap[vb]? = some (.cells vs.toArray 46 (0, 0))) (hvl : vs.length = 35)
  (h1x : ∀ u ∈ xs, u.oneCell' = true) (h1v : ∀ u ∈ vs, u.oneCell' = true) (hne : ∀ k, (Value.slice A n c).ownBlock = some k → k ≠ vb) (hbase : base ≤ w.heap.size) :
  Calls Tryz.prog 119 #[.slice A n c, .int .i64 i, .slice (some ⟨vb, 0, none⟩) 1 1] w fun e w' => ∃ A' c', e = .returned (.slice A' (n + 1) c') ∧ w'.ownsRow base 46 35 (.slice A' (n + 1) c') (n + 1) (xs.take (i * 35) ++ vs ++ xs.drop (i * 35)) ∧ w.grownBy w' (Value.slice A n c).ownBlock := by
 have t22 := Tryz.underlying40
 obtain ⟨z, hz, hzs⟩ := zero46
 have hinf := info46
 obtain ⟨i0, hi0⟩ : ∃ i0, Tryz.prog.info? 46 = some i0 := by
  cases h : Tryz.prog.info? 46 with
  | some i => exact ⟨i, rfl⟩
  | none => rw [h] at hinf; cases hinf
 rw [hi0] at hinf hz
 simp only [Option.map_some, Option.some.injEq, Prod.mk.injEq, Option.bind_some] at hinf hz
 obtain ⟨hz1, hz2⟩ := hinf
 have HI := Aside0.mk (show Tryz.prog.info? 46 = some i0 ∧ i0.zero = some z ∧ i0.size = 35 ∧ i0.bytes = 56 ∧ z.cells.size = 35 from ⟨hi0, hz, hz1, hz2, hzs⟩)
 have hx : xs.length = n * 35 := h.1
 have HVC := Aside0.mk (cells_of_heap hv)
 have HX := Aside0.mk hx
 by_cases hin : i = n
 ·subst hin
  obtain ⟨A0, c0, e0, hs0, -⟩ := src_owns h
  have HH := Aside0.mk h
  have HB := Aside0.mk hbase
  have HV := Aside0.mk (And.intro hvl h1v)
  have e1 : xs.take (i * 35) ++ vs ++ xs.drop (i * 35) = xs ++ vs := by rw [List.take_of_length_le (by omega), List.drop_eq_nil_of_le (by omega), List.append_nil]
  rw [e1]
  clear h hi0 hz hz1 hz2 hzs hx hv hvl h1x h1v hne hbase e0 hs0 e1
  go_enter Tryz.func119, Tryz.ntmps119
  cases A with
  | none =>
   have hi00 : i = 0 := by
    rcases HH.out.2 with ⟨e, e2⟩ | ⟨g, _, _, e, _⟩
    ·exact e2
    ·cases e
   have hc00 : c = 0 := by
    rcases HH.out.2 with ⟨e, e2⟩ | ⟨g, _, _, e, _⟩
    ·injection e
    ·cases e
   subst hi00; subst hc00
   go_wp2_with (at_builtin; refine wpList_append_own _ rfl _ _ 40 rfl base 46 i0 z 35 56 t22 HI.out.1 HI.out.2.1 HI.out.2.2.1 HI.out.2.2.2.1 HI.out.2.2.2.2 (by decide) _ _ xs rfl HH.out ⟨vb, 0, none⟩ 1 1 vs rfl ?qc1 ?qc2 ?qc3 ?qc4 ?qc5 ?qc6 ?_)
   case qc1 => rw [HV.out.1]
   case qc2 => intro j u hj; rw [add_at]; exact HVC.out j u hj
   case qc3 => exact HV.out.2
   case qc4 => unfold maxLen; omega
   case qc5 => omega
   case qc6 => exact HB.out
   intro v' w1 hown hgrow hnil
   obtain ⟨A', c', rfl, -, -⟩ := src_owns hown
   have HO := Aside0.mk (And.intro hown hgrow)
   clear hown hgrow hnil
   go_wp2
   go_ret
   exact ⟨A', c', rfl, HO.out.1, HO.out.2⟩
  | some a =>
   obtain ⟨g, e⟩ : ∃ g, a = ⟨g, 0, none⟩ := by
    rcases HH.out.2 with ⟨e, e2⟩ | ⟨g, _, _, e, _⟩
    ·cases e
    ·injection e with e; injection e with e; exact ⟨g, e⟩
   subst e
   have hic : i ≤ c := (owns_open HH.out).choose_spec.2.2.1
   have hc63 : c ≤ 9223372036854775807 := by have := (owns_open HH.out).choose_spec.2.2.2.1; unfold maxLen at this; omega
   by_cases hci : c = i
   ·have hci' : ((c : Nat) = i) = True := eq_true hci
    go_wp2_with (at_builtin; refine wpList_append_own _ rfl _ _ 40 rfl base 46 i0 z 35 56 t22 HI.out.1 HI.out.2.1 HI.out.2.2.1 HI.out.2.2.2.1 HI.out.2.2.2.2 (by decide) _ _ xs rfl HH.out ⟨vb, 0, none⟩ 1 1 vs rfl ?qc1 ?qc2 ?qc3 ?qc4 ?qc5 ?qc6 ?_)
    case qc1 => rw [HV.out.1]
    case qc2 => intro j u hj; rw [add_at]; exact HVC.out j u hj
    case qc3 => exact HV.out.2
    case qc4 => unfold maxLen; omega
    case qc5 => omega
    case qc6 => exact HB.out
    intro v' w1 hown hgrow hnil
    obtain ⟨A', c', rfl, -, -⟩ := src_owns hown
    have HO := Aside0.mk (And.intro hown hgrow)
    clear hown hgrow hnil
    go_wp2
    go_ret
    exact ⟨A', c', rfl, HO.out.1, HO.out.2⟩
   ·have hci' : ((c : Nat) = i) = False := eq_false hci
    go_wp2_with (at_builtin; refine wpList_append_own _ rfl _ _ 40 rfl base 46 i0 z 35 56 t22 HI.out.1 HI.out.2.1 HI.out.2.2.1 HI.out.2.2.2.1 HI.out.2.2.2.2 (by decide) _ _ xs rfl HH.out ⟨vb, 0, none⟩ 1 1 vs rfl ?qc1 ?qc2 ?qc3 ?qc4 ?qc5 ?qc6 ?_)
    case qc1 => rw [HV.out.1]
    case qc2 => intro j u hj; rw [add_at]; exact HVC.out j u hj
    case qc3 => exact HV.out.2
    case qc4 => unfold maxLen; omega
    case qc5 => omega
    case qc6 => exact HB.out
    intro v' w1 hown hgrow hnil
    obtain ⟨A', c', rfl, -, -⟩ := src_owns hown
    have HO := Aside0.mk (And.intro hown hgrow)
    clear hown hgrow hnil
    go_wp2
    go_ret
    exact ⟨A', c', rfl, HO.out.1, HO.out.2⟩
 ·have hlt : i < n := by omega
  obtain ⟨g, rfl⟩ := owned_at h (by omega)
  obtain ⟨cur, o1, o2, o3, o4, o5, o6, o7⟩ := owns_open h
  have hc63 : c ≤ 9223372036854775807 := by unfold maxLen at o4; omega
  have hgb : g ≠ vb := hne g rfl
  have hik : i * 35 ≤ n * 35 := Nat.mul_le_mul_right _ hi
  have hnk : n * 35 ≤ c * 35 := Nat.mul_le_mul_right _ o3
  have hz1' : ¬ ((1 : Int) = 0) := by omega
  have hz2' : ¬ ((i : Int) = (n : Int)) := by omega
  have hsz : (Tryz.prog.info? 46).map (·.size) = some 35 := by kernel_rfl
  have HSZ := Aside0.mk hsz
  have hdl : (xs.drop (i * 35)).length = (n - i) * 35 := by rw [List.length_drop, hx, Nat.sub_mul]
  have h1d : ∀ u ∈ xs.drop (i * 35), u.oneCell' = true := fun u hu => h1x u (List.mem_of_mem_drop hu)
  by_cases hroom : n + 1 ≤ c
  ·have hgl : g < w.heap.size := (Array.getElem?_eq_some_iff.1 o2).1
   have hov : ∀ lb cb, (callFunc 151 #[.slice (some ⟨vb, 0, none⟩) 1 1, .slice (some ⟨g, (i + 1) * 35, none⟩) lb cb]).run Tryz.prog w = .ok (.value (.bool false)) w := fun lb cb => by
    rw [run_callFunc_extern Tryz.func151 (by kernel_rfl) (by kernel_rfl) (by kernel_rfl) (e := Extern.SlicesOverlaps.overlaps #[40, 40] #[4]) (by kernel_rfl),
     Lib.run_overlaps_apart w 40 4 46 t22 35 Tryz.sizeOf46 ⟨vb, 0, none⟩ ⟨g, (i + 1) * 35, none⟩ 1 1 lb cb (fun e => hgb e.symm) 46 46 vs.length cur.length (shape_of_heap hv) (shape_of_heap o2) (by rw [o5]; omega) (frozen_of_heap hv) (frozen_of_heap hv)]
    rfl
   have hci : ¬ (c = i) := by omega
   have hci1 : ¬ (c = i + 1) := by omega
   have hp0 : (0 : Int) ≤ (i : Int) + 1 := by omega
   have hp1 : ¬ ((n : Int) + 1 < (i : Int) + 1) := by omega
   have hp2 : (i : Int) ≤ (n : Int) + 1 := by omega
   have hn1 : IntKind.i64.wrap ((n : Int) + 1) = ((n + 1 : Nat) : Int) := by rw [IntKind.wrap_i64]; omega
   have hi1 : IntKind.i64.wrap ((i : Int) + 1) = ((i + 1 : Nat) : Int) := by rw [IntKind.wrap_i64]; omega
   have O2 := Aside0.mk o2
   have HV := Aside0.mk (And.intro hvl h1v)
   have HD := Aside0.mk (And.intro hdl h1d)
   have HO := Aside0.mk (And.intro o1 (And.intro o5 o6))
   have HB := Aside0.mk (And.intro o4 hroom)
   have HK := Aside0.mk (And.intro hik hnk)
   have HGB := Aside0.mk hgb
   have HS := Aside0.mk (h.cells (g := g) rfl)
   clear h hi0 hz hz1 hz2 hzs hx hv hvl h1x h1v hne hbase o1 o2 o4 o5 o6 o7 hsz hdl h1d hik hnk hgb
   have hm1 : (xs.drop (i * 35)).length = Nat.min (n + 1 - i) (n - i) * 35 := by rw [HD.out.1, show Nat.min (n + 1 - i) (n - i) = n - i from by show min _ _ = _; omega]
   have hs1 : ∀ j v, (xs.drop (i * 35))[j]? = some v → w.drew.cell? ((⟨g, i * 35, none⟩ : Addr).add j) = some v := fun j v hj => by
    rw [List.getElem?_drop] at hj
    have h2 := HS.out (i * 35 + j) v hj
    rw [add_at, Nat.zero_add] at h2
    rw [add_at]
    exact h2
   have hf1 : (i + 1) * 35 + (xs.drop (i * 35)).length ≤ cur.length := by
    have h2 := Nat.mul_le_mul_right 35 HB.out.2
    have h3 := HO.out.2.1
    rw [List.length_drop, HX.out, h3]
    omega
   have hm2 : vs.length = Nat.min 1 (n + 1 - i) * 35 := by rw [HV.out.1, show Nat.min 1 (n + 1 - i) = 1 from by show min _ _ = _; omega]
   have HM := Aside0.mk (And.intro hm1 (And.intro hs1 (And.intro hf1 hm2)))
   clear hm1 hs1 hf1 hm2
   go_enter Tryz.func119, Tryz.ntmps119
   go_wp2_with (simp only [hov])
   go_region_law (refine step_copyK (P := Tryz.prog) rfl (.tmp 73) (.tmp 76) 40 40 rfl 46 35 t22 HSZ.out g ((i + 1) * 35) (n - i) (c - (i + 1)) ⟨g, i * 35, none⟩ (n + 1 - i) (c - i) (by simp [Act.eval, Act.put]) (by simp [Act.eval, Act.put]) cur 46 O2.out (xs.drop (i * 35)) HM.out.1 HM.out.2.1 HM.out.2.2.1 HD.out.2 ?_; intro w3 hg3 hb3)
   have hvc3 := Aside0.mk (fun (j : Nat) (v : Value) (hj : vs[j]? = some v) => (hb3.out.cell (a := ⟨vb, 0 + j, none⟩) (v := v) (HVC.out j v hj) (fun e => HGB.out (Option.some.inj e).symm)))
   have hl3 := Aside0.mk (length_splice cur ((i + 1) * 35) (xs.drop (i * 35)) HM.out.2.2.1)
   go_wp2_with (refine wpList_copyK (P := Tryz.prog) rfl (.tmp 80) (.tmp 81) 40 40 rfl 46 35 t22 HSZ.out g (i * 35) (n + 1 - i) (c - i) ⟨vb, 0, none⟩ 1 1 rfl rfl (splice cur ((i + 1) * 35) (xs.drop (i * 35))) 46 hg3.out vs HM.out.2.2.2 (fun j v hj => by rw [add_at]; exact hvc3.out j v hj) (by have h1 := hl3.out; have h2 := HV.out.1; have h3 := HM.out.2.2.1; have h4 := HK.out.1; have h5 := HO.out.2.1; have h6 := Nat.mul_le_mul_right 35 HB.out.2; rw [h1, h2, h5]; omega) HV.out.2 ?_; intro w4 hg4 hb4)
   go_ret
   have hpl := insert_place cur xs vs i n 35 c hi HB.out.2 HO.out.2.1 HO.out.2.2 HV.out.1
   rw [show i * 35 + 35 = (i + 1) * 35 from by omega] at hpl
   exact ⟨_, _, rfl, owns_shut HO.out.1 hg4.out HB.out.2 HB.out.1 hpl.2 hpl.1, grownBy_trans (grownBy_trans (grownBy_drew w _) hb3.out) hb4.out⟩
  ·have hcn : c = n := by omega
   subst hcn
   have hci : ¬ (c = i) := by omega
   have hkk : (c : Int) + 1 - (i : Int) = ((c + 1 - i : Nat) : Int) := by omega
   have hik2 : i + (c + 1 - i) = c + 1 := by omega
   have hold : (Builtin.firstCells i0.size i (.slice (some ⟨g, 0, none⟩) i c)).run Tryz.prog w.drew = .ok (xs.take (i * 35)).toArray w.drew := by
    rw [hz1]
    exact run_firstCells_some w.drew 35 i ⟨g, 0, none⟩ i c (xs.take (i * 35)) (by rw [List.length_take]; omega) (fun j v hj => by
     rw [List.getElem?_take] at hj
     split at hj
     ·exact h.cells (g := g) rfl j v hj
     ·cases hj)
   have hrz : ∀ ty, (Builtin.append_ #[40, 3] ty #[.slice (some ⟨g, 0, none⟩) i c, .int .i64 ((c : Int) + 1 - (i : Int))]).run Tryz.prog w =
     .ok (.slice (some ⟨w.heap.size, 0, none⟩) (c + 1) (grownCap w (c + 1) c 46)) (w.drew.alloc (.cells ((xs.take (i * 35)).toArray ++ Builtin.zeroCells z.cells (c + 1 - i) ++ Builtin.zeroCells z.cells (grownCap w (c + 1) c 46 - (c + 1))) 46)) := fun ty => by
    have h' := Lib.run_append_grow_zeros w 40 3 ty 46 i0 z .i64 .i64 t22 Tryz.underlying3 hi0 hz (some ⟨g, 0, none⟩) i c (xs.take (i * 35)) hold (c + 1 - i) (by omega) (by omega) (by omega) (by omega) (by rw [hz2]; omega) (by rw [hz2, hik2]; exact growslice_fits (by omega) (by omega))
    rw [hik2] at h'
    rw [hkk]
    exact h'
   obtain ⟨G, hG⟩ : ∃ G, G = grownCap w (c + 1) c 46 := ⟨_, rfl⟩
   obtain ⟨zs, hzs'⟩ : ∃ zs : List Value, zs = (Builtin.zeroCells z.cells (c + 1 - i) ++ Builtin.zeroCells z.cells (G - (c + 1))).toList := ⟨_, rfl⟩
   obtain ⟨W1, hW1⟩ : ∃ W1, W1 = w.drew.alloc (.cells ((xs.take (i * 35)).toArray ++ Builtin.zeroCells z.cells (c + 1 - i) ++ Builtin.zeroCells z.cells (G - (c + 1))) 46) := ⟨_, rfl⟩
   have hGn : c + 1 ≤ G := by rw [hG]; exact grownCap_ge w _ _ _
   have hGm : G ≤ maxLen := by rw [hG]; exact grownCap_le_maxLen w (c + 1) c 46 (by unfold maxLen; omega)
   have hG63 : G ≤ 9223372036854775807 := by unfold maxLen at hGm; omega
   have hzl : zs.length = G * 35 - i * 35 := by
    rw [hzs', Array.length_toList, Array.size_append, size_zeroCells, size_zeroCells, hzs]
    rw [← Nat.add_mul, ← Nat.sub_mul]
    congr 1
    omega
   have hW1h : W1.heap[w.heap.size]? = some (.cells (xs.take (i * 35) ++ zs).toArray 46 (0, 0)) := by
    rw [hW1]
    have h2 := heap_alloc_new w.drew (.cells ((xs.take (i * 35)).toArray ++ Builtin.zeroCells z.cells (c + 1 - i) ++ Builtin.zeroCells z.cells (G - (c + 1))) 46)
    rw [show w.drew.heap.size = w.heap.size from rfl] at h2
    rw [h2]
    congr 2
    rw [hzs']
    apply Array.ext'
    simp
   have hW1b : w.grownBy W1 (some g) := by rw [hW1]; exact grownBy_trans (grownBy_drew w _) (World.grownBy_alloc w.drew _ _)
   rw [← hG, ← hW1] at hrz
   have hgl : g < w.heap.size := (Array.getElem?_eq_some_iff.1 o2).1
   have hvl2 : vb < w.heap.size := (Array.getElem?_eq_some_iff.1 hv).1
   have hW1o : ∀ k, k < w.heap.size → W1.heap[k]? = w.heap[k]? := fun k hk => by rw [hW1]; exact Below.heap_alloc w.drew _ k hk
   have hGk := Nat.mul_le_mul_right 35 hGn
   have hci1 : ¬ (G = i) := by omega
   have hci2 : ¬ (G = i + 1) := by omega
   have hp0 : (0 : Int) ≤ (i : Int) + 1 := by omega
   have hp1 : ¬ ((c : Int) + 1 < (i : Int) + 1) := by omega
   have hp2 : (i : Int) ≤ (c : Int) + 1 := by omega
   have hp3 : (i : Int) ≤ (c : Int) := by omega
   have hn1 : IntKind.i64.wrap ((c : Int) + 1) = ((c + 1 : Nat) : Int) := by rw [IntKind.wrap_i64]; omega
   have hi1 : IntKind.i64.wrap ((i : Int) + 1) = ((i + 1 : Nat) : Int) := by rw [IntKind.wrap_i64]; omega
   have hm0 : vs.length = Nat.min 1 (c + 1 - i) * 35 := by rw [hvl, show Nat.min 1 (c + 1 - i) = 1 from by show min _ _ = _; omega]
   have hs0 : ∀ j v, vs[j]? = some v → W1.cell? ((⟨vb, 0, none⟩ : Addr).add j) = some v := fun j v hj => by
    rw [add_at]
    exact (World.cell?_of_block (w := w) (hW1o vb hvl2)).trans (HVC.out j v hj)
   have hf0 : i * 35 + vs.length ≤ (xs.take (i * 35) ++ zs).length := by rw [List.length_append, List.length_take, hzl, hvl]; omega
   have hm1 : (xs.drop (i * 35)).length = Nat.min (c - i) (c - i) * 35 := by rw [hdl, show Nat.min (c - i) (c - i) = c - i from by show min _ _ = _; omega]
   have hs1 : ∀ W : World, W1.grownBy W (some w.heap.size) → ∀ j v, (xs.drop (i * 35))[j]? = some v → W.drew.cell? ((⟨g, i * 35, none⟩ : Addr).add j) = some v := fun W hW j v hj => by
    rw [List.getElem?_drop] at hj
    have h2 := h.cells (g := g) rfl (i * 35 + j) v hj
    rw [add_at, Nat.zero_add] at h2
    rw [add_at]
    exact hW.cell (a := ⟨g, i * 35 + j, none⟩) ((World.cell?_of_block (w := w) (hW1o g hgl)).trans h2) (fun e => by have e2 : g = w.heap.size := Option.some.inj e; omega)
   have hl1 : (splice (xs.take (i * 35) ++ zs) (i * 35) vs).length = G * 35 := by rw [length_splice _ _ _ hf0, List.length_append, List.length_take, hzl]; omega
   have hgk2 : i * 35 + 35 ≤ G * 35 := by have := Nat.mul_le_mul_right 35 (show i + 1 ≤ G by omega); omega
   have hf1 : (i + 1) * 35 + (xs.drop (i * 35)).length ≤ (splice (xs.take (i * 35) ++ zs) (i * 35) vs).length := by rw [hl1, List.length_drop, hx]; have hq := Nat.add_mul i 1 35; omega
   have hpl := insert_new xs vs zs i c 35 G hi hGn hx hvl hzl
   rw [show i * 35 + 35 = (i + 1) * 35 from by omega] at hpl
   have HM := Aside0.mk (And.intro hm0 (And.intro hs0 (And.intro hf0 (And.intro hm1 (And.intro hs1 hf1)))))
   have HP := Aside0.mk hpl
   have HW := Aside0.mk (And.intro hW1h (And.intro hW1b hGm))
   have HV := Aside0.mk (And.intro h1v h1d)
   have HBs := Aside0.mk hbase
   have HIN := Aside0.mk hrz
   clear h hi0 hz hz1 hz2 hzs hx hv hvl h1x h1v hne hbase o1 o2 o3 o4 o5 o6 o7 hsz hdl h1d hik hnk hgb hkk hik2 hold hG hzs' hW1 hGm hzl hW1h hW1b hrz hgl hvl2 hW1o hGk hm0 hs0 hf0 hm1 hs1 hl1 hf1 hpl
   go_enter Tryz.func119, Tryz.ntmps119
   go_upto_region 10 with (at_builtin; refine Lib.wpList_append_run _ rfl _ _ _ _ rfl _ _ rfl rfl _ _ (HIN.out _) ?_)
   go_wp2_with (refine wpList_copyK (P := Tryz.prog) rfl (.tmp 43) (.tmp 44) 40 40 rfl 46 35 t22 HSZ.out w.heap.size (i * 35) (c + 1 - i) (G - i) ⟨vb, 0, none⟩ 1 1 rfl rfl (xs.take (i * 35) ++ zs) 46 HW.out.1 vs HM.out.1 HM.out.2.1 HM.out.2.2.1 HV.out.1 ?_; intro w2 hg2 hb2)
   go_region_law (refine step_copyK (P := Tryz.prog) rfl (.tmp 50) (.tmp 53) 40 40 rfl 46 35 t22 HSZ.out w.heap.size ((i + 1) * 35) (c - i) (G - (i + 1)) ⟨g, i * 35, none⟩ (c - i) (c - i) (by simp [Act.eval, Act.put]) (by simp [Act.eval, Act.put]) (splice (xs.take (i * 35) ++ zs) (i * 35) vs) 46 hg2.out (xs.drop (i * 35)) HM.out.2.2.2.1 (HM.out.2.2.2.2.1 _ hb2.out) HM.out.2.2.2.2.2 HV.out.2 ?_; intro w3 hg3 hb3)
   go_wp2
   go_ret
   exact ⟨_, _, rfl, owns_shut HBs.out hg3.out hGn HW.out.2.2 HP.out.2 HP.out.1, grownBy_new hb2.out hb3.out HW.out.2.1 (Nat.le_refl _)⟩
set_option maxHeartbeats 4000000 in
set_option maxRecDepth 100000 in
theorem insert150 (w : World) (base : Nat) (A : Option Addr) (c n i : Nat) (xs vs : List Value) (vb : Nat) (h : w.ownsRow base 34 32 (.slice A n c) n xs) (hi : i ≤ n) (hn : n ≤ 100) (hv : w.heap[vb]? = some (.cells vs.toArray 34 (0, 0))) (hvl : vs.length = 32)
  (h1x : ∀ u ∈ xs, u.oneCell' = true) (h1v : ∀ u ∈ vs, u.oneCell' = true) (hne : ∀ k, (Value.slice A n c).ownBlock = some k → k ≠ vb) (hbase : base ≤ w.heap.size) :
  Calls Tryz.prog 150 #[.slice A n c, .int .i64 i, .slice (some ⟨vb, 0, none⟩) 1 1] w fun e w' => ∃ A' c', e = .returned (.slice A' (n + 1) c') ∧ w'.ownsRow base 34 32 (.slice A' (n + 1) c') (n + 1) (xs.take (i * 32) ++ vs ++ xs.drop (i * 32)) ∧ w.grownBy w' (Value.slice A n c).ownBlock := by
 have t22 := Tryz.underlying41
 obtain ⟨z, hz, hzs⟩ := zero34
 have hinf := info34
 obtain ⟨i0, hi0⟩ : ∃ i0, Tryz.prog.info? 34 = some i0 := by
  cases h : Tryz.prog.info? 34 with
  | some i => exact ⟨i, rfl⟩
  | none => rw [h] at hinf; cases hinf
 rw [hi0] at hinf hz
 simp only [Option.map_some, Option.some.injEq, Prod.mk.injEq, Option.bind_some] at hinf hz
 obtain ⟨hz1, hz2⟩ := hinf
 have HI := Aside0.mk (show Tryz.prog.info? 34 = some i0 ∧ i0.zero = some z ∧ i0.size = 32 ∧ i0.bytes = 32 ∧ z.cells.size = 32 from ⟨hi0, hz, hz1, hz2, hzs⟩)
 have hx : xs.length = n * 32 := h.1
 have HVC := Aside0.mk (cells_of_heap hv)
 have HX := Aside0.mk hx
 by_cases hin : i = n
 ·subst hin
  obtain ⟨A0, c0, e0, hs0, -⟩ := src_owns h
  have HH := Aside0.mk h
  have HB := Aside0.mk hbase
  have HV := Aside0.mk (And.intro hvl h1v)
  have e1 : xs.take (i * 32) ++ vs ++ xs.drop (i * 32) = xs ++ vs := by rw [List.take_of_length_le (by omega), List.drop_eq_nil_of_le (by omega), List.append_nil]
  rw [e1]
  clear h hi0 hz hz1 hz2 hzs hx hv hvl h1x h1v hne hbase e0 hs0 e1
  go_enter Tryz.func150, Tryz.ntmps150
  cases A with
  | none =>
   have hi00 : i = 0 := by
    rcases HH.out.2 with ⟨e, e2⟩ | ⟨g, _, _, e, _⟩
    ·exact e2
    ·cases e
   have hc00 : c = 0 := by
    rcases HH.out.2 with ⟨e, e2⟩ | ⟨g, _, _, e, _⟩
    ·injection e
    ·cases e
   subst hi00; subst hc00
   go_wp2_with (at_builtin; refine wpList_append_own _ rfl _ _ 41 rfl base 34 i0 z 32 32 t22 HI.out.1 HI.out.2.1 HI.out.2.2.1 HI.out.2.2.2.1 HI.out.2.2.2.2 (by decide) _ _ xs rfl HH.out ⟨vb, 0, none⟩ 1 1 vs rfl ?qc1 ?qc2 ?qc3 ?qc4 ?qc5 ?qc6 ?_)
   case qc1 => rw [HV.out.1]
   case qc2 => intro j u hj; rw [add_at]; exact HVC.out j u hj
   case qc3 => exact HV.out.2
   case qc4 => unfold maxLen; omega
   case qc5 => omega
   case qc6 => exact HB.out
   intro v' w1 hown hgrow hnil
   obtain ⟨A', c', rfl, -, -⟩ := src_owns hown
   have HO := Aside0.mk (And.intro hown hgrow)
   clear hown hgrow hnil
   go_wp2
   go_ret
   exact ⟨A', c', rfl, HO.out.1, HO.out.2⟩
  | some a =>
   obtain ⟨g, e⟩ : ∃ g, a = ⟨g, 0, none⟩ := by
    rcases HH.out.2 with ⟨e, e2⟩ | ⟨g, _, _, e, _⟩
    ·cases e
    ·injection e with e; injection e with e; exact ⟨g, e⟩
   subst e
   have hic : i ≤ c := (owns_open HH.out).choose_spec.2.2.1
   have hc63 : c ≤ 9223372036854775807 := by have := (owns_open HH.out).choose_spec.2.2.2.1; unfold maxLen at this; omega
   by_cases hci : c = i
   ·have hci' : ((c : Nat) = i) = True := eq_true hci
    go_wp2_with (at_builtin; refine wpList_append_own _ rfl _ _ 41 rfl base 34 i0 z 32 32 t22 HI.out.1 HI.out.2.1 HI.out.2.2.1 HI.out.2.2.2.1 HI.out.2.2.2.2 (by decide) _ _ xs rfl HH.out ⟨vb, 0, none⟩ 1 1 vs rfl ?qc1 ?qc2 ?qc3 ?qc4 ?qc5 ?qc6 ?_)
    case qc1 => rw [HV.out.1]
    case qc2 => intro j u hj; rw [add_at]; exact HVC.out j u hj
    case qc3 => exact HV.out.2
    case qc4 => unfold maxLen; omega
    case qc5 => omega
    case qc6 => exact HB.out
    intro v' w1 hown hgrow hnil
    obtain ⟨A', c', rfl, -, -⟩ := src_owns hown
    have HO := Aside0.mk (And.intro hown hgrow)
    clear hown hgrow hnil
    go_wp2
    go_ret
    exact ⟨A', c', rfl, HO.out.1, HO.out.2⟩
   ·have hci' : ((c : Nat) = i) = False := eq_false hci
    go_wp2_with (at_builtin; refine wpList_append_own _ rfl _ _ 41 rfl base 34 i0 z 32 32 t22 HI.out.1 HI.out.2.1 HI.out.2.2.1 HI.out.2.2.2.1 HI.out.2.2.2.2 (by decide) _ _ xs rfl HH.out ⟨vb, 0, none⟩ 1 1 vs rfl ?qc1 ?qc2 ?qc3 ?qc4 ?qc5 ?qc6 ?_)
    case qc1 => rw [HV.out.1]
    case qc2 => intro j u hj; rw [add_at]; exact HVC.out j u hj
    case qc3 => exact HV.out.2
    case qc4 => unfold maxLen; omega
    case qc5 => omega
    case qc6 => exact HB.out
    intro v' w1 hown hgrow hnil
    obtain ⟨A', c', rfl, -, -⟩ := src_owns hown
    have HO := Aside0.mk (And.intro hown hgrow)
    clear hown hgrow hnil
    go_wp2
    go_ret
    exact ⟨A', c', rfl, HO.out.1, HO.out.2⟩
 ·have hlt : i < n := by omega
  obtain ⟨g, rfl⟩ := owned_at h (by omega)
  obtain ⟨cur, o1, o2, o3, o4, o5, o6, o7⟩ := owns_open h
  have hc63 : c ≤ 9223372036854775807 := by unfold maxLen at o4; omega
  have hgb : g ≠ vb := hne g rfl
  have hik : i * 32 ≤ n * 32 := Nat.mul_le_mul_right _ hi
  have hnk : n * 32 ≤ c * 32 := Nat.mul_le_mul_right _ o3
  have hz1' : ¬ ((1 : Int) = 0) := by omega
  have hz2' : ¬ ((i : Int) = (n : Int)) := by omega
  have hsz : (Tryz.prog.info? 34).map (·.size) = some 32 := by kernel_rfl
  have HSZ := Aside0.mk hsz
  have hdl : (xs.drop (i * 32)).length = (n - i) * 32 := by rw [List.length_drop, hx, Nat.sub_mul]
  have h1d : ∀ u ∈ xs.drop (i * 32), u.oneCell' = true := fun u hu => h1x u (List.mem_of_mem_drop hu)
  by_cases hroom : n + 1 ≤ c
  ·have hgl : g < w.heap.size := (Array.getElem?_eq_some_iff.1 o2).1
   have hov : ∀ lb cb, (callFunc 166 #[.slice (some ⟨vb, 0, none⟩) 1 1, .slice (some ⟨g, (i + 1) * 32, none⟩) lb cb]).run Tryz.prog w = .ok (.value (.bool false)) w := fun lb cb => by
    rw [run_callFunc_extern Tryz.func166 (by kernel_rfl) (by kernel_rfl) (by kernel_rfl) (e := Extern.SlicesOverlaps.overlaps #[41, 41] #[4]) (by kernel_rfl),
     Lib.run_overlaps_apart w 41 4 34 t22 32 Tryz.sizeOf34 ⟨vb, 0, none⟩ ⟨g, (i + 1) * 32, none⟩ 1 1 lb cb (fun e => hgb e.symm) 34 34 vs.length cur.length (shape_of_heap hv) (shape_of_heap o2) (by rw [o5]; omega) (frozen_of_heap hv) (frozen_of_heap hv)]
    rfl
   have hci : ¬ (c = i) := by omega
   have hci1 : ¬ (c = i + 1) := by omega
   have hp0 : (0 : Int) ≤ (i : Int) + 1 := by omega
   have hp1 : ¬ ((n : Int) + 1 < (i : Int) + 1) := by omega
   have hp2 : (i : Int) ≤ (n : Int) + 1 := by omega
   have hn1 : IntKind.i64.wrap ((n : Int) + 1) = ((n + 1 : Nat) : Int) := by rw [IntKind.wrap_i64]; omega
   have hi1 : IntKind.i64.wrap ((i : Int) + 1) = ((i + 1 : Nat) : Int) := by rw [IntKind.wrap_i64]; omega
   have O2 := Aside0.mk o2
   have HV := Aside0.mk (And.intro hvl h1v)
   have HD := Aside0.mk (And.intro hdl h1d)
   have HO := Aside0.mk (And.intro o1 (And.intro o5 o6))
   have HB := Aside0.mk (And.intro o4 hroom)
   have HK := Aside0.mk (And.intro hik hnk)
   have HGB := Aside0.mk hgb
   have HS := Aside0.mk (h.cells (g := g) rfl)
   clear h hi0 hz hz1 hz2 hzs hx hv hvl h1x h1v hne hbase o1 o2 o4 o5 o6 o7 hsz hdl h1d hik hnk hgb
   have hm1 : (xs.drop (i * 32)).length = Nat.min (n + 1 - i) (n - i) * 32 := by rw [HD.out.1, show Nat.min (n + 1 - i) (n - i) = n - i from by show min _ _ = _; omega]
   have hs1 : ∀ j v, (xs.drop (i * 32))[j]? = some v → w.drew.cell? ((⟨g, i * 32, none⟩ : Addr).add j) = some v := fun j v hj => by
    rw [List.getElem?_drop] at hj
    have h2 := HS.out (i * 32 + j) v hj
    rw [add_at, Nat.zero_add] at h2
    rw [add_at]
    exact h2
   have hf1 : (i + 1) * 32 + (xs.drop (i * 32)).length ≤ cur.length := by
    have h2 := Nat.mul_le_mul_right 32 HB.out.2
    have h3 := HO.out.2.1
    rw [List.length_drop, HX.out, h3]
    omega
   have hm2 : vs.length = Nat.min 1 (n + 1 - i) * 32 := by rw [HV.out.1, show Nat.min 1 (n + 1 - i) = 1 from by show min _ _ = _; omega]
   have HM := Aside0.mk (And.intro hm1 (And.intro hs1 (And.intro hf1 hm2)))
   clear hm1 hs1 hf1 hm2
   go_enter Tryz.func150, Tryz.ntmps150
   go_wp2_with (simp only [hov])
   go_region_law (refine step_copyK (P := Tryz.prog) rfl (.tmp 73) (.tmp 76) 41 41 rfl 34 32 t22 HSZ.out g ((i + 1) * 32) (n - i) (c - (i + 1)) ⟨g, i * 32, none⟩ (n + 1 - i) (c - i) (by simp [Act.eval, Act.put]) (by simp [Act.eval, Act.put]) cur 34 O2.out (xs.drop (i * 32)) HM.out.1 HM.out.2.1 HM.out.2.2.1 HD.out.2 ?_; intro w3 hg3 hb3)
   have hvc3 := Aside0.mk (fun (j : Nat) (v : Value) (hj : vs[j]? = some v) => (hb3.out.cell (a := ⟨vb, 0 + j, none⟩) (v := v) (HVC.out j v hj) (fun e => HGB.out (Option.some.inj e).symm)))
   have hl3 := Aside0.mk (length_splice cur ((i + 1) * 32) (xs.drop (i * 32)) HM.out.2.2.1)
   go_wp2_with (refine wpList_copyK (P := Tryz.prog) rfl (.tmp 80) (.tmp 81) 41 41 rfl 34 32 t22 HSZ.out g (i * 32) (n + 1 - i) (c - i) ⟨vb, 0, none⟩ 1 1 rfl rfl (splice cur ((i + 1) * 32) (xs.drop (i * 32))) 34 hg3.out vs HM.out.2.2.2 (fun j v hj => by rw [add_at]; exact hvc3.out j v hj) (by have h1 := hl3.out; have h2 := HV.out.1; have h3 := HM.out.2.2.1; have h4 := HK.out.1; have h5 := HO.out.2.1; have h6 := Nat.mul_le_mul_right 32 HB.out.2; rw [h1, h2, h5]; omega) HV.out.2 ?_; intro w4 hg4 hb4)
   go_ret
   have hpl := insert_place cur xs vs i n 32 c hi HB.out.2 HO.out.2.1 HO.out.2.2 HV.out.1
   rw [show i * 32 + 32 = (i + 1) * 32 from by omega] at hpl
   exact ⟨_, _, rfl, owns_shut HO.out.1 hg4.out HB.out.2 HB.out.1 hpl.2 hpl.1, grownBy_trans (grownBy_trans (grownBy_drew w _) hb3.out) hb4.out⟩
  ·have hcn : c = n := by omega
   subst hcn
   have hci : ¬ (c = i) := by omega
   have hkk : (c : Int) + 1 - (i : Int) = ((c + 1 - i : Nat) : Int) := by omega
   have hik2 : i + (c + 1 - i) = c + 1 := by omega
   have hold : (Builtin.firstCells i0.size i (.slice (some ⟨g, 0, none⟩) i c)).run Tryz.prog w.drew = .ok (xs.take (i * 32)).toArray w.drew := by
    rw [hz1]
    exact run_firstCells_some w.drew 32 i ⟨g, 0, none⟩ i c (xs.take (i * 32)) (by rw [List.length_take]; omega) (fun j v hj => by
     rw [List.getElem?_take] at hj
     split at hj
     ·exact h.cells (g := g) rfl j v hj
     ·cases hj)
   have hrz : ∀ ty, (Builtin.append_ #[41, 3] ty #[.slice (some ⟨g, 0, none⟩) i c, .int .i64 ((c : Int) + 1 - (i : Int))]).run Tryz.prog w =
     .ok (.slice (some ⟨w.heap.size, 0, none⟩) (c + 1) (grownCap w (c + 1) c 34)) (w.drew.alloc (.cells ((xs.take (i * 32)).toArray ++ Builtin.zeroCells z.cells (c + 1 - i) ++ Builtin.zeroCells z.cells (grownCap w (c + 1) c 34 - (c + 1))) 34)) := fun ty => by
    have h' := Lib.run_append_grow_zeros w 41 3 ty 34 i0 z .i64 .i64 t22 Tryz.underlying3 hi0 hz (some ⟨g, 0, none⟩) i c (xs.take (i * 32)) hold (c + 1 - i) (by omega) (by omega) (by omega) (by omega) (by rw [hz2]; omega) (by rw [hz2, hik2]; exact growslice_fits (by omega) (by omega))
    rw [hik2] at h'
    rw [hkk]
    exact h'
   obtain ⟨G, hG⟩ : ∃ G, G = grownCap w (c + 1) c 34 := ⟨_, rfl⟩
   obtain ⟨zs, hzs'⟩ : ∃ zs : List Value, zs = (Builtin.zeroCells z.cells (c + 1 - i) ++ Builtin.zeroCells z.cells (G - (c + 1))).toList := ⟨_, rfl⟩
   obtain ⟨W1, hW1⟩ : ∃ W1, W1 = w.drew.alloc (.cells ((xs.take (i * 32)).toArray ++ Builtin.zeroCells z.cells (c + 1 - i) ++ Builtin.zeroCells z.cells (G - (c + 1))) 34) := ⟨_, rfl⟩
   have hGn : c + 1 ≤ G := by rw [hG]; exact grownCap_ge w _ _ _
   have hGm : G ≤ maxLen := by rw [hG]; exact grownCap_le_maxLen w (c + 1) c 34 (by unfold maxLen; omega)
   have hG63 : G ≤ 9223372036854775807 := by unfold maxLen at hGm; omega
   have hzl : zs.length = G * 32 - i * 32 := by
    rw [hzs', Array.length_toList, Array.size_append, size_zeroCells, size_zeroCells, hzs]
    rw [← Nat.add_mul, ← Nat.sub_mul]
    congr 1
    omega
   have hW1h : W1.heap[w.heap.size]? = some (.cells (xs.take (i * 32) ++ zs).toArray 34 (0, 0)) := by
    rw [hW1]
    have h2 := heap_alloc_new w.drew (.cells ((xs.take (i * 32)).toArray ++ Builtin.zeroCells z.cells (c + 1 - i) ++ Builtin.zeroCells z.cells (G - (c + 1))) 34)
    rw [show w.drew.heap.size = w.heap.size from rfl] at h2
    rw [h2]
    congr 2
    rw [hzs']
    apply Array.ext'
    simp
   have hW1b : w.grownBy W1 (some g) := by rw [hW1]; exact grownBy_trans (grownBy_drew w _) (World.grownBy_alloc w.drew _ _)
   rw [← hG, ← hW1] at hrz
   have hgl : g < w.heap.size := (Array.getElem?_eq_some_iff.1 o2).1
   have hvl2 : vb < w.heap.size := (Array.getElem?_eq_some_iff.1 hv).1
   have hW1o : ∀ k, k < w.heap.size → W1.heap[k]? = w.heap[k]? := fun k hk => by rw [hW1]; exact Below.heap_alloc w.drew _ k hk
   have hGk := Nat.mul_le_mul_right 32 hGn
   have hci1 : ¬ (G = i) := by omega
   have hci2 : ¬ (G = i + 1) := by omega
   have hp0 : (0 : Int) ≤ (i : Int) + 1 := by omega
   have hp1 : ¬ ((c : Int) + 1 < (i : Int) + 1) := by omega
   have hp2 : (i : Int) ≤ (c : Int) + 1 := by omega
   have hp3 : (i : Int) ≤ (c : Int) := by omega
   have hn1 : IntKind.i64.wrap ((c : Int) + 1) = ((c + 1 : Nat) : Int) := by rw [IntKind.wrap_i64]; omega
   have hi1 : IntKind.i64.wrap ((i : Int) + 1) = ((i + 1 : Nat) : Int) := by rw [IntKind.wrap_i64]; omega
   have hm0 : vs.length = Nat.min 1 (c + 1 - i) * 32 := by rw [hvl, show Nat.min 1 (c + 1 - i) = 1 from by show min _ _ = _; omega]
   have hs0 : ∀ j v, vs[j]? = some v → W1.cell? ((⟨vb, 0, none⟩ : Addr).add j) = some v := fun j v hj => by
    rw [add_at]
    exact (World.cell?_of_block (w := w) (hW1o vb hvl2)).trans (HVC.out j v hj)
   have hf0 : i * 32 + vs.length ≤ (xs.take (i * 32) ++ zs).length := by rw [List.length_append, List.length_take, hzl, hvl]; omega
   have hm1 : (xs.drop (i * 32)).length = Nat.min (c - i) (c - i) * 32 := by rw [hdl, show Nat.min (c - i) (c - i) = c - i from by show min _ _ = _; omega]
   have hs1 : ∀ W : World, W1.grownBy W (some w.heap.size) → ∀ j v, (xs.drop (i * 32))[j]? = some v → W.drew.cell? ((⟨g, i * 32, none⟩ : Addr).add j) = some v := fun W hW j v hj => by
    rw [List.getElem?_drop] at hj
    have h2 := h.cells (g := g) rfl (i * 32 + j) v hj
    rw [add_at, Nat.zero_add] at h2
    rw [add_at]
    exact hW.cell (a := ⟨g, i * 32 + j, none⟩) ((World.cell?_of_block (w := w) (hW1o g hgl)).trans h2) (fun e => by have e2 : g = w.heap.size := Option.some.inj e; omega)
   have hl1 : (splice (xs.take (i * 32) ++ zs) (i * 32) vs).length = G * 32 := by rw [length_splice _ _ _ hf0, List.length_append, List.length_take, hzl]; omega
   have hgk2 : i * 32 + 32 ≤ G * 32 := by have := Nat.mul_le_mul_right 32 (show i + 1 ≤ G by omega); omega
   have hf1 : (i + 1) * 32 + (xs.drop (i * 32)).length ≤ (splice (xs.take (i * 32) ++ zs) (i * 32) vs).length := by rw [hl1, List.length_drop, hx]; have hq := Nat.add_mul i 1 32; omega
   have hpl := insert_new xs vs zs i c 32 G hi hGn hx hvl hzl
   rw [show i * 32 + 32 = (i + 1) * 32 from by omega] at hpl
   have HM := Aside0.mk (And.intro hm0 (And.intro hs0 (And.intro hf0 (And.intro hm1 (And.intro hs1 hf1)))))
   have HP := Aside0.mk hpl
   have HW := Aside0.mk (And.intro hW1h (And.intro hW1b hGm))
   have HV := Aside0.mk (And.intro h1v h1d)
   have HBs := Aside0.mk hbase
   have HIN := Aside0.mk hrz
   clear h hi0 hz hz1 hz2 hzs hx hv hvl h1x h1v hne hbase o1 o2 o3 o4 o5 o6 o7 hsz hdl h1d hik hnk hgb hkk hik2 hold hG hzs' hW1 hGm hzl hW1h hW1b hrz hgl hvl2 hW1o hGk hm0 hs0 hf0 hm1 hs1 hl1 hf1 hpl
   go_enter Tryz.func150, Tryz.ntmps150
   go_upto_region 10 with (at_builtin; refine Lib.wpList_append_run _ rfl _ _ _ _ rfl _ _ rfl rfl _ _ (HIN.out _) ?_)
   go_wp2_with (refine wpList_copyK (P := Tryz.prog) rfl (.tmp 43) (.tmp 44) 41 41 rfl 34 32 t22 HSZ.out w.heap.size (i * 32) (c + 1 - i) (G - i) ⟨vb, 0, none⟩ 1 1 rfl rfl (xs.take (i * 32) ++ zs) 34 HW.out.1 vs HM.out.1 HM.out.2.1 HM.out.2.2.1 HV.out.1 ?_; intro w2 hg2 hb2)
   go_region_law (refine step_copyK (P := Tryz.prog) rfl (.tmp 50) (.tmp 53) 41 41 rfl 34 32 t22 HSZ.out w.heap.size ((i + 1) * 32) (c - i) (G - (i + 1)) ⟨g, i * 32, none⟩ (c - i) (c - i) (by simp [Act.eval, Act.put]) (by simp [Act.eval, Act.put]) (splice (xs.take (i * 32) ++ zs) (i * 32) vs) 34 hg2.out (xs.drop (i * 32)) HM.out.2.2.2.1 (HM.out.2.2.2.2.1 _ hb2.out) HM.out.2.2.2.2.2 HV.out.2 ?_; intro w3 hg3 hb3)
   go_wp2
   go_ret
   exact ⟨_, _, rfl, owns_shut HBs.out hg3.out hGn HW.out.2.2 HP.out.2 HP.out.1, grownBy_new hb2.out hb3.out HW.out.2.1 (Nat.le_refl _)⟩
end Go.Proofs.YthnpiimiimiijaaGreatDoor.Dir
end
