/- slices.Sort and slices.Compact at []int, on a row that the caller owns and that is not empty: the row sorted; the row without repeated neighbours. Out of the library's own contracts, laid at this translation. -/
import Derived.Test.YtmgbaefgcdglpaaGreatDoorNc13
import Derived.Test.YtmgbaefgcdglpaaGreatDoorNc2
import Derived.Test.YtmgbaefgcdglpaaGreatDoorNc0
import Derived.Test.YtmgbaefgcdglpaaGreatDoorNc5
import Derived.Test.YtmgbaefgcdglpaaGreatDoorNc6
import Derived.Test.YtmgbaefgcdglpaaGreatDoorNc1
import Derived.Test.YtmgbaefgcdglpaaGreatDoorNc7
import Derived.Test.YtmgbaefgcdglpaaGreatDoorNc3
import Derived.Test.YtmgbaefgcdglpaaGreatDoorNc9
import Derived.Test.YtmgbaefgcdglpaaGreatDoorNc8
import Derived.Test.YtmgbaefgcdglpaaGreatDoorNc10
import Derived.Test.YtmgbaefgcdglpaaGreatDoorNc4
import Derived.SizedLaws
import Derived.ChangeSlices
import Derived.Test.YtmgbaefgcdglpaaGreatDoorNc21
import Derived.Sort.OwnSortedInts
import Derived.Sort.Grow
section
namespace Go.Proofs.YtmgbaefgcdglpaaGreatDoor.PA
open Go.RowKit Go.Sort Go.Proofs.YtmgbaefgcdglpaaGreatDoorW.PrintWords Go.Proofs.YtmgbaefgcdglpaaGreatDoorW.PrintLast Go.Proofs.YtmgbaefgcdglpaaGreatDoorW.PrintMore
def slices_Sort_int_int.f (l : List Int) : Option (List Int) := if l = [] ∨ 4611686018427387904 ≤ l.length then none else some (l.mergeSort fun x y => decide (x ≤ y))
theorem slices_Sort_int_int.calls (P0_ : Nat → Prop) (u9000_ : Value) (l0 r : List Int) (w0 w : World) (hB : Below w0.heap.size w0 w) (ho0 : Kd.R (Kd.int .i64) 3 w w0.heap.size P0_ u9000_ l0) (h : slices_Sort_int_int.f l0 = some r) :
  Calls Tryz.prog 60 #[u9000_] w fun e w' => e = .returned (.tuple #[]) ∧ Kd.R (Kd.int .i64) 3 w' w0.heap.size (fun k_ => (P0_ k_ ∨ w.heap.size ≤ k_)) u9000_ r ∧ Below w0.heap.size w0 w' ∧ Kept w w' (fun k_ => P0_ k_) := by
 unfold slices_Sort_int_int.f at h
 by_cases hl2 : l0 = [] ∨ 4611686018427387904 ≤ l0.length
 ·rw [if_pos hl2] at h; cases h
 rw [if_neg hl2] at h
 have hl : ¬ l0 = [] := fun e => hl2 (.inl e)
 have hl3 : ¬ 4611686018427387904 ≤ l0.length := fun e => hl2 (.inr e)
 obtain rfl := Option.some.inj h
 have hown := Kd.own_of_R ho0
 have hok := ho0.1
 rcases hown.2 with ⟨_, hn⟩ | ⟨g, cap, cur, rfl, hbase, hb, h1, h2, h3, h4⟩
 ·exact absurd (List.length_eq_zero_iff.1 hn) hl
 have h4' : cur.toList.take l0.length = l0.map (Value.int .i64) := by rw [Nat.mul_one] at h4; exact h4
 refine (Tryz.slices_Sort_int g 0 cap l0 w (holds_of_blockI hb h4') (Array.getElem?_eq_some_iff.1 hb).1 (by omega)).mono ?_
 rintro e w' ⟨rfl, n, os, rfl⟩
 have hlen : (l0.mergeSort fun x y => decide (x ≤ y)).length = l0.length := by simp
 have hr := ownsRow_sortedI (n := n) (os := os) (ts := l0.mergeSort fun x y => decide (x ≤ y)) hlen hbase hb h1 h2 h3
 have hg := grownBy_sortedI (w := w) (g := g) (n := n) (os := os) (l0.mergeSort fun x y => decide (x ≤ y)).toArray
 refine ⟨rfl, Kd.R_of_own (by rw [hlen]; exact hr) (fun k hk => .inl (hok k hk)), hB.grown hg hB.size (fun k e => by cases e; exact hbase), hg.size, fun i hi hn => hg.block i hi (fun e => hn (hok i (by rw [e]; rfl)))⟩
def slices_Compact_int_int.f (l : List Int) : Option (List Int) := if l = [] then none else some (Lib.compact l)
theorem compact_le (l : List Int) : (Lib.compact l).length ≤ l.length := by
 unfold Lib.compact Lib.compactUpTo
 rw [List.length_map]
 exact Nat.le_trans (List.length_filter_le _ _) (by simp)
theorem slices_Compact_int_int.calls (P0_ : Nat → Prop) (u9000_ : Value) (l0 r : List Int) (w0 w : World) (hB : Below w0.heap.size w0 w) (ho0 : Kd.R (Kd.int .i64) 3 w w0.heap.size P0_ u9000_ l0) (h : slices_Compact_int_int.f l0 = some r) :
  Calls Tryz.prog 61 #[u9000_] w fun e w' => ∃ v0_ : Value, e = .returned v0_ ∧ Kd.R (Kd.int .i64) 3 w' w0.heap.size (fun k_ => (P0_ k_ ∨ w.heap.size ≤ k_)) v0_ r ∧ Below w0.heap.size w0 w' ∧ Kept w w' (fun k_ => P0_ k_) := by
 unfold slices_Compact_int_int.f at h
 by_cases hl : l0 = []
 ·rw [if_pos hl] at h; cases h
 rw [if_neg hl] at h
 obtain rfl := Option.some.inj h
 have hown := Kd.own_of_R ho0
 have hok := ho0.1
 rcases hown.2 with ⟨_, hn⟩ | ⟨g, cap, cur, rfl, hbase, hb, h1, h2, h3, h4⟩
 ·exact absurd (List.length_eq_zero_iff.1 hn) hl
 have h4' : cur.toList.take l0.length = l0.map (Value.int .i64) := by rw [Nat.mul_one] at h4; exact h4
 refine (Tryz.slices_Compact_int g 0 cap l0 w (holds_of_blockI hb h4') (by unfold maxLen at h2; omega) h1).mono ?_
 rintro e w' ⟨rfl, q, rfl⟩
 have hle := compact_le l0
 obtain ⟨ts, hts⟩ : ∃ ts, ts = Lib.compact l0 ++ List.replicate (l0.length - (Lib.compact l0).length) 0 := ⟨_, rfl⟩
 have hlen : ts.length = l0.length := by rw [hts]; simp; omega
 rw [← hts]
 have hr := ownsRow_sortedI (n := q) (os := #[]) (ts := ts) hlen hbase hb h1 h2 h3
 have hg := grownBy_sortedI (w := w) (g := g) (n := q) (os := #[]) ts.toArray
 rw [grow_empty] at hr hg
 refine ⟨_, rfl, Kd.R_of_own ⟨by simp [encs], .inr ?_⟩ (fun k hk => .inl (hok k (by simpa [Value.ownBlock] using hk))), hB.grown hg hB.size (fun k e => by cases e; exact hbase), hg.size, fun i hi hn => hg.block i hi (fun e => hn (hok i (by rw [e]; rfl)))⟩
 rcases hr.2 with ⟨hx, _⟩ | ⟨g', cap', cur', hv, hb', hh, _, hc', hs', ht'⟩
 ·cases hx
 cases hv
 refine ⟨_, _, cur', rfl, hb', hh, by omega, hc', hs', ?_⟩
 have ht2 : (cur'.toList.take (l0.length * 1)).take ((Lib.compact l0).length * 1) = (ts.map (Value.int .i64)).take ((Lib.compact l0).length * 1) := by rw [ht']
 rw [List.take_take, Nat.min_eq_left (by omega)] at ht2
 rw [ht2, hts, Nat.mul_one, ← List.map_take, List.take_left]
 rfl
end Go.Proofs.YtmgbaefgcdglpaaGreatDoor.PA
end
