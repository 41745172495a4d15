/- Words that the print of the kit writes, cut to what is used. Words that the print of the kit writes, cut to what is used. Words that the print of the kit writes, cut to what is used. Words that the print of the kit writes, cut to what is used. Words that the print of the kit writes, cut to what is used. All words. The directory in plain words: keys, devices, books, ops; what Apply and Valid do. Th -/
import Derived.Test.YtmgbaefgcdglpaaGreatDoorNb0
import Derived.Test.YtmgbaefgcdglpaaGreatDoorNb1
import Derived.SizedLaws
import Derived.ChangeSlices
import Derived.Lib.Bytealg
import Derived.WalkKit
import Derived.Laws.CopyOwn
import Derived.Lib.AppendZerosOnto
import Derived.Lib.Overlaps
import Derived.Laws.AppendOwn
import Derived.Below
import Derived.Test.YtmgbaefgcdglpaaGreatDoorProg
import Derived.ChangeKeysEq
import Derived.Shelf.SlicesE.Kit
import Derived.KernelRfl
import Derived.Deep.WholeRow
import Derived.Laws.Externs
import Derived.WalkLawsBesides
import Derived.BigQuiet
import Derived.Lib.Hide
section
namespace Go.Proofs.YtmgbaefgcdglpaaGreatDoorW.PrintWords
open Go.RowKit
namespace Kd
section
variable {α : Type} {d : Kd α} {e base g o n cap : Nat} {ok okp : Nat → Prop} {w W : World} {v : Value} {xs : List α}
theorem Q_form (h : d.Q e w base ok v xs) (hp : 0 < xs.length) : ∃ g o cap, v = .slice (some ⟨g, o, none⟩) xs.length cap ∧ base ≤ g ∧ g < w.heap.size ∧ ∃ cells, w.heap[g]? = some (.cells cells e (0, 0)) := by
 obtain ⟨h0, inner, hq, hr⟩ := h
 rcases hq.2 with ⟨h1, _⟩ | ⟨g, off, cap, cur, rfl, hb, hh, r⟩
 ·omega
 ·exact ⟨g, off * d.sz, cap, rfl, hb, blk_lt hh, cur, hh⟩
theorem Q_elem (h : d.Q e W base ok (.slice (some ⟨g, o, none⟩) n cap) xs) (z : α) (i : Int) (h0 : 0 ≤ i) (h1 : i < n) :
  ∃ c, c.length = d.sz ∧ d.M W base (fun k => ok k ∧ k ≠ g) (xs.getD i.toNat z) c ∧ (∀ j u, c[j]? = some u → W.cell? ⟨g, o + i.toNat * d.sz + j, none⟩ = some u) ∧ ∀ j, W.frozen? ⟨g, o + i.toNat * d.sz + j, none⟩ = false := by
 obtain ⟨hn, hnc, hC⟩ := Q_reads' h
 obtain ⟨_, inner, ho, hr⟩ := h
 have hil : i.toNat < xs.length := by omega
 have hseg : i.toNat * d.sz + d.sz ≤ inner.length := by rw [hr.1, ← Nat.succ_mul]; exact Nat.mul_le_mul_right _ hil
 have hM := hr.2 i.toNat _ (List.getElem?_eq_getElem hil)
 refine ⟨(inner.drop (i.toNat * d.sz)).take d.sz, by rw [List.length_take, List.length_drop]; omega, ?_, fun j u hu => ?_, fun j => ?_⟩
 ·rw [List.getD_eq_getElem?_getD, List.getElem?_eq_getElem hil]
  exact d.M_mono (fun k hk => ⟨hk.1, fun he => hk.2 (by rw [he]; simp [Value.ownBlock])⟩) hM
 ·rw [List.getElem?_take] at hu
  split at hu
  ·rw [List.getElem?_drop] at hu
   subst hn
   obtain ⟨ad, he, hc⟩ := q_cells ho (by omega)
   injection he with he
   subst he
   have := hc _ u hu
   rwa [add_at, ← Nat.add_assoc] at this
  ·cases hu
 ·obtain ⟨_, cells, hc⟩ := q_typed ho g (by simp [Value.ownBlock])
  exact blk_frozen hc _
theorem Q_seg (h : d.Q e W base ok (.slice (some ⟨g, o, none⟩) n cap) xs) (i : Int) (h0 : 0 ≤ i) (h1 : i < n) {c seg : List Value} {j : Nat} (hcl : c.length = d.sz) (hcc : ∀ j u, c[j]? = some u → W.cell? ⟨g, o + i.toNat * d.sz + j, none⟩ = some u)
  (hj : j + seg.length ≤ d.sz) {x' : α} (hM : d.M W base okp x' (c.take j ++ seg ++ c.drop (j + seg.length))) (hokp : ∀ k, okp k → ok k ∧ k ≠ g) :
  d.Q e (W.setCells g (o + i.toNat * d.sz + j) seg) base ok (.slice (some ⟨g, o, none⟩) n cap) (xs.set i.toNat x') ∧ W.grownBy (W.setCells g (o + i.toNat * d.sz + j) seg) (some g) := by
 obtain ⟨hn, hnc, _⟩ := Q_reads' h
 obtain ⟨hok, inner, ho, hr⟩ := h
 have hil : i.toNat < xs.length := by omega
 have hseg : i.toNat * d.sz + d.sz ≤ inner.length := by rw [hr.1, ← Nat.succ_mul]; exact Nat.mul_le_mul_right _ hil
 have hin : inner.length = n * d.sz := by rw [hr.1, hn]
 obtain ⟨ho1, ho2⟩ := ho
 rcases ho2 with ⟨hz, _⟩ | ⟨g', off, cap', cur, hv, hb, hh, hnc', hcm, hcs, ht⟩
 ·omega
 injection hv with ha _ hc
 injection ha with ha
 injection ha with hg hoff
 subst hg; subst hc; subst hoff
 have hcap : n * d.sz ≤ cap * d.sz := Nat.mul_le_mul_right _ hnc
 have hcs' : cur.size = off * d.sz + cap * d.sz := by rw [hcs, Nat.add_mul]
 have hfit : off * d.sz + i.toNat * d.sz + j + seg.length ≤ cur.size := by omega
 obtain ⟨cur', h3, h4, h5⟩ := setCells_row seg (off * d.sz + i.toNat * d.sz + j) W cur hh hfit
 obtain ⟨s1, s2, s3, s4⟩ := setCells_same g seg (off * d.sz + i.toNat * d.sz + j) W
 have hfar : ∀ k, k ≠ g → (W.setCells g (off * d.sz + i.toNat * d.sz + j) seg).heap[k]? = W.heap[k]? := fun k hk => setCells_far seg _ k hk
 rw [← hn] at ht
 -- the row's cells are the block's from off on
 have hat : ∀ q, q < n * d.sz → cur.toList[off * d.sz + q]? = inner[q]? := by
  intro q hq
  rw [← ht, List.getElem?_take, if_pos hq, List.getElem?_drop]
 have hcin : ∀ q, q < d.sz → c[q]? = inner[i.toNat * d.sz + q]? := by
  intro q hq
  have hq' : q < c.length := by omega
  have h6 := hcc q _ (List.getElem?_eq_getElem hq')
  rw [cell_of_row W g _ cur e (0, 0) hh] at h6
  rw [List.getElem?_eq_getElem hq', ← h6, ← hat _ (by omega), Array.getElem?_toList, Nat.add_assoc]
 refine ⟨⟨hok, inner.take (i.toNat * d.sz + j) ++ seg ++ inner.drop (i.toNat * d.sz + j + seg.length), ⟨?_, .inr ⟨g, off, cap, cur', by rw [List.length_set, hn], hb, h3, by rw [List.length_set, ← hn]; exact hnc, hcm, by rw [h4, hcs], ?_⟩⟩, ?_⟩,
  ⟨s1, s2, s3, by rw [s4]; exact Nat.le_refl _, fun k _ hk => hfar k (fun he => hk (by rw [he]))⟩⟩
 ·rw [List.length_set]
  simp only [List.length_append, List.length_take, List.length_drop]
  rw [hr.1] at hseg ⊢
  omega
 ·rw [List.length_set, ← hn]
  apply List.ext_getElem?
  intro q
  rw [List.getElem?_take, List.getElem?_drop, h5]
  rw [seg_get cur.toList seg (off * d.sz + i.toNat * d.sz + j) (by rw [Array.length_toList]; omega) (off * d.sz + q), seg_get inner seg (i.toNat * d.sz + j) (by omega) q]
  by_cases hq : q < n * d.sz
  ·rw [if_pos hq]
   by_cases hq1 : q < i.toNat * d.sz + j
   ·rw [if_pos (by omega), if_pos hq1, hat q hq]
   ·rw [if_neg (by omega), if_neg hq1]
    by_cases hq2 : q < i.toNat * d.sz + j + seg.length
    ·rw [if_pos (by omega), if_pos hq2]
     congr 1
     omega
    ·rw [if_neg (by omega), if_neg hq2, hat q hq]
  ·rw [if_neg hq, if_neg (by omega), if_neg (by omega), List.getElem?_eq_none (by omega)]
 ·refine ⟨?_, fun m p hm => ?_⟩
  ·rw [List.length_set]
   simp only [List.length_append, List.length_take, List.length_drop]
   rw [hr.1] at hseg ⊢
   omega
  ·have hml : m < xs.length := by
    have := (List.getElem?_eq_some_iff.1 hm).1
    rwa [List.length_set] at this
   have hmfit : m * d.sz + d.sz ≤ inner.length := by rw [hr.1, ← Nat.succ_mul]; exact Nat.mul_le_mul_right _ hml
   have hgo : some g = (Value.slice (some ⟨g, off * d.sz, none⟩) n cap).ownBlock := by simp [Value.ownBlock]
   by_cases hmi : m = i.toNat
   ·subst hmi
    rw [List.getElem?_set_self (by omega)] at hm
    injection hm with hm
    subst hm
    have hcells : ((inner.take (i.toNat * d.sz + j) ++ seg ++ inner.drop (i.toNat * d.sz + j + seg.length)).drop (i.toNat * d.sz)).take d.sz = c.take j ++ seg ++ c.drop (j + seg.length) := by
     apply List.ext_getElem?
     intro q
     rw [List.getElem?_take, List.getElem?_drop, seg_get inner seg _ (by omega), seg_get c seg j (by omega) q]
     by_cases hq : q < d.sz
     ·rw [if_pos hq, hcin q hq]
      by_cases hq1 : q < j
      ·rw [if_pos (by omega), if_pos hq1]
      ·rw [if_neg (by omega), if_neg hq1]
       by_cases hq2 : q < j + seg.length
       ·rw [if_pos (by omega), if_pos hq2]
        congr 1
        omega
       ·rw [if_neg (by omega), if_neg hq2]
     ·rw [if_neg hq, if_neg (by omega), if_neg (by omega), List.getElem?_eq_none (by omega)]
    rw [hcells]
    refine d.M_mono (fun k hk => ?_) (d.M_move (w1 := W.setCells g (off * d.sz + i.toNat * d.sz + j) seg) (fun k hk => hfar k (hokp k hk).2) hM)
    exact ⟨(hokp k hk).1, fun he => (hokp k hk).2 (by rw [← hgo] at he; injection he)⟩
   ·rw [List.getElem?_set_ne (by omega)] at hm
    have hold := hr.2 m p hm
    have hcells : ((inner.take (i.toNat * d.sz + j) ++ seg ++ inner.drop (i.toNat * d.sz + j + seg.length)).drop (m * d.sz)).take d.sz = (inner.drop (m * d.sz)).take d.sz := by
     apply List.ext_getElem?
     intro q
     rw [List.getElem?_take, List.getElem?_take, List.getElem?_drop, List.getElem?_drop, seg_get inner seg _ (by omega)]
     by_cases hq : q < d.sz
     ·rw [if_pos hq, if_pos hq]
      rcases Nat.lt_or_gt_of_ne hmi with hlt | hgt
      ·have : m * d.sz + d.sz ≤ i.toNat * d.sz := by rw [← Nat.succ_mul]; exact Nat.mul_le_mul_right _ hlt
       rw [if_pos (by omega)]
      ·have : i.toNat * d.sz + d.sz ≤ m * d.sz := by rw [← Nat.succ_mul]; exact Nat.mul_le_mul_right _ hgt
       rw [if_neg (by omega), if_neg (by omega)]
     ·rw [if_neg hq, if_neg hq]
    rw [hcells]
    refine d.M_move (fun k hk => hfar k (fun he => hk.2 (by rw [he]; exact hgo))) hold
end
section
variable {α : Type} {enc : α → Value} {h1 : ∀ x, (enc x).oneCell' = true} {e base g o n cap : Nat} {ok : Nat → Prop} {W : World} {xs : List α}
theorem Q_cell (d : α) (h : (scalar enc h1).Q e W base ok (.slice (some ⟨g, o, none⟩) n cap) xs) (i : Int) (h0 : 0 ≤ i) (hi : i < n) : W.cell? ⟨g, o + i.toNat, none⟩ = some (enc (rdOf d xs i)) ∧ W.frozen? ⟨g, o + i.toNat, none⟩ = false := by
 obtain ⟨c, _, hM, hcc, hf⟩ := Q_elem h d i h0 hi
 have hM' : c = [enc (xs.getD i.toNat d)] := hM
 subst hM'
 have h2 := hcc 0 _ rfl
 have h3 := hf 0
 rw [show (scalar enc h1).sz = 1 from rfl, Nat.mul_one, Nat.add_zero] at h2 h3
 exact ⟨h2, h3⟩
theorem Q_putg (h : (scalar enc h1).Q e W base ok (.slice (some ⟨g, o, none⟩) n cap) xs) (i : Int) (h0 : 0 ≤ i) (hi : i < n) (x : α) : (scalar enc h1).Q e (W.setCell ⟨g, o + i.toNat, none⟩ (enc x)) base ok (.slice (some ⟨g, o, none⟩) n cap) (xs.set i.toNat x) ∧ W.grownBy (W.setCell ⟨g, o + i.toNat, none⟩ (enc x)) (some g) := by
 have hp : 0 < xs.length := by have := (Q_reads' h).1; omega
 obtain ⟨c, hcl, _, hcc, _⟩ := Q_elem h (xs[0]'hp) i h0 hi
 have h2 := Q_seg h i h0 hi (c := c) (seg := [enc x]) (j := 0) (okp := fun _ => False) (x' := x) hcl hcc (Nat.le_refl 1) (by
  have hl : c.length = 1 := hcl
  show c.take 0 ++ [enc x] ++ c.drop (0 + 1) = [enc x]
  rw [List.drop_eq_nil_of_le (by omega)]
  rfl) (fun _ hk => hk.elim)
 rw [show (scalar enc h1).sz = 1 from rfl, Nat.mul_one, Nat.add_zero] at h2
 exact h2
end
end Kd
end Go.Proofs.YtmgbaefgcdglpaaGreatDoorW.PrintWords
end
section
namespace Go.Proofs.YtmgbaefgcdglpaaGreatDoorW.PrintWords
open Go.RowKit
namespace Kd
section
variable {α : Type} {d : Kd α} {e base n cap g : Nat} {ok ok' okp : Nat → Prop} {w w1 W : World} {v v1 : Value} {xs ys : List α}
end
section
variable {P : Program} {ops : Array Oper} {rest : List Oper} {o : Oper} {a : Act} {Q : Exit → Act → World → Prop} {Kc : Act → World → Prop} {α : Type}
end
end Kd
end Go.Proofs.YtmgbaefgcdglpaaGreatDoorW.PrintWords
end
section
namespace Go.Proofs.YtmgbaefgcdglpaaGreatDoorW.PrintMore
open Go.RowKit Go.Proofs.YtmgbaefgcdglpaaGreatDoorW.PrintWords
namespace Kd
open Go.Proofs.YtmgbaefgcdglpaaGreatDoorW.PrintWords.Kd
end Kd
namespace Kd
open Go.Proofs.YtmgbaefgcdglpaaGreatDoorW.PrintWords.Kd
section
variable {α : Type} {d : Kd α} {e base g N : Nat} {ok : Nat → Prop} {W w1 : World} {u v : Value} {xs : List α}
end
end Kd
theorem max2_int (k k' : IntKind) (x y : Int) : Builtin.max2 (.int k x) (.int k' y) = pure (.int k (if x < y then y else x)) := by simp only [Builtin.max2, gt_iff_lt]
theorem min2_int (k k' : IntKind) (x y : Int) : Builtin.min2 (.int k x) (.int k' y) = pure (.int k (if y < x then y else x)) := by simp only [Builtin.min2]
theorem max_two (ats : Array TypeId) (ty : TypeId) (a b : Value) : Builtin.max_ ats ty #[a, b] = (Builtin.max2 a b >>= fun s => pure s) := by simp only [Builtin.max_, List.foldlM_cons, List.foldlM_nil]
theorem min_two (ats : Array TypeId) (ty : TypeId) (a b : Value) : Builtin.min_ ats ty #[a, b] = (Builtin.min2 a b >>= fun s => pure s) := by simp only [Builtin.min_, List.foldlM_cons, List.foldlM_nil]
theorem max_three (ats : Array TypeId) (ty : TypeId) (a b c : Value) : Builtin.max_ ats ty #[a, b, c] = (Builtin.max2 a b >>= fun s => Builtin.max2 s c >>= fun s => pure s) := by simp only [Builtin.max_, List.foldlM_cons, List.foldlM_nil]
theorem min_three (ats : Array TypeId) (ty : TypeId) (a b c : Value) : Builtin.min_ ats ty #[a, b, c] = (Builtin.min2 a b >>= fun s => Builtin.min2 s c >>= fun s => pure s) := by simp only [Builtin.min_, List.foldlM_cons, List.foldlM_nil]
theorem max_four (ats : Array TypeId) (ty : TypeId) (a b c d : Value) : Builtin.max_ ats ty #[a, b, c, d] = (Builtin.max2 a b >>= fun s => Builtin.max2 s c >>= fun s => Builtin.max2 s d >>= fun s => pure s) := by simp only [Builtin.max_, List.foldlM_cons, List.foldlM_nil]
theorem min_four (ats : Array TypeId) (ty : TypeId) (a b c d : Value) : Builtin.min_ ats ty #[a, b, c, d] = (Builtin.min2 a b >>= fun s => Builtin.min2 s c >>= fun s => Builtin.min2 s d >>= fun s => pure s) := by simp only [Builtin.min_, List.foldlM_cons, List.foldlM_nil]
end Go.Proofs.YtmgbaefgcdglpaaGreatDoorW.PrintMore
namespace Go.Proofs.YtmgbaefgcdglpaaGreatDoorW.PrintWords
open Go.RowKit
section
variable {P : Program} {ops : Array Oper} {rest : List Oper} {o : Oper} {a : Act} {Q : Exit → Act → World → Prop} {W : World}
theorem gate_callee {f : FuncId} {as : Array Operand} {ts : Array TypeId} (_ho : o.op = .call { callee := .value (.func f), args := as, argTypes := ts }) (h : wpList P ops Q (o :: rest) a W) : wpList P ops Q (o :: rest) a W := h
theorem gate_builtin {b : Builtin} {xs : Array Operand} {ts : Array TypeId} (_ho : o.op = .call { callee := .builtin b, args := xs, argTypes := ts }) (h : wpList P ops Q (o :: rest) a W) : wpList P ops Q (o :: rest) a W := h
end
def shl (k : IntKind) (x y : Int) : Int := k.wrap (x * 2 ^ min y.toNat k.bits)
def shr (k : IntKind) (x y : Int) : Int := x / 2 ^ min y.toNat k.bits
theorem shl_small {k : IntKind} {x y j : Int} (h : shl k x y = j) (hy : y ≤ k.bits) : k.wrap (x * 2 ^ y.toNat) = j := by rw [← h]; unfold shl; rw [Nat.min_eq_left (by omega)]
theorem shr_small {k : IntKind} {x y j : Int} (h : shr k x y = j) (hy : y ≤ k.bits) : x / 2 ^ y.toNat = j := by rw [← h]; unfold shr; rw [Nat.min_eq_left (by omega)]
theorem drewN_self (w : World) (n : Nat) : w.drewN n = w.drewN n := rfl
namespace Kd
section
variable {α : Type} {d : Kd α} {e base : Nat} {ok : Nat → Prop} {W w1 : World} {v : Value} {xs : List α}
theorem R_grown2 (h : d.R e W base ok v xs) (hE : d.E = []) {row : Option Nat} (hg : W.grownBy w1 row) (hne : ∀ k, row = some k → some k ≠ v.ownBlock) : d.R e w1 base ok v xs :=
 R_mono (R_grown (R_tight hE h) hg (fun k hk e_ => hne k e_.symm hk)) (fun k hk => h.1 k hk.symm)
end
section
variable {α : Type} {d : Kd α} {e base g n cap : Nat} {ok oki okp : Nat → Prop} {W : World} {xs : List α} {i : Int} {c : List Value}
end
section
variable {α : Type} {d : Kd α} {e base b b' g N : Nat} {ok ok1 : Nat → Prop} {W W2 w1 : World} {u v : Value} {xs ys : List α} {S : Nat → Prop}
theorem R_reok (hE : d.E = []) (h : d.R e W base ok1 v xs) (hok : ∀ k, v.ownBlock = some k → ok k) : d.R e W base ok v xs := R_mono (R_tight hE h) (fun k hk => hok k hk.symm)
end
end Kd
end Go.Proofs.YtmgbaefgcdglpaaGreatDoorW.PrintWords
namespace Go.Proofs.YtmgbaefgcdglpaaGreatDoorW.PrintWords
open Go.RowKit
namespace Kd
def V {α : Type} (d : Kd α) (_e : Nat) (W : World) (_base : Nat) (ok : Nat → Prop) (v : Value) (xs : List α) : Prop := ∃ A c, v = .slice A xs.length c ∧ xs.length ≤ c ∧ F d W ok A xs.length xs
section
variable {α β : Type} {d : Kd α} {e base base' n m c g N' lo hi : Nat} {ok ok' S : Nat → Prop} {w W w1 : World} {A : Option Addr} {ad : Addr} {u v v1 : Value} {xs : List α}
theorem V_map (h : V d e W base ok v xs) (hF : ∀ A, F d W ok A xs.length xs → F d w1 ok' A xs.length xs) : V d e w1 base' ok' v xs := by
 obtain ⟨A, c, hv, hl, hf⟩ := h
 exact ⟨A, c, hv, hl, hF A hf⟩
theorem V_mk (hl : xs.length ≤ c) (hf : F d W ok A xs.length xs) : V d e W base ok (.slice A xs.length c) xs := ⟨A, c, rfl, hl, hf⟩
theorem V_at (h : V d e W base ok (.slice A n c) xs) : n = xs.length ∧ n ≤ c ∧ F d W ok A xs.length xs := by
 obtain ⟨A', c', hv, hl, hf⟩ := h
 injection hv with ha hn hc
 subst ha; subst hc
 exact ⟨hn, by rw [hn]; exact hl, hf⟩
theorem V_reads' (h : V d e W base ok (.slice A n c) xs) : n = xs.length ∧ n ≤ c ∧ d.C W A xs.length xs := ⟨(V_at h).1, (V_at h).2.1, F_now (V_at h).2.2⟩
theorem V_nil (d : Kd α) (e : Nat) (W : World) (base : Nat) (ok : Nat → Prop) : V d e W base ok (.slice none 0 0) [] := ⟨none, 0, rfl, Nat.le_refl _, F_nil d W ok⟩
theorem R_V (h : d.R e W base ok v xs) : V d e W base' ok v xs := by
 obtain ⟨A, c, rfl⟩ := R_slice h
 exact ⟨A, c, rfl, (R_reads' h).2.1, R_F h⟩
theorem V_mono (h : V d e W base ok v xs) (hok : ∀ k, ok k → ok' k) : V d e W base ok' v xs := V_map h (fun _ hf => F_mono hf hok)
theorem V_below (h : V d e W base ok v xs) (hb : Below W.heap.size W w1) : V d e w1 base ok v xs := V_map h (fun _ hf => F_below hf hb)
theorem V_alloc (h : V d e W base ok v xs) (o : Obj) : V d e (W.alloc o) base ok v xs := V_map h (fun _ hf => F_alloc hf o)
theorem V_drew (h : V d e W base ok v xs) : V d e W.drew base ok v xs := V_map h (fun _ hf => F_drew hf)
theorem V_drewN (h : V d e W base ok v xs) (m : Nat) : V d e (W.drewN m) base ok v xs := V_map h (fun _ hf => F_drewN hf m)
theorem V_after (h : V d e W base (fun k => ok k ∧ some k ≠ u.ownBlock) v xs) (hg : W.grownBy w1 u.ownBlock) (hat : v1.ownBlock = u.ownBlock ∨ ∃ b, v1.ownBlock = some b ∧ W.heap.size ≤ b) : V d e w1 base (fun k => ok k ∧ some k ≠ v1.ownBlock) v xs := V_map h (fun _ hf => F_after hf hg hat)
theorem V_afterv (h : V d e W base (fun k => ok k ∧ some k ≠ v.ownBlock) u xs) (hg : W.grownBy w1 v.ownBlock) (hat : v1.ownBlock = v.ownBlock ∨ ∃ b, v1.ownBlock = some b ∧ W.heap.size ≤ b) : V d e w1 base (fun k => ok k ∧ some k ≠ v1.ownBlock) u xs := V_after h hg hat
theorem F_take (h : F d W ok A xs.length xs) (hm : m ≤ xs.length) : F d W ok A (xs.take m).length (xs.take m) := F_imp h (fun _ hC => C_take hC hm)
end
end Kd
end Go.Proofs.YtmgbaefgcdglpaaGreatDoorW.PrintWords
end
section
namespace Go.Proofs.YtmgbaefgcdglpaaGreatDoorW.PrintWords
theorem Reps.one {α : Type} {R : α → List Value → Prop} {ps : List α} {cs : List Value} {p : α} {v : Value} (hp : R p [v]) (h : Reps R 1 ps cs) : Reps R 1 (p :: ps) (v :: cs) := by
 refine ⟨by simp [h.1], fun j q hq => ?_⟩
 cases j with
 | zero =>
  simp only [List.getElem?_cons_zero, Option.some.injEq] at hq
  subst hq
  simpa using hp
 | succ j =>
  simp only [List.getElem?_cons_succ] at hq
  have h1 := h.2 j q hq
  simpa [Nat.mul_one] using h1
theorem Reps.front {α : Type} {R : α → List Value → Prop} {size : Nat} {ps : List α} {cs c all : List Value} {p : α} (hp : R p c) (hc : c.length = size) (h : Reps R size ps cs) (ha : c ++ cs = all) : Reps R size (p :: ps) all := by
 subst ha
 refine ⟨by rw [List.length_append, hc, h.1, List.length_cons, Nat.succ_mul, Nat.add_comm], fun j q hq => ?_⟩
 cases j with
 | zero =>
  simp only [List.getElem?_cons_zero, Option.some.injEq] at hq
  subst hq
  rw [Nat.zero_mul, List.drop_zero, List.take_append_of_le_length (by omega), List.take_of_length_le (by omega)]
  exact hp
 | succ j =>
  simp only [List.getElem?_cons_succ] at hq
  have h1 := h.2 j q hq
  rw [Nat.succ_mul, List.drop_append, List.drop_of_length_le (by rw [hc]; exact Nat.le_add_left _ _), List.nil_append, hc, Nat.add_sub_cancel]
  exact h1
theorem Reps.c2 {α : Type} {R : α → List Value → Prop} {ps : List α} {cs : List Value} {p : α} {va vb : Value} (hp : R p [va, vb]) (h : Reps R 2 ps cs) : Reps R 2 (p :: ps) (va :: vb :: cs) := Reps.front hp rfl h rfl
theorem Reps.c3 {α : Type} {R : α → List Value → Prop} {ps : List α} {cs : List Value} {p : α} {va vb vc : Value} (hp : R p [va, vb, vc]) (h : Reps R 3 ps cs) : Reps R 3 (p :: ps) (va :: vb :: vc :: cs) := Reps.front hp rfl h rfl
theorem Reps.c4 {α : Type} {R : α → List Value → Prop} {ps : List α} {cs : List Value} {p : α} {va vb vc vd : Value} (hp : R p [va, vb, vc, vd]) (h : Reps R 4 ps cs) : Reps R 4 (p :: ps) (va :: vb :: vc :: vd :: cs) := Reps.front hp rfl h rfl
theorem Reps.c5 {α : Type} {R : α → List Value → Prop} {ps : List α} {cs : List Value} {p : α} {va vb vc vd ve : Value} (hp : R p [va, vb, vc, vd, ve]) (h : Reps R 5 ps cs) : Reps R 5 (p :: ps) (va :: vb :: vc :: vd :: ve :: cs) := Reps.front hp rfl h rfl
theorem Reps.c6 {α : Type} {R : α → List Value → Prop} {ps : List α} {cs : List Value} {p : α} {va vb vc vd ve vf : Value} (hp : R p [va, vb, vc, vd, ve, vf]) (h : Reps R 6 ps cs) : Reps R 6 (p :: ps) (va :: vb :: vc :: vd :: ve :: vf :: cs) := Reps.front hp rfl h rfl
theorem Reps.c7 {α : Type} {R : α → List Value → Prop} {ps : List α} {cs : List Value} {p : α} {va vb vc vd ve vf vg : Value} (hp : R p [va, vb, vc, vd, ve, vf, vg]) (h : Reps R 7 ps cs) : Reps R 7 (p :: ps) (va :: vb :: vc :: vd :: ve :: vf :: vg :: cs) := Reps.front hp rfl h rfl
theorem Reps.c8 {α : Type} {R : α → List Value → Prop} {ps : List α} {cs : List Value} {p : α} {va vb vc vd ve vf vg vh : Value} (hp : R p [va, vb, vc, vd, ve, vf, vg, vh]) (h : Reps R 8 ps cs) : Reps R 8 (p :: ps) (va :: vb :: vc :: vd :: ve :: vf :: vg :: vh :: cs) := Reps.front hp rfl h rfl
theorem Reps.c9 {α : Type} {R : α → List Value → Prop} {ps : List α} {cs : List Value} {p : α} {va vb vc vd ve vf vg vh vi : Value} (hp : R p [va, vb, vc, vd, ve, vf, vg, vh, vi]) (h : Reps R 9 ps cs) : Reps R 9 (p :: ps) (va :: vb :: vc :: vd :: ve :: vf :: vg :: vh :: vi :: cs) := Reps.front hp rfl h rfl
theorem Reps.c10 {α : Type} {R : α → List Value → Prop} {ps : List α} {cs : List Value} {p : α} {va vb vc vd ve vf vg vh vi vj : Value} (hp : R p [va, vb, vc, vd, ve, vf, vg, vh, vi, vj]) (h : Reps R 10 ps cs) : Reps R 10 (p :: ps) (va :: vb :: vc :: vd :: ve :: vf :: vg :: vh :: vi :: vj :: cs) := Reps.front hp rfl h rfl
end Go.Proofs.YtmgbaefgcdglpaaGreatDoorW.PrintWords
end
section
namespace Go.Proofs.YtmgbaefgcdglpaaGreatDoorW.PrintWords
open Go.ChangeShapes Go.WideShapes
end Go.Proofs.YtmgbaefgcdglpaaGreatDoorW.PrintWords
end
section

end
section
namespace Go.Proofs.YtmgbaefgcdglpaaGreatDoor.Dir
abbrev Key := { l : List UInt8 // l.length = 32 }
def key0 : Key := ⟨List.replicate 32 0, by simp⟩
instance : Inhabited Key := ⟨key0⟩
def cmpK (a b : Key) : Int := Lib.compareBytes a.1 b.1
def ltK (a b : Key) : Bool := decide (cmpK a b < 0)
def byteV (b : UInt8) : Value := .int .u8 (b.toNat : Int)
def encK (k : Key) : List Value := k.1.map byteV
theorem encK_len (k : Key) : (encK k).length = 32 := by simp [encK, k.2]
theorem encK_one (k : Key) : ∀ v ∈ encK k, v.oneCell' = true := by
 intro v hv
 obtain ⟨b, -, rfl⟩ := List.mem_map.1 hv
 rfl
theorem cmpB_self : ∀ (a : List UInt8), Lib.compareBytes a a = 0
 | [] => rfl
 | x :: a => by unfold Lib.compareBytes; simp [cmpB_self a]
theorem cmpB_eq : ∀ (a b : List UInt8), Lib.compareBytes a b = 0 → a = b
 | [], [], _ => rfl
 | [], _ :: _, h => by simp [Lib.compareBytes] at h
 | _ :: _, [], h => by simp [Lib.compareBytes] at h
 | x :: a, y :: b, h => by
 unfold Lib.compareBytes at h
 split at h
 ·simp at h
 ·split at h
  ·simp at h
  ·rename_i h1 h2
  have : x = y := UInt8.le_antisymm (UInt8.not_lt.1 h2) (UInt8.not_lt.1 h1)
  rw [this, cmpB_eq a b h]
theorem cmpB_swap : ∀ (a b : List UInt8), Lib.compareBytes b a = - Lib.compareBytes a b
 | [], [] => rfl
 | [], _ :: _ => by simp [Lib.compareBytes]
 | _ :: _, [] => by simp [Lib.compareBytes]
 | x :: a, y :: b => by
 unfold Lib.compareBytes
 by_cases h1 : x < y
 ·have h2 : ¬ y < x := fun h => by
  have := UInt8.lt_trans h1 h
  exact absurd this (UInt8.lt_irrefl _)
  simp [h1, h2]
 ·by_cases h2 : y < x
  ·simp [h1, h2]
  ·simp [h1, h2, cmpB_swap a b]
theorem cmpB_trans : ∀ (a b c : List UInt8), Lib.compareBytes a b < 0 → Lib.compareBytes b c < 0 → Lib.compareBytes a c < 0
 | [], [], _, h, _ => by simp [Lib.compareBytes] at h
 | [], _ :: _, [], _, h => by simp [Lib.compareBytes] at h
 | [], _ :: _, _ :: _, _, _ => by simp [Lib.compareBytes]
 | _ :: _, [], _, h, _ => by simp [Lib.compareBytes] at h
 | _ :: _, _ :: _, [], _, h => by simp [Lib.compareBytes] at h
 | x :: a, y :: b, z :: c, h1, h2 => by
 unfold Lib.compareBytes at h1 h2 ⊢
 split at h1
 ·rename_i xy
  split at h2
  ·rename_i yz
  rw [if_pos (UInt8.lt_trans xy yz)]; decide
  ·split at h2
  ·exact absurd h2 (by decide)
  ·rename_i n1 n2
   have : y = z := UInt8.le_antisymm (UInt8.not_lt.1 n2) (UInt8.not_lt.1 n1)
   rw [← this, if_pos xy]; decide
 ·split at h1
  ·exact absurd h1 (by decide)
  ·rename_i n1 n2
  have exy : x = y := UInt8.le_antisymm (UInt8.not_lt.1 n2) (UInt8.not_lt.1 n1)
  split at h2
  ·rename_i yz
   rw [exy, if_pos yz]; decide
  ·split at h2
   ·exact absurd h2 (by decide)
   ·rename_i m1 m2
   have eyz : y = z := UInt8.le_antisymm (UInt8.not_lt.1 m2) (UInt8.not_lt.1 m1)
   rw [exy, eyz, if_neg (UInt8.lt_irrefl _), if_neg (UInt8.lt_irrefl _)]
   exact cmpB_trans a b c h1 h2
theorem cmpK_zero {a b : Key} : cmpK a b = 0 ↔ a = b := ⟨fun h => Subtype.ext (cmpB_eq _ _ h), fun h => by subst h; exact cmpB_self _⟩
theorem ltK_irrefl (a : Key) : ltK a a = false := by unfold ltK cmpK; rw [cmpB_self]; rfl
theorem ltK_trans {a b c : Key} (h1 : ltK a b = true) (h2 : ltK b c = true) : ltK a c = true := decide_eq_true (cmpB_trans _ _ _ (of_decide_eq_true h1) (of_decide_eq_true h2))
theorem ltK_tri (a b : Key) : ltK a b = true ∨ a = b ∨ ltK b a = true := by
 have hs := cmpB_swap a.1 b.1
 by_cases h : cmpK a b < 0
 ·exact .inl (decide_eq_true h)
 ·by_cases h0 : cmpK a b = 0
 ·exact .inr (.inl (cmpK_zero.1 h0))
 ·refine .inr (.inr (decide_eq_true ?_))
  unfold cmpK at h h0 ⊢
  omega
theorem ltK_asymm {a b : Key} (h : ltK a b = true) : ltK b a = false := by
 cases h2 : ltK b a
 ·rfl
 ·have := ltK_trans h h2
 rw [ltK_irrefl] at this; cases this
structure Dev where
 node : Int
 key : Key
 exp : Int
 rev : Bool
 deriving DecidableEq, Inhabited
def encD (d : Dev) : List Value := .int .i64 d.node :: (encK d.key ++ [.int .i64 d.exp, .bool d.rev])
theorem encD_len (d : Dev) : (encD d).length = 35 := by simp [encD, encK_len]
theorem encD_one (d : Dev) : ∀ v ∈ encD d, v.oneCell' = true := by
 intro v hv
 simp only [encD, List.mem_cons, List.mem_append, List.not_mem_nil, or_false] at hv
 rcases hv with rfl | hv | rfl | rfl
 ·rfl
 ·exact encK_one _ _ hv
 ·rfl
 ·rfl
def flatD (l : List Dev) : List Value := l.flatMap encD
def flatK (l : List Key) : List Value := l.flatMap encK
theorem flatK_len (l : List Key) : (flatK l).length = l.length * 32 := by
 induction l with
 | nil => rfl
 | cons d l ih => rw [flatK, List.flatMap_cons, List.length_append, encK_len, ← flatK, ih, List.length_cons]; omega
structure Book where
 ver : Int
 clock : Int
 devs : List Dev
 spent : List Key
 acl : List UInt8
 deriving DecidableEq, Inhabited
def book0 : Book := ⟨0, 0, [], [], []⟩
structure Op where
 kind : Int
 node : Int
 key : Key
 exp : Int
 text : List UInt8
 at_ : Int
 deriving DecidableEq, Inhabited
def encO (o : Op) : List Value := .int .i64 o.kind :: .int .i64 o.node :: (encK o.key ++ [.int .i64 o.exp, .string ⟨o.text.toArray⟩, .int .i64 o.at_])
def maxN : Int := 9007199254740991
def number (n : Int) : Bool := decide (0 ≤ n ∧ n ≤ maxN)
def posD (l : List Dev) (node : Int) : Nat := l.countP fun d => decide (d.node < node)
def hasD (l : List Dev) (node : Int) : Bool := l.any fun d => decide (d.node = node)
def takenB (b : Book) : List Key := b.spent ++ b.devs.map (·.key)
def freshOf (b : Book) (o : Op) (more : Bool) : Int :=
 if o.key = key0 ∨ o.key ∈ takenB b then 221
 else if o.exp < 1 ∨ number o.exp = false ∨ o.exp ≤ b.clock then 9
 else if more = true ∧ b.spent.length = 64 then 5
 else 0
def posK (l : List Key) (k : Key) : Nat := l.countP fun x => ltK x k
def insertAt {α : Type} (l : List α) (i : Nat) (x : α) : List α := l.take i ++ x :: l.drop i
def spendOf (b : Book) (k : Key) : Book := { b with spent := insertAt b.spent (posK b.spent k) k }
def devAt (b : Book) (node : Int) : Dev := b.devs.getD (posD b.devs node) default
def devOf (o : Op) : Dev := ⟨o.node, o.key, o.exp, false⟩
def registerOf (b : Book) (o : Op) : Book × Int :=
 if o.node < 1 ∨ 8 < o.node ∨ hasD b.devs o.node = true ∧ (devAt b o.node).rev = false then (b, 220)
 else if freshOf b o (hasD b.devs o.node) = 0 then
 if hasD b.devs o.node = true then ({ spendOf b (devAt b o.node).key with devs := b.devs.set (posD b.devs o.node) (devOf o) }, 0)
 else ({ b with devs := insertAt b.devs (posD b.devs o.node) (devOf o) }, 0)
 else (b, freshOf b o (hasD b.devs o.node))
def liveOf (b : Book) (node : Int) : Int := if hasD b.devs node = false then 220 else if (devAt b node).rev = true then 222 else 0
def rotateOf (b : Book) (o : Op) : Book × Int :=
 if liveOf b o.node = 0 then
 if freshOf b o true = 0 then ({ spendOf b (devAt b o.node).key with devs := b.devs.set (posD b.devs o.node) (devOf o) }, 0)
 else (b, freshOf b o true)
 else (b, liveOf b o.node)
def revokeOf (b : Book) (o : Op) : Book × Int :=
 if liveOf b o.node = 0 then ({ b with devs := b.devs.set (posD b.devs o.node) { devAt b o.node with rev := true } }, 0)
 else (b, liveOf b o.node)
def advanceOf (b : Book) (o : Op) : Book × Int := if o.at_ ≤ b.clock ∨ number o.at_ = false then (b, 9) else ({ b with clock := o.at_ }, 0)
def nextOf (rules : List UInt8 → Int) (b : Book) (o : Op) : Book × Int :=
 if o.kind = 1 then registerOf b o else if o.kind = 2 then rotateOf b o else if o.kind = 3 then revokeOf b o
 else if o.kind = 4 then ({ b with acl := o.text }, rules o.text) else if o.kind = 5 then advanceOf b o else (b, 2)
def errOf (rules : List UInt8 → Int) (b : Book) (o : Op) : Int :=
 if (nextOf rules b o).2 = 0 ∧ (nextOf rules b o).1.ver = maxN then 5 else (nextOf rules b o).2
def applyOf (rules : List UInt8 → Int) (b : Book) (o : Op) : Book :=
 if errOf rules b o = 0 then { (nextOf rules b o).1 with ver := (nextOf rules b o).1.ver + 1 } else b
def validOf (b : Book) (k : Key) (now : Int) : Option Int :=
 match b.devs.find? (fun d => decide (d.key = k)) with
 | none => none
 | some d => if d.rev = true ∨ d.exp ≤ now ∨ d.exp ≤ b.clock then none else some d.node
structure WF (b : Book) : Prop where
 ver : 0 ≤ b.ver ∧ b.ver ≤ maxN
 clock : 0 ≤ b.clock ∧ b.clock ≤ maxN
 devs : b.devs.Pairwise (·.node < ·.node)
 nodes : ∀ d ∈ b.devs, 1 ≤ d.node ∧ d.node ≤ 8
 exps : ∀ d ∈ b.devs, 1 ≤ d.exp ∧ d.exp ≤ maxN
 spent : b.spent.Pairwise (fun a b => ltK a b = true)
 len : b.spent.length ≤ 64
 keys : (takenB b).Nodup
 nonzero : key0 ∉ takenB b
end Go.Proofs.YtmgbaefgcdglpaaGreatDoor.Dir
/- copy at elements of k cells into a row that is known whole; append of zeros; no program's text in sight. -/
set_option linter.unusedVariables false
set_option linter.unusedSimpArgs false
namespace Go.Proofs.YtmgbaefgcdglpaaGreatDoor.Dir
open Go Go.RowKit
variable {P : Program}
theorem grownBy_setRow (w : World) (g : Nat) (cs : Array Value) : w.grownBy (w.setRow g cs) (some g) :=
 ⟨rfl, rfl, rfl, by simp, fun k _ hk => setRow_other w g k cs (fun e => hk (by rw [e]))⟩
theorem grownBy_trans {a b c : World} {r : Option Nat} (h1 : a.grownBy b r) (h2 : b.grownBy c r) : a.grownBy c r :=
 ⟨h2.os.trans h1.os, h2.tape.trans h1.tape, h2.output.trans h1.output, Nat.le_trans h1.size h2.size, fun k hk hr => (h2.block k (Nat.lt_of_lt_of_le hk h1.size) hr).trans (h1.block k hk hr)⟩
theorem grownBy_refl (w : World) (r : Option Nat) : w.grownBy w r := ⟨rfl, rfl, rfl, Nat.le_refl _, fun _ _ _ => rfl⟩
theorem grownBy_wide {a b : World} {r : Option Nat} (h : a.grownBy b none) : a.grownBy b r := ⟨h.os, h.tape, h.output, h.size, fun k hk _ => h.block k hk (fun e => by cases e)⟩
theorem grownBy_below {a b : World} (h : Below a.heap.size a b) : a.grownBy b none := ⟨h.os, h.tape, h.output, h.size, fun k hk _ => h.block k hk⟩
theorem owns_open {w : World} {base : Nat} {e : TypeId} {size g n cap : Nat} {xs : List Value} (h : w.ownsRow base e size (.slice (some ⟨g, 0, none⟩) n cap) n xs) :
 ∃ cur : List Value, base ≤ g ∧ w.heap[g]? = some (.cells cur.toArray e (0, 0)) ∧ n ≤ cap ∧ cap ≤ maxLen ∧ cur.length = cap * size ∧ cur.take (n * size) = xs ∧ xs.length = n * size := by
 rcases h.2 with ⟨h', _⟩ | ⟨g', cap', cur, h', hb, hg, hnc, hcm, hcs, htake⟩
 ·simp at h'
 ·simp only [Value.slice.injEq, Option.some.injEq, Addr.mk.injEq, and_true, true_and] at h'
 obtain ⟨rfl, rfl⟩ := h'
 exact ⟨cur.toList, hb, by simpa using hg, hnc, hcm, by simpa using hcs, htake, h.1⟩
theorem owns_shut {w : World} {base : Nat} {e : TypeId} {size g n cap : Nat} {cur xs : List Value} (hb : base ≤ g) (hg : w.heap[g]? = some (.cells cur.toArray e (0, 0))) (hn : n ≤ cap) (hc : cap ≤ maxLen) (hs : cur.length = cap * size) (ht : cur.take (n * size) = xs) :
 w.ownsRow base e size (.slice (some ⟨g, 0, none⟩) n cap) n xs :=
 ⟨by rw [← ht, List.length_take, hs]; exact Nat.min_eq_left (Nat.mul_le_mul_right _ hn), .inr ⟨g, cap, cur.toArray, rfl, hb, hg, hn, hc, by simpa using hs, by simpa using ht⟩⟩
theorem cell_of_heap {w : World} {g j : Nat} {cur : List Value} {e : TypeId} {fr : Nat × Nat} (hg : w.heap[g]? = some (.cells cur.toArray e fr)) : w.cell? ⟨g, j, none⟩ = cur[j]? := by
 simp [World.cell?, hg]
theorem frozen_of_heap {w : World} {g j : Nat} {cur : List Value} {e : TypeId} (hg : w.heap[g]? = some (.cells cur.toArray e (0, 0))) : w.frozen? ⟨g, j, none⟩ = false := by
 simp [World.frozen?, hg]
end Go.Proofs.YtmgbaefgcdglpaaGreatDoor.Dir
/- '==' at keys and at devices: equality. -/
namespace Go.Proofs.YtmgbaefgcdglpaaGreatDoor.Dir
open Go Go.RowKit Go.Proofs
theorem eqItems_bytes {P : Program} (hu : P.underlying 5 = some (.int .u8)) (hA : ∀ w, (isAgg 5).run P w = .ok false w) (d : Nat) (a b : List UInt8) (w : World) : ∀ is : List Nat, (∀ i ∈ is, i < a.length ∧ i < b.length) →
 (Op.eqItems (d + 1) 5 1 (a.map byteV).toArray (b.map byteV).toArray is).run P w = .ok (decide (∀ i ∈ is, a[i]? = b[i]?)) w
 | [], _ => by simp [Op.eqItems]
 | i :: is, h => by
 obtain ⟨h1, h2⟩ := h i (List.mem_cons_self ..)
 have hp : ∀ (l : List UInt8) (hl : i < l.length), (part 5 (l.map byteV).toArray (i * 1)).run P w = .ok (byteV l[i]) w := fun l hl => by
  simp [part, hA, hl]
 have he : (Op.equalIn (d + 1) 5 (byteV a[i]) (byteV b[i])).run P w = .ok (decide (a[i] = b[i])) w := by
  unfold byteV
  rw [run_equalIn_int w d 5 .u8 .u8 _ _ hu]
  congr 1
  rw [Bool.eq_iff_iff]
  simp only [beq_iff_eq, decide_eq_true_eq]
  exact ⟨fun e => UInt8.toNat_inj.1 (by omega), fun e => by rw [e]⟩
 simp only [Op.eqItems, Sem.run_bind, hp a h1, hp b h2, he, Result.andThen_ok]
 by_cases e : a[i] = b[i]
 ·have := eqItems_bytes hu hA d a b w is (fun j hj => h j (List.mem_cons_of_mem _ hj))
  simp only [e, decide_true, Bool.not_true, Bool.false_eq_true, if_false, this]
  congr 2
  simp [List.getElem?_eq_getElem h1, List.getElem?_eq_getElem h2, e]
 ·simp only [e, decide_false, Bool.not_false, if_true]
  simp only [Sem.run_pure]
  congr 1
  symm
  refine decide_eq_false fun hc => e ?_
  have := hc i (List.mem_cons_self ..)
  rw [List.getElem?_eq_getElem h1, List.getElem?_eq_getElem h2] at this
  exact Option.some.inj this
theorem equalIn_key (d : Nat) (a b : Key) (w : World) : (Op.equalIn (d + 2) 28 (.agg (encK a).toArray) (.agg (encK b).toArray)).run Tryz.prog w = .ok (decide (a = b)) w := by
 have hs : (Tryz.prog.info? 5).isSome = true := by kernel_rfl
 obtain ⟨i0, hi0⟩ := Option.isSome_iff_exists.1 hs
 rw [run_equalIn_array w (d + 1) _ _ Tryz.underlying28 hi0, show Tryz.prog.cellsOf 5 = 1 from by kernel_rfl]
 rw [show encK a = a.1.map byteV from rfl, show encK b = b.1.map byteV from rfl, eqItems_bytes Tryz.underlying5 Tryz.isAgg5 d a.1 b.1 w _ (fun i hi => by rw [a.2, b.2]; simpa using hi)]
 refine congrArg (fun q => Result.ok q w) ?_
 rw [Bool.eq_iff_iff]
 simp only [decide_eq_true_eq, List.mem_range]
 refine ⟨fun h => Subtype.ext (List.ext_getElem? fun i => ?_), fun h i _ => by rw [h]⟩
 by_cases hi : i < 32
 ·exact h i hi
 ·rw [List.getElem?_eq_none (by rw [a.2]; omega), List.getElem?_eq_none (by rw [b.2]; omega)]
theorem eqlK (a b : Key) (w : World) : (binOp .eql 28 (.agg (encK a).toArray) (.agg (encK b).toArray)).run Tryz.prog w = .ok (.bool (decide (a = b))) w := by
 rw [run_eql_struct, show (10000 : Nat) = 9998 + 2 from rfl, equalIn_key]
 rfl
theorem neqK (a b : Key) (w : World) : (binOp .neq 28 (.agg (encK a).toArray) (.agg (encK b).toArray)).run Tryz.prog w = .ok (.bool (!decide (a = b))) w := by
 rw [run_neq_struct, show (10000 : Nat) = 9998 + 2 from rfl, equalIn_key]
 rfl
theorem eqlAtK : EqlAt Tryz.prog 28 (fun k : Key => .agg (encK k).toArray) (fun a b => decide (a = b)) := ⟨fun x y w => eqlK x y w, GuardAt.agg _ (by kernel_rfl)⟩
theorem guardK (op : BinOp) (a b : Operand) (x y : Key) (w : World) : (eqGuard op 28 a b (.agg (encK x).toArray) (.agg (encK y).toArray)).run Tryz.prog w = .ok () w := eqlAtK.2 op a b x y w
end Go.Proofs.YtmgbaefgcdglpaaGreatDoor.Dir
/- Loads and stores of values of many cells, as one step of a walk: no program's text in sight. -/
set_option linter.unusedVariables false
set_option linter.unusedSimpArgs false
namespace Go.Proofs.YtmgbaefgcdglpaaGreatDoor.Dir
open Go Go.RowKit Go.Proofs.YtmgbaefgcdglpaaGreatDoorW.PrintWords Go.Proofs.YtmgbaefgcdglpaaGreatDoorW.PrintLast Go.Proofs.YtmgbaefgcdglpaaGreatDoorW.PrintMore
variable {P : Program} {w : World}
theorem add_at (b o j : Nat) : (⟨b, o, none⟩ : Addr).add j = ⟨b, o + j, none⟩ := by unfold Addr.add; split <;> simp_all
theorem run_loadAtK (P : Program) (w : World) (t : TypeId) (k : Nat) (hA : ∀ w, (isAgg t).run P w = .ok true w) (hz : ∀ w, (Go.sizeOf t).run P w = .ok k w) (b o : Nat) (cs : List Value) (hk : cs.length = k)
 (h : ∀ j v, cs[j]? = some v → w.cell? ⟨b, o + j, none⟩ = some v) : (Instr.loadAt t (.pointer (some ⟨b, o, none⟩))).run P w = .ok (.agg cs.toArray) w := by
 have := run_loadCells_list (P := P) (w := w) ⟨b, o, none⟩ cs (fun j v hj => by rw [add_at]; exact h j v hj)
 rw [hk] at this
 simp only [Instr.loadAt, Instr.sureAddr, loadVar, Sem.run_bind, Sem.run_pure, Result.andThen_ok, hA, hz, if_true, this]
theorem execOp_load (t : TypeId) (x : Operand) (o : Oper) (ho : o.op = .load t x) (a : Act) : (execOp a.eval o).run P w = ((Instr.loadAt t (a.eval x)).run P w).andThen fun v w' => .ok (.value v) w' := by
 unfold execOp
 simp only [ho, Sem.run_bind, Sem.run_pure]
theorem execOp_store (t : TypeId) (x v : Operand) (o : Oper) (ho : o.op = .store t x v) (a : Act) : (execOp a.eval o).run P w = ((Instr.storeAt t (a.eval x) (a.eval v)).run P w).andThen fun _ w' => .ok .skip w' := by
 unfold execOp
 simp only [ho, Sem.run_bind, Sem.run_pure]
theorem wp_loadK {o : Oper} {a : Act} {K : Act → World → Prop} {Q : Exit → Act → World → Prop} (t : TypeId) (x : Operand) (ho : o.op = .load t x) (p : Value) (hx : a.eval x = p) (v : Value)
 (hr : (Instr.loadAt t p).run P w = .ok v w) (h : K (a.put o.dst v) w) : o.wp P a w K Q := by
 unfold Oper.wp
 rw [execOp_load t x o ho, hx, hr]
 exact h
theorem wpList_loadK {ops : Array Oper} {rest : List Oper} {o : Oper} {a : Act} {Q : Exit → Act → World → Prop} (hgd : o.guard = none) (t : TypeId) (x : Operand) (ho : o.op = .load t x) (p : Value) (hx : a.eval x = p) (v : Value)
 (hr : (Instr.loadAt t p).run P w = .ok v w) (h : wpList P ops Q rest (a.put o.dst v) w) : wpList P ops Q (o :: rest) a w :=
 wpList_plain hgd fun K hK => wp_loadK t x ho p hx v hr (hK _ _ h)
theorem wpList_loadW {ops : Array Oper} {rest : List Oper} {o : Oper} {a : Act} {Q : Exit → Act → World → Prop} (hw : Region.wanted o (yielded ops a.tmps) = true) (t : TypeId) (x : Operand) (ho : o.op = .load t x) (p : Value) (hx : a.eval x = p) (v : Value)
 (hr : (Instr.loadAt t p).run P w = .ok v w) (h : wpList P ops Q rest (a.put o.dst v) w) : wpList P ops Q (o :: rest) a w := by
 exact wpList_step fun K hK => by rw [if_pos hw]; exact wp_loadK t x ho p hx v hr (hK _ _ h)
theorem run_storeAtK (P : Program) (w : World) (t : TypeId) (k : Nat) (hz : ∀ w, (Go.sizeOf t).run P w = .ok k w) (g off : Nat) (cs : List Value) (hk : cs.length = k) (h1 : ∀ v ∈ cs, v.oneCell' = true)
 (cur : List Value) (T : TypeId) (hg : w.heap[g]? = some (.cells cur.toArray T (0, 0))) (hfit : off + k ≤ cur.length) :
 (Instr.storeAt t (.pointer (some ⟨g, off, none⟩)) (.agg cs.toArray)).run P w = .ok () (w.setRow g (splice cur off cs).toArray) := by
 have hst := run_storeCells_at P g off T cs 0 cur.toArray w hg (by simp; omega) h1
 simp only [Instr.storeAt, Instr.sureAddr, storeVar, Sem.run_bind, Sem.run_pure, Result.andThen_ok, hz, Value.cells, List.size_toArray, hk]
 simp only [ne_eq, not_true_eq_false, if_false, Sem.run_pure, Result.andThen_ok]
 simpa [splice] using hst
theorem wp_storeK {o : Oper} {a : Act} {K : Act → World → Prop} {Q : Exit → Act → World → Prop} (t : TypeId) (x y : Operand) (ho : o.op = .store t x y) (hd : o.dst = none) (p v : Value) (hx : a.eval x = p) (hy : a.eval y = v) (w' : World)
 (hr : (Instr.storeAt t p v).run P w = .ok () w') (h : K a w') : o.wp P a w K Q := by
 unfold Oper.wp
 rw [execOp_store t x y o ho, hx, hy, hr]
 show K (a.put o.dst undef) w'
 rw [hd]
 exact h
theorem wpList_storeK {ops : Array Oper} {rest : List Oper} {o : Oper} {a : Act} {Q : Exit → Act → World → Prop} (hgd : o.guard = none) (t : TypeId) (x y : Operand) (ho : o.op = .store t x y) (hd : o.dst = none) (p v : Value) (hx : a.eval x = p) (hy : a.eval y = v) (w' : World)
 (hr : (Instr.storeAt t p v).run P w = .ok () w') (h : wpList P ops Q rest a w') : wpList P ops Q (o :: rest) a w :=
 wpList_plain hgd fun K hK => wp_storeK t x y ho hd p v hx hy w' hr (hK _ _ h)
theorem run_storeNew (P : Program) (w : World) (t : TypeId) (k : Nat) (hi : (P.info? t).map (·.size) = some k) (c c' : Array Value) (hc : c.size = k) (hc' : c'.size = k) (h1 : ∀ v ∈ c'.toList, v.oneCell' = true) :
 (Instr.storeAt t (.pointer (some ⟨w.heap.size, 0, none⟩)) (.agg c')).run P (w.alloc (.cells c t)) = .ok () (w.alloc (.cells c' t)) :=
 run_storeAt_new w t c c' (by rw [hi, hc']) (by rw [hc, hc']) (by rw [Array.all_eq_true_iff_forall_mem]; intro v hv; exact h1 v (by simpa using hv))
theorem cells_of_heap {b : Nat} {cs : List Value} {T : TypeId} {fr : Nat × Nat} (h : w.heap[b]? = some (.cells cs.toArray T fr)) : ∀ j v, cs[j]? = some v → w.cell? ⟨b, 0 + j, none⟩ = some v := fun j v hj => by
 rw [Nat.zero_add, cell_of_heap h]; exact hj
theorem yields_load (t : TypeId) (x : Operand) (o : Oper) (ho : o.op = .load t x) (a : Act) (p : Value) (hx : a.eval x = p) (v : Value) (hr : (Instr.loadAt t p).run P w = .ok v w) : (execOp a.eval o).run P w = .ok (.value v) w := by
 rw [execOp_load t x o ho, hx, hr]
 rfl
theorem runs_store (t : TypeId) (x y : Operand) (o : Oper) (ho : o.op = .store t x y) (a : Act) (p v : Value) (hx : a.eval x = p) (hy : a.eval y = v) (w' : World) (hr : (Instr.storeAt t p v).run P w = .ok () w') : (execOp a.eval o).run P w = .ok .skip w' := by
 rw [execOp_store t x y o ho, hx, hy, hr]
 rfl
theorem goesv_ {ops : Array Oper} {oi : Oper} {N : Option Tmp} {a : Act} {w : World} {K : Act → World → Prop} {Q : Exit → Act → World → Prop} {f : FuncId} {fn : Func} {oas : Array Operand} {ts : Array TypeId} {cx : Operand} (hf : P.funcs[f]? = some fn) (hname : (fn.name == "runtime.NumGoroutine") = false) (hb : fn.body.isSome = true) (args : Array Value)
 (hw : Region.wanted oi (yielded ops a.tmps) = true) (hN : oi.dst = N) (hop : oi.op = .call { callee := .value cx, args := oas, argTypes := ts }) (hcx : a.eval cx = .func (.func f) #[] #[]) (hargs : oas.map a.eval = args)
 (h : Calls P f args w fun e w' => ∃ v, e = .returned v ∧ K (a.put N v) w') : if Region.wanted oi (yielded ops a.tmps) = true then Oper.wp P oi a w K Q else K (a.put N undef) w := by
 refine call_ f args hw hN ?_ h
 have he := enters_ hf hname hb args w
 unfold execOp
 simp [hop, hcx, resolve, Deferred.ofValue, invoke, hargs, he]
end Go.Proofs.YtmgbaefgcdglpaaGreatDoor.Dir
end
section
namespace Go.Proofs.YtmgbaefgcdglpaaGreatDoor.Dir
open Go Go.RowKit Go.Proofs Go.Proofs.YtmgbaefgcdglpaaGreatDoorW.PrintWords Go.Proofs.YtmgbaefgcdglpaaGreatDoorW.PrintLast Go.Proofs.YtmgbaefgcdglpaaGreatDoorW.PrintMore
set_option linter.unusedVariables false
set_option linter.unusedSimpArgs false
theorem number_any (n : Int) (w : World) : Calls Tryz.prog 75 #[.int .i64 n] w fun e w' => e = .returned (.bool (number n)) ∧ w' = w := by
 have hn : (decide (0 ≤ n) && decide (n ≤ 9007199254740991)) = number n := by unfold number maxN; rw [Bool.decide_and]
 go_enter Tryz.func75, Tryz.ntmps75
 go_wp2
 all_goals (go_ret; refine ⟨?_, rfl⟩; rw [← hn]; first | (simp; omega) | (simp_all; done) | (simp_all; omega))
theorem run_bytesX {P : Program} (w : World) : ∀ (xs : List UInt8) (a : Addr) (acc : ByteArray), (∀ j x, xs[j]? = some x → w.cell? (a.add j) = some (byteV x)) →
 (Extern.Bytes.loadBytes a xs.length acc).run P w = .ok ⟨acc.data ++ xs.toArray⟩ w
 | [], a, acc, _ => by simp [Extern.Bytes.loadBytes]
 | x :: l, a, acc, h => by
 have h0 : w.cell? a = some (.int .u8 (x.toNat : Int)) := by
  have := h 0 x rfl
  simpa [Addr.add, byteV] using this
 have ih := run_bytesX (P := P) w l (a.add 1) (acc.push ((x.toNat : Int)).toNat.toUInt8) (fun j y hy => by
  have := h (j + 1) y (by simpa using hy)
  have e : (a.add 1).add j = a.add (j + 1) := by
  unfold Addr.add
  by_cases hj : j = 0
  ·subst hj; simp
  ·simp [hj]; omega
  rw [e]; exact this)
 simp only [List.length_cons, Extern.Bytes.loadBytes, Sem.run_bind, run_load, h0, Result.andThen]
 rw [ih]
 refine congrArg (fun q => Result.ok q w) ?_
 apply ByteArray.ext
 simp [ByteArray.push]
theorem run_bytesK {P : Program} (w : World) (b : Nat) (k : Key) (T : TypeId) (h : w.heap[b]? = some (.cells (encK k).toArray T (0, 0))) (c : Nat) :
 (Extern.Bytes.bytesOf (.slice (some ⟨b, 0, none⟩) 32 c)).run P w = .ok ⟨k.1.toArray⟩ w := by
 have := run_bytesX (P := P) w k.1 ⟨b, 0, none⟩ .empty (fun j x hj => by
 rw [add_at, Nat.zero_add, cell_of_heap h]
 show (k.1.map byteV)[j]? = _
 rw [List.getElem?_map, hj]; rfl)
 rw [k.2] at this
 simp only [Extern.Bytes.bytesOf, this]
 refine congrArg (fun q => Result.ok q w) ?_
 apply ByteArray.ext
 show (#[] : Array UInt8) ++ _ = _
 simp
theorem run_cmpK {P : Program} (w : World) (p q : Nat) (a b : Key) (T : TypeId) (h1 : w.heap[p]? = some (.cells (encK a).toArray T (0, 0))) (h2 : w.heap[q]? = some (.cells (encK b).toArray T (0, 0))) (c1 c2 : Nat) :
 (Extern.BytealgCompare.compare #[.slice (some ⟨p, 0, none⟩) 32 c1, .slice (some ⟨q, 0, none⟩) 32 c2]).run P w = .ok (.int .i64 (cmpK a b)) w := by
 change Sem.run P (do pure (goInt (Extern.BytealgCompare.cmp (← Extern.Bytes.bytesOf (.slice (some ⟨p, 0, none⟩) 32 c1)) (← Extern.Bytes.bytesOf (.slice (some ⟨q, 0, none⟩) 32 c2))))) w = _
 simp only [Sem.run_bind, Sem.run_pure, run_bytesK w p a T h1, run_bytesK w q b T h2, Result.andThen]
 rw [Lib.cmp_eq]
 rfl
theorem cmp87 (p q : Nat) (a b : Key) (c1 c2 : Nat) (w : World) (h1 : w.heap[p]? = some (.cells (encK a).toArray 28 (0, 0))) (h2 : w.heap[q]? = some (.cells (encK b).toArray 28 (0, 0))) :
 Calls Tryz.prog 127 #[.slice (some ⟨p, 0, none⟩) 32 c1, .slice (some ⟨q, 0, none⟩) 32 c2] w fun e w' => e = .returned (.int .i64 (cmpK a b)) ∧ w' = w := by
 have hr := run_cmpK (P := Tryz.prog) w p q a b 28 h1 h2 c1 c2
 have hc : ∀ w0 : World, w0 = w → (callFunc 178 #[.slice (some ⟨p, 0, none⟩) 32 c1, .slice (some ⟨q, 0, none⟩) 32 c2]).run Tryz.prog w0 = .ok (.value (.int .i64 (cmpK a b))) w := by
 rintro w0 rfl
 rw [run_callFunc_extern Tryz.func178 (by kernel_rfl) (by kernel_rfl) (by kernel_rfl) (e := Extern.BytealgCompare.compare) (by kernel_rfl), hr]
 rfl
 have hc := hc w rfl
 go_enter Tryz.func127, Tryz.ntmps127
 go_wp2
 go_ret
 exact ⟨rfl, rfl⟩
theorem compare_any (a b : Key) (W : World) : Calls Tryz.prog 78 #[.agg (encK a).toArray, .agg (encK b).toArray] W fun e w' => e = .returned (.int .i64 (cmpK a b)) ∧ ∃ n, w' = ((W.alloc (.cells (encK a).toArray 28)).alloc (.cells (encK b).toArray 28)).drewN n := by
 obtain ⟨A, hA⟩ : ∃ A, A = (encK a).toArray := ⟨_, rfl⟩
 obtain ⟨B, hB⟩ : ∃ B, B = (encK b).toArray := ⟨_, rfl⟩
 obtain ⟨W2, hW⟩ : ∃ W2, W2 = ((W.alloc (.cells A 28)).alloc (.cells B 28)) := ⟨_, rfl⟩
 have h1 : ∀ n, (W2.drewN n).heap[W.heap.size]? = some (.cells (encK a).toArray 28 (0, 0)) := fun n => by
 show W2.heap[_]? = _
 rw [hW, hA, Below.heap_alloc _ _ _ (by simp)]; exact heap_alloc_new W _
 have h2 : ∀ n, (W2.drewN n).heap[W.heap.size + 1]? = some (.cells (encK b).toArray 28 (0, 0)) := fun n => by
 show W2.heap[_]? = _
 rw [hW, hB]
 have := heap_alloc_new (W.alloc (.cells A 28)) (.cells (encK b).toArray 28)
 simpa using this
 have hcall : ∀ n, Calls Tryz.prog 127 #[.slice (some ⟨W.heap.size, 0, none⟩) 32 32, .slice (some ⟨W.heap.size + 1, 0, none⟩) 32 32] (W2.drewN n) fun e w' => e = .returned (.int .i64 (cmpK a b)) ∧ w' = W2.drewN n :=
 fun n => cmp87 _ _ a b 32 32 _ (h1 n) (h2 n)
 have HC := Aside0.mk hcall
 clear h1 h2 hcall
 rw [← hA, ← hB, ← hW]
 generalize cmpK a b = r at HC ⊢
 clear hA hB
 go_enter Tryz.func78, Tryz.ntmps78
 go_wp2
 rw [← hW]
 clear hW
 go_quiet (first | (go_at_call 127; exact Calls.quiet_of_same (HC.out _)))
 go_wp2
 go_ret
 exact ⟨rfl, nq, rfl⟩
theorem keyOfD (d : Dev) (j : Nat) (v : Value) (h : (encK d.key)[j]? = some v) : (encD d)[1 + j]? = some v := by
 have hj : j < 32 := by have := (List.getElem?_eq_some_iff.1 h).1; rw [encK_len] at this; exact this
 show (Value.int .i64 d.node :: (encK d.key ++ _))[1 + j]? = _
 rw [Nat.add_comm, List.getElem?_cons_succ, List.getElem?_append_left (by rw [encK_len]; exact hj), h]
theorem expOfD (d : Dev) : (encD d)[33]? = some (.int .i64 d.exp) := by
 show (Value.int .i64 d.node :: (encK d.key ++ _))[32 + 1]? = _
 rw [List.getElem?_cons_succ, List.getElem?_append_right (by rw [encK_len]; omega), encK_len]
 rfl
theorem revOfD (d : Dev) : (encD d)[34]? = some (.bool d.rev) := by
 show (Value.int .i64 d.node :: (encK d.key ++ _))[33 + 1]? = _
 rw [List.getElem?_cons_succ, List.getElem?_append_right (by rw [encK_len]; omega), encK_len]
 rfl
set_option maxRecDepth 100000 in
theorem same_any (d : Dev) (k : Key) (c : Nat) (W : World) (hc : W.heap[c]? = some (.cells (encK k).toArray 28 (0, 0))) :
 Calls Tryz.prog 102 #[.agg (encD d).toArray, .pointer (some ⟨c, 0, none⟩)] W fun e w' => e = .returned (.bool (decide (d.key = k))) ∧ w' = W.alloc (.cells (encD d).toArray 85) := by
 have hlt : c < W.heap.size := (Array.getElem?_eq_some_iff.1 hc).1
 obtain ⟨A, hA⟩ : ∃ A, A = (encD d).toArray := ⟨_, rfl⟩
 have hW := heap_alloc_new W (.cells A 85)
 have l1 := Aside0.mk (run_loadAtK Tryz.prog (W.alloc (.cells A 85)) 28 32 Tryz.isAgg28 Tryz.sizeOf28 W.heap.size 1 (encK d.key) (encK_len _) (fun j v hj => by rw [World.cell?_alloc_new, hA]; simpa using keyOfD d j v hj))
 have l2 := Aside0.mk (run_loadAtK Tryz.prog (W.alloc (.cells A 85)) 28 32 Tryz.isAgg28 Tryz.sizeOf28 c 0 (encK k) (encK_len _) (cells_of_heap (T := 28) (fr := (0, 0)) (by rw [Below.heap_alloc _ _ _ hlt]; exact hc)))
 have he := eqlK d.key k
 have hg := fun op x y w => guardK op x y d.key k w
 rw [← hA]
 generalize (encK d.key).toArray = X at l1 he hg
 generalize (encK k).toArray = Y at l2 he hg
 generalize decide (d.key = k) = r at he ⊢
 clear hc hW hA
 go_enter Tryz.func102, Tryz.ntmps102
 go_wp2_with (first | (refine wpList_loadK rfl 28 _ rfl _ rfl _ l1.out ?_) | (refine wpList_loadK rfl 28 _ rfl _ rfl _ l2.out ?_))
 go_ret
 exact ⟨rfl, rfl⟩
end Go.Proofs.YtmgbaefgcdglpaaGreatDoor.Dir
end
