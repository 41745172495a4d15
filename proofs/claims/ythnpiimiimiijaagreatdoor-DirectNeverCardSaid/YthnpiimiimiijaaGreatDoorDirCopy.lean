/- copy at elements of k cells into a row that is known whole; append of zeros; no program's text in sight. -/
import Derived.Laws.CopyOwn
import Derived.Lib.AppendZerosOnto
import Derived.Lib.Overlaps
import Derived.Laws.AppendOwn
import Derived.Below
set_option linter.unusedVariables false
set_option linter.unusedSimpArgs false
namespace Go.Proofs.YthnpiimiimiijaaGreatDoor.Dir
open Go Go.RowKit
variable {P : Program}

theorem run_copy_rowK (w : World) (dT sT ty elem : TypeId) (g o dLen dCap : Nat) (a : Addr) (sLen sCap : Nat) (cur : Array Value) (t : TypeId) (cs : List Value) (k : Nat)
    (hu : P.underlying dT = some (.slice elem)) (hs : (P.info? elem).map (·.size) = some k)
    (hg : w.heap[g]? = some (.cells cur t (0, 0))) (hn : cs.length = Nat.min sLen dLen * k)
    (hsrc : ∀ j v, cs[j]? = some v → w.cell? (a.add j) = some v) (hfit : o + cs.length ≤ cur.size) (h1 : ∀ v ∈ cs, v.oneCell' = true) :
    (Builtin.copy_ #[dT, sT] ty #[.slice (some ⟨g, o, none⟩) dLen dCap, .slice (some a) sLen sCap]).run P w =
      .ok (goInt (Nat.min sLen dLen)) (w.setRow g (cur.toList.take o ++ cs ++ cur.toList.drop (o + cs.length)).toArray) := by
  have hl := run_loadCells_list (P := P) w a cs hsrc
  have hst := run_storeCells_at P g o t cs 0 cur w hg (by simpa using hfit) h1
  cases hq : P.info? elem with
  | none => simp [hq] at hs
  | some i =>
    have hi : i.size = k := by simpa [hq] using hs
    simp [Builtin.copy_, run_underlying hu, Builtin.lenOf, Builtin.firstCells, sizeOf, typeInfo, hq, hi, ← hn, hl, hst]

theorem grownBy_setRow (w : World) (g : Nat) (cs : Array Value) : w.grownBy (w.setRow g cs) (some g) :=
  ⟨rfl, rfl, rfl, by simp, fun k _ hk => setRow_other w g k cs (fun e => hk (by rw [e]))⟩
theorem grownBy_trans {a b c : World} {r : Option Nat} (h1 : a.grownBy b r) (h2 : b.grownBy c r) : a.grownBy c r :=
  ⟨h2.os.trans h1.os, h2.tape.trans h1.tape, h2.output.trans h1.output, Nat.le_trans h1.size h2.size, fun k hk hr => (h2.block k (Nat.lt_of_lt_of_le hk h1.size) hr).trans (h1.block k hk hr)⟩
theorem grownBy_refl (w : World) (r : Option Nat) : w.grownBy w r := ⟨rfl, rfl, rfl, Nat.le_refl _, fun _ _ _ => rfl⟩
theorem grownBy_wide {a b : World} {r : Option Nat} (h : a.grownBy b none) : a.grownBy b r := ⟨h.os, h.tape, h.output, h.size, fun k hk _ => h.block k hk (fun e => by cases e)⟩
theorem grownBy_below {a b : World} (h : Below a.heap.size a b) : a.grownBy b none := ⟨h.os, h.tape, h.output, h.size, fun k hk _ => h.block k hk⟩
theorem below_grownBy {a b : World} (h : a.grownBy b none) : Below a.heap.size a b := ⟨h.os, h.tape, h.output, h.size, fun k hk => h.block k hk (fun e => by cases e)⟩

/-- 'copy' as one operation of the walk, the row behind it known whole. -/
theorem wpList_copyK {w : World} {ops : Array Oper} {rest : List Oper} {o : Oper} {a : Act} {Q : Exit → Act → World → Prop} (hgd : o.guard = none) (d s : Operand) (dT sT : TypeId)
    (ho : o.op = .call { callee := .builtin .copy, args := #[d, s], argTypes := #[dT, sT] }) (elem : TypeId) (k : Nat) (hu : P.underlying dT = some (.slice elem)) (hsz : (P.info? elem).map (·.size) = some k)
    (g off dLen dCap : Nat) (ad : Addr) (sLen sCap : Nat) (hd : a.eval d = .slice (some ⟨g, off, none⟩) dLen dCap) (hs : a.eval s = .slice (some ad) sLen sCap)
    (cur : List Value) (t : TypeId) (hg : w.heap[g]? = some (.cells cur.toArray t (0, 0))) (cs : List Value) (hn : cs.length = Nat.min sLen dLen * k)
    (hsrc : ∀ j v, cs[j]? = some v → w.cell? (ad.add j) = some v) (hfit : off + cs.length ≤ cur.length) (h1 : ∀ v ∈ cs, v.oneCell' = true)
    (h : ∀ w', Hid (w'.heap[g]? = some (.cells (splice cur off cs).toArray t (0, 0))) → Hid (w.grownBy w' (some g)) → wpList P ops Q rest (a.put o.dst (goInt (Nat.min sLen dLen))) w') :
    wpList P ops Q (o :: rest) a w := by
  refine wpList_plain hgd fun K hK => ?_
  have hrun := run_copy_rowK (P := P) w dT sT o.type elem g off dLen dCap ad sLen sCap cur.toArray t cs k hu hsz hg hn hsrc (by simpa using hfit) h1
  unfold Oper.wp
  simp [execOp, ho, resolve, invoke, builtin, hd, hs, hrun, Result.andThen]
  exact hK _ _ (by simpa using h _ (show _ = _ by simpa [splice] using setRow_heap w g _ _ t _ hg) (grownBy_setRow w g _))
/-- The same as one step of a region that draws its order. -/
theorem step_copyK {ops : Array Oper} {o : Oper} {a : Act} {w : World} {K : Act → World → Prop} {Q : Exit → Act → World → Prop} {E : Prop} (hgd : o.guard = none) (d s : Operand) (dT sT : TypeId)
    (ho : o.op = .call { callee := .builtin .copy, args := #[d, s], argTypes := #[dT, sT] }) (elem : TypeId) (k : Nat) (hu : P.underlying dT = some (.slice elem)) (hsz : (P.info? elem).map (·.size) = some k)
    (g off dLen dCap : Nat) (ad : Addr) (sLen sCap : Nat) (hd : a.eval d = .slice (some ⟨g, off, none⟩) dLen dCap) (hs : a.eval s = .slice (some ad) sLen sCap)
    (cur : List Value) (t : TypeId) (hg : w.heap[g]? = some (.cells cur.toArray t (0, 0))) (cs : List Value) (hn : cs.length = Nat.min sLen dLen * k)
    (hsrc : ∀ j v, cs[j]? = some v → w.cell? (ad.add j) = some v) (hfit : off + cs.length ≤ cur.length) (h1 : ∀ v ∈ cs, v.oneCell' = true)
    (h : ∀ w', Hid (w'.heap[g]? = some (.cells (splice cur off cs).toArray t (0, 0))) → Hid (w.grownBy w' (some g)) → K (a.put o.dst (goInt (Nat.min sLen dLen))) w') :
    if Region.wanted o (yielded ops a.tmps) = true then Oper.wp P o a w K Q else E := by
  have hw : Region.wanted o (yielded ops a.tmps) = true := by simp [Region.wanted, hgd]
  rw [if_pos hw]
  have hrun := run_copy_rowK (P := P) w dT sT o.type elem g off dLen dCap ad sLen sCap cur.toArray t cs k hu hsz hg hn hsrc (by simpa using hfit) h1
  unfold Oper.wp
  simp [execOp, ho, resolve, invoke, builtin, hd, hs, hrun, Result.andThen]
  exact h _ (show _ = _ by simpa [splice] using setRow_heap w g _ _ t _ hg) (grownBy_setRow w g _)

/-- A slice that is owned and not nil: its block. -/
theorem owns_open {w : World} {base : Nat} {e : TypeId} {size g n cap : Nat} {xs : List Value} (h : w.ownsRow base e size (.slice (some ⟨g, 0, none⟩) n cap) n xs) :
    ∃ cur : List Value, base ≤ g ∧ w.heap[g]? = some (.cells cur.toArray e (0, 0)) ∧ n ≤ cap ∧ cap ≤ maxLen ∧ cur.length = cap * size ∧ cur.take (n * size) = xs ∧ xs.length = n * size := by
  rcases h.2 with ⟨h', _⟩ | ⟨g', cap', cur, h', hb, hg, hnc, hcm, hcs, htake⟩
  · simp at h'
  · simp only [Value.slice.injEq, Option.some.injEq, Addr.mk.injEq, and_true, true_and] at h'
    obtain ⟨rfl, rfl⟩ := h'
    exact ⟨cur.toList, hb, by simpa using hg, hnc, hcm, by simpa using hcs, htake, h.1⟩
theorem owns_shut {w : World} {base : Nat} {e : TypeId} {size g n cap : Nat} {cur xs : List Value} (hb : base ≤ g) (hg : w.heap[g]? = some (.cells cur.toArray e (0, 0))) (hn : n ≤ cap) (hc : cap ≤ maxLen) (hs : cur.length = cap * size) (ht : cur.take (n * size) = xs) :
    w.ownsRow base e size (.slice (some ⟨g, 0, none⟩) n cap) n xs :=
  ⟨by rw [← ht, List.length_take, hs]; exact Nat.min_eq_left (Nat.mul_le_mul_right _ hn), .inr ⟨g, cap, cur.toArray, rfl, hb, hg, hn, hc, by simpa using hs, by simpa using ht⟩⟩
theorem cell_of_heap {w : World} {g j : Nat} {cur : List Value} {e : TypeId} {fr : Nat × Nat} (hg : w.heap[g]? = some (.cells cur.toArray e fr)) : w.cell? ⟨g, j, none⟩ = cur[j]? := by
  simp [World.cell?, hg]
theorem frozen_of_heap {w : World} {g j : Nat} {cur : List Value} {e : TypeId} (hg : w.heap[g]? = some (.cells cur.toArray e (0, 0))) : w.frozen? ⟨g, j, none⟩ = false := by
  simp [World.frozen?, hg]
theorem shape_of_heap {w : World} {g : Nat} {cur : List Value} {e : TypeId} (hg : w.heap[g]? = some (.cells cur.toArray e (0, 0))) : w.shape? g = some (e, cur.length) := by
  simp [World.shape?, hg]

/-- The row behind slices.Insert in place. -/
theorem insert_place (cur xs vs : List Value) (i n k cap : Nat) (hi : i ≤ n) (hn : n + 1 ≤ cap) (hc : cur.length = cap * k) (ht : cur.take (n * k) = xs) (hv : vs.length = k) :
    (splice (splice cur (i * k + k) (xs.drop (i * k))) (i * k) vs).take ((n + 1) * k) = xs.take (i * k) ++ vs ++ xs.drop (i * k) ∧ (splice (splice cur (i * k + k) (xs.drop (i * k))) (i * k) vs).length = cap * k := by
  have hik : i * k ≤ n * k := Nat.mul_le_mul_right _ hi
  have hnk : n * k + k ≤ cap * k := by have := Nat.mul_le_mul_right k hn; rwa [Nat.add_mul, Nat.one_mul] at this
  have hx : xs.length = n * k := by rw [← ht, List.length_take, hc]; omega
  have hl1 : (splice cur (i * k + k) (xs.drop (i * k))).length = cap * k := by rw [length_splice _ _ _ (by rw [List.length_drop]; omega), hc]
  refine ⟨?_, by rw [length_splice _ _ _ (by omega), hl1]⟩
  have e0 : cur = xs ++ cur.drop (n * k) := by rw [← ht, List.take_append_drop]
  have e1 : splice cur (i * k + k) (xs.drop (i * k)) = cur.take (i * k + k) ++ (xs.drop (i * k) ++ cur.drop (n * k + k)) := by
    unfold splice; congr 3; rw [List.length_drop]; omega
  have e2 : splice (splice cur (i * k + k) (xs.drop (i * k))) (i * k) vs = xs.take (i * k) ++ (vs ++ (xs.drop (i * k) ++ cur.drop (n * k + k))) := by
    unfold splice at e1 ⊢
    rw [e1, hv]
    congr 1
    · rw [List.take_append_of_le_length (by rw [List.length_take]; omega), List.take_take, Nat.min_eq_left (by omega), ← ht, List.take_take, Nat.min_eq_left hik]
    · congr 1
      rw [List.drop_append]
      rw [List.drop_eq_nil_of_le (by rw [List.length_take]; omega), List.length_take, Nat.min_eq_left (by omega), Nat.sub_self, List.nil_append, List.drop_zero]
  rw [e2, ← List.append_assoc, ← List.append_assoc, List.take_append_of_le_length (by simp only [List.length_append, List.length_take, List.length_drop, hx, hv, Nat.add_mul]; omega), List.append_assoc]
  exact List.take_of_length_le (by simp only [List.length_append, List.length_take, List.length_drop, hx, hv, Nat.add_mul]; omega)
/-- .. and where a new row is made. -/
theorem insert_new (xs vs zs : List Value) (i n k G : Nat) (hi : i ≤ n) (hG : n + 1 ≤ G) (hx : xs.length = n * k) (hv : vs.length = k) (hz : zs.length = G * k - i * k) :
    (splice (splice (xs.take (i * k) ++ zs) (i * k) vs) (i * k + k) (xs.drop (i * k))).take ((n + 1) * k) = xs.take (i * k) ++ vs ++ xs.drop (i * k) ∧ (splice (splice (xs.take (i * k) ++ zs) (i * k) vs) (i * k + k) (xs.drop (i * k))).length = G * k := by
  have hik : i * k ≤ n * k := Nat.mul_le_mul_right _ hi
  have hnk : n * k + k ≤ G * k := by have := Nat.mul_le_mul_right k hG; rwa [Nat.add_mul, Nat.one_mul] at this
  have hxt : (xs.take (i * k)).length = i * k := by rw [List.length_take]; omega
  have hl0 : (xs.take (i * k) ++ zs).length = G * k := by rw [List.length_append, hxt, hz]; omega
  have hl1 : (splice (xs.take (i * k) ++ zs) (i * k) vs).length = G * k := by rw [length_splice _ _ _ (by omega), hl0]
  refine ⟨?_, by rw [length_splice _ _ _ (by rw [List.length_drop]; omega), hl1]⟩
  have e1 : splice (xs.take (i * k) ++ zs) (i * k) vs = xs.take (i * k) ++ (vs ++ zs.drop k) := by
    unfold splice
    rw [List.take_append_of_le_length (by omega), List.take_of_length_le (by omega), hv, List.drop_append, List.drop_eq_nil_of_le (by omega), hxt, List.nil_append, show i * k + k - i * k = k by omega]
  have e2 : splice (splice (xs.take (i * k) ++ zs) (i * k) vs) (i * k + k) (xs.drop (i * k)) = xs.take (i * k) ++ vs ++ (xs.drop (i * k) ++ (xs.take (i * k) ++ (vs ++ zs.drop k)).drop (i * k + k + (xs.drop (i * k)).length)) := by
    rw [e1]
    unfold splice
    congr 1
    rw [← List.append_assoc, List.take_append_of_le_length (by rw [List.length_append]; omega), List.take_of_length_le (by rw [List.length_append]; omega)]
  rw [e2, ← List.append_assoc, List.take_append_of_le_length (by simp only [List.length_append, List.length_take, List.length_drop, hx, hv, Nat.add_mul]; omega)]
  exact List.take_of_length_le (by simp only [List.length_append, List.length_take, List.length_drop, hx, hv, Nat.add_mul]; omega)
end Go.Proofs.YthnpiimiimiijaaGreatDoor.Dir
