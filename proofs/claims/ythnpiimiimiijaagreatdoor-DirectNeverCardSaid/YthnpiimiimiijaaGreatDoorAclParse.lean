/- acl.Parse: the rules of a text, for all texts. -/
import Derived.Test.YthnpiimiimiijaaGreatDoorAclRule
import Derived.Lib.SmallJoins
namespace Go.Proofs.YthnpiimiimiijaaGreatDoor.Acl
open Go.RowKit Go.Proofs Go.Proofs.YthnpiimiimiijaaGreatDoor.PA Go.Lib Go.Proofs.YthnpiimiimiijaaGreatDoorW.PrintWords Go.Proofs.YthnpiimiimiijaaGreatDoorW.PrintLast Go.Proofs.YthnpiimiimiijaaGreatDoorW.PrintMore

attribute [local go_sem] Oper.semAt_some

def isBlank (c : Nat) : Bool := c == 32
def wordsOf (s : List UInt8) : List (List UInt8) := (goFieldsP isBlank ⟨s.toArray⟩).map fun b => b.data.toList

theorem spansFromP_ok (p : Nat → Bool) (s : ByteArray) : ∀ (f pos : Nat) (st : Option Nat) (acc : List (Nat × Nat)), (∀ x ∈ acc, x.1 < x.2 ∧ x.1 < s.size) → (∀ a, st = some a → a < pos ∧ a < s.size) →
    (∀ x ∈ (spansFromP p s f pos st acc).1, x.1 < x.2 ∧ x.1 < s.size) ∧ (∀ a, (spansFromP p s f pos st acc).2 = some a → a < s.size)
  | 0, pos, st, acc, ha, hs => ⟨ha, fun a e => (hs a e).2⟩
  | f + 1, pos, st, acc, ha, hs => by
    unfold spansFromP
    have hw := width_pos s pos
    split
    · rename_i hpos
      split
      · cases st with
        | none => exact spansFromP_ok p s f _ _ _ ha (fun a e => by cases e)
        | some a =>
          refine spansFromP_ok p s f _ _ _ (fun x hx => ?_) (fun a e => by cases e)
          rcases List.mem_append.1 hx with h | h
          · exact ha x h
          · obtain rfl : x = (a, pos) := by simpa using h
            exact hs a rfl
      · cases st with
        | none => exact spansFromP_ok p s f _ _ _ ha (fun a e => by cases e; omega)
        | some a => exact spansFromP_ok p s f _ _ _ ha (fun b e => by cases e; have := hs a rfl; omega)
    · exact ⟨ha, fun a e => (hs a e).2⟩
theorem words_ok {s : List UInt8} {z : List UInt8} (hz : z ∈ wordsOf s) : z ≠ [] ∧ z.length ≤ s.length := by
  unfold wordsOf goFieldsP spansOfP at hz
  obtain ⟨b, hb, rfl⟩ := List.mem_map.1 hz
  obtain ⟨x, hx, rfl⟩ := List.mem_map.1 hb
  obtain ⟨h1, h2⟩ := spansFromP_ok isBlank ⟨s.toArray⟩ (ByteArray.size ⟨s.toArray⟩) 0 none [] (fun x h => by cases h) (fun a e => by cases e)
  have hx2 : x.1 < x.2 ∧ x.1 < (⟨s.toArray⟩ : ByteArray).size := by
    unfold closeSpans at hx
    split at hx
    · rename_i a ha
      rcases List.mem_append.1 hx with h | h
      · exact h1 x h
      · obtain rfl : x = (a, _) := by simpa using h
        exact ⟨h2 a ha, h2 a ha⟩
    · exact h1 x hx
  have hl : ((⟨s.toArray⟩ : ByteArray).extract x.1 x.2).data.toList = (s.take x.2).drop x.1 := by rw [extract_eq s x.1 x.2]
  rw [hl]
  have hs : x.1 < s.length := by simpa [ByteArray.size] using hx2.2
  refine ⟨fun e => ?_, by simp; omega⟩
  have := congrArg List.length e
  simp at this; omega

def ruleS (r : Bool × Int × Int × Int × Int) : S135 := ⟨r.1, r.2.1, r.2.2.1, r.2.2.2.1, r.2.2.2.2⟩
/-- Whether a line says nothing. -/
def skips (ws : List (List UInt8)) : Bool := ws.isEmpty || (ws.getD 0 []).getD 0 0 == 35
def linesOf : List (List UInt8) → List S135 → List S135 × Int
  | [], acc => (acc, 0)
  | l :: ls, acc => if skips (wordsOf l) = true then linesOf ls acc else
    match ruleOf (wordsOf l) with
    | none => ([], 210)
    | some r => if acc.length = 32 then ([], 5) else linesOf ls (acc ++ [ruleS r])
def parseOf (s : List UInt8) : List S135 × Int := if s.length > 1024 then ([], 5) else linesOf (splitB 10 s) []
def ParseEnd (s : List UInt8) (N : Nat) (e : Ending) (w' : World) : Prop :=
  ∃ v0_ : Value, e = .returned (.tuple #[v0_, .int .i64 (parseOf s).2]) ∧ Kd.R k135 135 w' N (fun _ => True) v0_ (parseOf s).1

theorem blank_pred (w : World) : PredGrows Tryz.prog 90 #[] isBlank w := by
  intro W x hx hb
  go_enter Tryz.func90, Tryz.ntmps90
  go_wp2
  refine bodyPost_ret (results_tmp rfl _ _ _) rfl ⟨?_, Below.refl _ _⟩
  have e : ((x : Int) == 32) = isBlank x := by
    unfold isBlank
    rw [Bool.eq_iff_iff]; simp only [beq_iff_eq]; omega
  simp [e]

/-- The rules' cells, one behind the other. -/
def flatS (l : List S135) : List Value := l.flatMap fun x => [.bool x.f0, .int .i64 x.f1, .int .i64 x.f2, .int .i64 x.f3, .int .i64 x.f4]
theorem flatS_len (l : List S135) : (flatS l).length = l.length * 5 := by
  induction l with
  | nil => rfl
  | cons a l ih => simp [flatS] at ih ⊢; omega
theorem flatS_snoc (l : List S135) (x : S135) : flatS (l ++ [x]) = flatS l ++ [.bool x.f0, .int .i64 x.f1, .int .i64 x.f2, .int .i64 x.f3, .int .i64 x.f4] := by simp [flatS]
theorem reps_flatS (R : S135 → List Value → Prop) (hR : ∀ x, R x [.bool x.f0, .int .i64 x.f1, .int .i64 x.f2, .int .i64 x.f3, .int .i64 x.f4]) (l : List S135) : Reps R 5 l (flatS l) := by
  have key : ∀ (l acc : List S135), Reps R 5 acc (flatS acc) → Reps R 5 (acc ++ l) (flatS (acc ++ l)) := by
    intro l
    induction l with
    | nil => intro acc h; simpa using h
    | cons x l ih =>
      intro acc h
      have := ih (acc ++ [x]) (by rw [flatS_snoc]; exact h.snoc (hR x) rfl)
      simpa using this
  simpa using key l [] (Reps.none _ _)
theorem own_R {W : World} {N B : Nat} {v : Value} {l : List S135} (h : W.ownsRow B 135 5 v l.length (flatS l)) (hN : N ≤ B) : Kd.R k135 135 W N (fun _ => True) v l :=
  ⟨fun _ _ => trivial, flatS l, Joins.ownsRow_le h hN, reps_flatS _ (fun x => k135_mkM _ _ _ x) l⟩
theorem own_words {W : World} {B A : Nat} {l : List ByteArray} (h : W.ownsRow B 9 1 (.slice (some ⟨A, 0, none⟩) l.length l.length) l.length (l.map Value.string)) : Words A (l.map fun b => b.data.toList) W ∧ A < W.heap.size := by
  rcases h.2 with ⟨h, _⟩ | ⟨g, cap, cur, e, hb, hh, h1, h2, h3, h4⟩
  · cases h
  · obtain ⟨rfl, rfl⟩ : A = g ∧ l.length = cap := by simpa using e
    refine ⟨fun j hj => ?_, (Array.getElem?_eq_some_iff.1 hh).1⟩
    have hj' : j < l.length := by simpa using hj
    simp only [World.cell?, hh]
    have h5 := congrArg (fun z : List Value => z[j]?) h4
    simp only [Nat.mul_one, List.getElem?_map] at h5
    rw [List.getElem?_take_of_lt hj'] at h5
    rw [Array.getElem?_toList] at h5
    simp only [List.getD_eq_getElem?_getD, List.getElem?_map]
    cases hq : l[j]? with
    | none => rw [List.getElem?_eq_none_iff] at hq; omega
    | some b => rw [hq] at h5; simpa using h5

theorem res22 {W : World} {tmps : Array Value} {N : Nat} {A : Option Addr} {n c : Nat} {r : Int} (h2 : tmps[2]? = some (.pointer (some ⟨N, 0, none⟩))) (h3 : tmps[3]? = some (.pointer (some ⟨N + 1, 0, none⟩)))
    (c1 : W.cell? ⟨N, 0, none⟩ = some (.slice A n c)) (c2 : W.cell? ⟨N + 1, 0, none⟩ = some (.int .i64 r)) : (results Tryz.f51 tmps).run Tryz.prog W = .ok (.tuple #[.slice A n c, .int .i64 r]) W := by
  simp [results, Tryz.results51, go_sem, h2, h3, c1, c2]
/-- The two results' and the rules' own blocks, and the pieces' cells, at a world behind the call's beginning. -/
structure PW (w W : World) (N : Nat) (vr : Value) (r : Int) (v : Value) : Prop where
  res : W.heap[N]? = some (.cells #[vr] 96 (0, 0))
  err : W.heap[N + 1]? = some (.cells #[.int .i64 r] 28 (0, 0))
  out : W.heap[N + 2]? = some (.cells #[v] 96 (0, 0))
  b : Below N w W
  big : N + 6 ≤ W.heap.size

theorem splitB_len (c : UInt8) : ∀ (l z : List UInt8), z ∈ splitB c l → z.length ≤ l.length
  | [], z, h => by simp [splitB] at h; simp [h]
  | a :: l, z, h => by
    have ih := splitB_len c l
    have hne := splitB_ne c l
    unfold splitB at h
    cases hq : splitB c l with
    | nil => exact absurd hq hne
    | cons q qs =>
      rw [hq] at h ih
      have h1 := ih q (by simp)
      split at h
      · rcases List.mem_cons.1 h with rfl | h
        · simp
        · have := ih z h; simp; omega
      · rcases List.mem_cons.1 h with rfl | h
        · simp; omega
        · have := ih z (by simp [show z ∈ qs by simpa using h]); simp; omega
theorem PW.facts {w W : World} {N : Nat} {vr v : Value} {r : Int} (h : PW w W N vr r v) : W.cell? ⟨N, 0, none⟩ = some vr ∧ W.cell? ⟨N + 1, 0, none⟩ = some (.int .i64 r) ∧ W.cell? ⟨N + 1 + 1, 0, none⟩ = some v ∧
    W.frozen? ⟨N, 0, none⟩ = false ∧ W.frozen? ⟨N + 1, 0, none⟩ = false ∧ W.frozen? ⟨N + 1 + 1, 0, none⟩ = false :=
  ⟨cell_of_one' h.res, cell_of_one' h.err, cell_of_one' h.out, by simp [World.frozen?, h.res], by simp [World.frozen?, h.err], by simp [World.frozen?, h.out]⟩
theorem keep_below {N : Nat} {W W1 : World} (hbig : N + 6 ≤ W.heap.size) (hb : Below W.heap.size W W1) : keep3 (N + 4) (N + 3) (N + 5) W W1 := ⟨hb.block _ (by omega), hb.block _ (by omega), hb.block _ (by omega)⟩
theorem own_below {B : Nat} {e : TypeId} {k : Nat} {v : Value} {n : Nat} {xs : List Value} {w w' : World} (h : w.ownsRow B e k v n xs) (hb : Below w.heap.size w w') : w'.ownsRow B e k v n xs :=
  h.kept (row := none) ⟨hb.os, hb.tape, hb.output, hb.size, fun j hj _ => hb.block j hj⟩ (by cases hv : v.ownBlock <;> simp)
theorem lines_skip {p : List UInt8} {ls : List (List UInt8)} {acc : List S135} (hs : skips (wordsOf p) = true) : linesOf (p :: ls) acc = linesOf ls acc := by rw [linesOf, if_pos hs]
theorem lines_bad {p : List UInt8} {ls : List (List UInt8)} {acc : List S135} (hs : skips (wordsOf p) = false) (hr : ruleOf (wordsOf p) = none) : linesOf (p :: ls) acc = ([], 210) := by rw [linesOf, if_neg (by rw [hs]; decide), hr]
theorem lines_full {p : List UInt8} {ls : List (List UInt8)} {acc : List S135} {r} (hs : skips (wordsOf p) = false) (hr : ruleOf (wordsOf p) = some r) (hl : acc.length = 32) : linesOf (p :: ls) acc = ([], 5) := by rw [linesOf, if_neg (by rw [hs]; decide), hr]; simp [hl]
theorem lines_add {p : List UInt8} {ls : List (List UInt8)} {acc : List S135} {r} (hs : skips (wordsOf p) = false) (hr : ruleOf (wordsOf p) = some r) (hl : acc.length ≠ 32) : linesOf (p :: ls) acc = linesOf ls (acc ++ [ruleS r]) := by rw [linesOf, if_neg (by rw [hs]; decide), hr]; simp [hl]
theorem toNat35 {c : UInt8} (h : c.toNat = 35) : c = 35 := UInt8.toNat_inj.1 h
theorem six (w : World) (a b c d e f : Obj) (W : World) (h : (((((w.alloc a).alloc b).alloc c).alloc d).alloc e).alloc f = W) :
    W.heap[w.heap.size]? = some a ∧ W.heap[w.heap.size + 1]? = some b ∧ W.heap[w.heap.size + 2]? = some c ∧ W.heap[w.heap.size + 3]? = some d ∧ W.heap[w.heap.size + 4]? = some e ∧ W.heap[w.heap.size + 5]? = some f := by
  subst h
  have h0 := four0 w a b c d
  have h1 := four1 w a b c d
  have h2 := four2 w a b c d
  have h3 := four3 w a b c d
  have h4 := World.alloc_heap_new ((((w.alloc a).alloc b).alloc c).alloc d) e
  have h5 := World.alloc_heap_new (((((w.alloc a).alloc b).alloc c).alloc d).alloc e) f
  simp only [World.size_alloc] at h4 h5
  have up : ∀ k o, k < w.heap.size + 4 → ((((w.alloc a).alloc b).alloc c).alloc d).heap[k]? = some o → ((((((w.alloc a).alloc b).alloc c).alloc d).alloc e).alloc f).heap[k]? = some o := fun k o hk h =>
    ((Below.heap_alloc _ _ _ (by simp; omega)).trans (Below.heap_alloc _ _ _ (by simp; omega))).trans h
  exact ⟨up _ _ (by omega) h0, up _ _ (by omega) h1, up _ _ (by omega) h2, up _ _ (by omega) h3, (Below.heap_alloc _ _ _ (by simp)).trans h4, h5⟩
theorem keepsOthers_below {W W' : World} (h : Below W.heap.size W W') : KeepsOthers W W' := ⟨h.size, fun k _ hk _ => (h.block k (Array.getElem?_eq_some_iff.1 hk).1).trans hk⟩
theorem below_step' {N : Nat} {w W W' : World} (h : Below N w W) (hb : Below W.heap.size W W') (hN : N ≤ W.heap.size := by first | assumption | omega) : Below N w W' := h.trans (hb.mono hN)
theorem PW.later {w W W' : World} {N : Nat} {vr v : Value} {r : Int} (h : PW w W N vr r v) (hb : Below W.heap.size W W') : PW w W' N vr r v :=
  have hN : N ≤ W.heap.size := Nat.le_of_lt (Array.getElem?_eq_some_iff.1 h.res).1
  ⟨(hb.block _ (Array.getElem?_eq_some_iff.1 h.res).1).trans h.res, (hb.block _ (Array.getElem?_eq_some_iff.1 h.err).1).trans h.err, (hb.block _ (Array.getElem?_eq_some_iff.1 h.out).1).trans h.out, below_step' h.b hb, Nat.le_trans h.big hb.size⟩

theorem PW.set0 {w W : World} {N : Nat} {vr v : Value} {r : Int} (h : PW w W N vr r v) (u : Value) : PW w (W.setCell ⟨N, 0, none⟩ u) N u r v :=
  ⟨heap_set_one h.res _, (Below.heap_setCell W _ _ _ (by show N + 1 ≠ N; omega)).trans h.err, (Below.heap_setCell W _ _ _ (by show N + 2 ≠ N; omega)).trans h.out, h.b.setCell (Nat.le_refl _) _, Nat.le_trans h.big (grownBy_setCell' W N u).size⟩
theorem PW.set1 {w W : World} {N : Nat} {vr v : Value} {r : Int} (h : PW w W N vr r v) (u : Int) : PW w (W.setCell ⟨N + 1, 0, none⟩ (.int .i64 u)) N vr u v :=
  ⟨(Below.heap_setCell W _ _ _ (by show N ≠ N + 1; omega)).trans h.res, heap_set_one h.err _, (Below.heap_setCell W _ _ _ (by show N + 2 ≠ N + 1; omega)).trans h.out, h.b.setCell (by show N ≤ N + 1; omega) _, Nat.le_trans h.big (grownBy_setCell' W (N + 1) _).size⟩
theorem PW.set2 {w W : World} {N : Nat} {vr v : Value} {r : Int} (h : PW w W N vr r v) (u : Value) : PW w (W.setCell ⟨N + 1 + 1, 0, none⟩ u) N vr r u :=
  ⟨(Below.heap_setCell W _ _ _ (by show N ≠ N + 1 + 1; omega)).trans h.res, (Below.heap_setCell W _ _ _ (by show N + 1 ≠ N + 1 + 1; omega)).trans h.err, heap_set_one h.out _, h.b.setCell (by show N ≤ N + 1 + 1; omega) _, Nat.le_trans h.big (grownBy_setCell' W (N + 1 + 1) _).size⟩
theorem PW.alloc {w W : World} {N : Nat} {vr v : Value} {r : Int} (h : PW w W N vr r v) (o : Obj) : PW w (W.alloc o) N vr r v := h.later ((Below.refl _ W).alloc (Nat.le_refl _) o)
theorem PW.grown {w W W' : World} {N : Nat} {vr v : Value} {r : Int} (h : PW w W N vr r v) {row : Option Nat} (hg : W.grownBy W' row) (hr : ∀ k, row = some k → N + 6 ≤ k) : PW w W' N vr r v :=
  have hb := h.big
  ⟨(hg.block _ (by omega) (fun e => by have := hr _ e.symm; omega)).trans h.res, (hg.block _ (by omega) (fun e => by have := hr _ e.symm; omega)).trans h.err, (hg.block _ (by omega) (fun e => by have := hr _ e.symm; omega)).trans h.out,
    h.b.grown hg (by omega) (fun k e => by have := hr k e; omega), Nat.le_trans h.big hg.size⟩
theorem PW.put {w W : World} {N : Nat} {vr v : Value} {r : Int} (h : PW w W N vr r v) {l : Nat} (hl : N + 6 ≤ l) (o' : Obj) : PW w (W.putObj l o') N vr r v := h.grown (grownBy_putObj' W l o') (fun k e => by cases e; omega)
theorem own_ge {W : World} {B : Nat} {e : TypeId} {k : Nat} {v : Value} {n : Nat} {xs : List Value} (h : W.ownsRow B e k v n xs) : ∀ g, v.ownBlock = some g → B ≤ g := by
  rcases h.2 with ⟨rfl, _⟩ | ⟨g, cap, cur, rfl, hb, _⟩
  · intro g e; simp [Value.ownBlock] at e
  · intro g' e; simp [Value.ownBlock] at e; omega
theorem own_cells {W : World} {B : Nat} {e : TypeId} {k : Nat} {v : Value} {n : Nat} {xs : List Value} (h : W.ownsRow B e k v n xs) (j : Nat) (o : Obj) (hj : v.ownBlock = some j) (ho : W.heap[j]? = some o) : o.isCells = true := by
  rcases h.2 with ⟨rfl, _⟩ | ⟨g, cap, cur, rfl, _, hh, _⟩
  · simp [Value.ownBlock] at hj
  · obtain rfl : g = j := by simpa [Value.ownBlock] using hj
    rw [hh] at ho; cases ho; rfl
theorem own_slice {W : World} {B : Nat} {e : TypeId} {k : Nat} {v : Value} {n : Nat} {xs : List Value} (h : W.ownsRow B e k v n xs) : ∃ A c, v = .slice A n c := by
  rcases h.2 with ⟨rfl, rfl⟩ | ⟨g, cap, cur, rfl, _⟩
  · exact ⟨_, _, rfl⟩
  · exact ⟨_, _, rfl⟩
theorem keep_set {N : Nat} {W : World} {a : Addr} (v : Value) (ha : a.block < N + 3) : keep3 (N + 4) (N + 3) (N + 5) W (W.setCell a v) :=
  ⟨Below.heap_setCell W _ _ _ (by omega), Below.heap_setCell W _ _ _ (by omega), Below.heap_setCell W _ _ _ (by omega)⟩
theorem keep_grown {N : Nat} {W W' : World} {row : Option Nat} (hbig : N + 6 ≤ W.heap.size) (hg : W.grownBy W' row) (hr : ∀ k, row = some k → N + 6 ≤ k) : keep3 (N + 4) (N + 3) (N + 5) W W' :=
  ⟨hg.block _ (by omega) (fun e => by have := hr _ e.symm; omega), hg.block _ (by omega) (fun e => by have := hr _ e.symm; omega), hg.block _ (by omega) (fun e => by have := hr _ e.symm; omega)⟩
theorem keep_trans {a b c : Nat} {A B C : World} (h : keep3 a b c A B) (k : keep3 a b c B C) : keep3 a b c A C := ⟨k.1.trans h.1, k.2.1.trans h.2.1, k.2.2.trans h.2.2⟩

set_option maxHeartbeats 4000000 in
set_option maxRecDepth 100000 in
theorem parse_in (m : Nat) (s : List UInt8) (w : World) (hx : LaidW w) :
    CallsIn Fence.wide m Tryz.prog 51 #[.string ⟨s.toArray⟩] w fun e w' => Below w.heap.size w w' ∧ ParseEnd s w.heap.size e w' := by
  have hro : Fence.wide.round = none := rfl
  have hde : Fence.wide.depth = none := rfl
  by_cases hlen : s.length > 1024
  · have hl : (s.length : Int) > 1024 := by omega
    have HL := Lib.hid hlen
    clear hlen
    refine callsIn_of_wp Tryz.func51 rfl trivial ?_ hro
    simp only [Tryz.ntmps51, List.size_toArray, List.length_cons, List.length_nil, Nat.reduceAdd, Nat.reduceSub, Array.replicate_succ, Array.replicate_zero, List.push_toArray, List.append_toArray, List.nil_append, List.cons_append]
    gi_wp2
    have c1 : ((w.alloc (.cells #[.slice none 0 0] 96)).alloc (.cells #[.int .i64 5] 28)).cell? ⟨w.heap.size, 0, none⟩ = some (.slice none 0 0) := by
      have h : ((w.alloc (.cells #[.slice none 0 0] 96)).alloc (.cells #[.int .i64 5] 28)).heap[w.heap.size]? = some (.cells #[.slice none 0 0] 96 (0, 0)) := (Below.heap_alloc _ _ _ (by simp)).trans (World.alloc_heap_new w _)
      exact cell_of_one' h
    have c2 : ((w.alloc (.cells #[.slice none 0 0] 96)).alloc (.cells #[.int .i64 5] 28)).cell? ⟨w.heap.size + 1, 0, none⟩ = some (.int .i64 5) := by
      have h := World.alloc_heap_new (w.alloc (.cells #[.slice none 0 0] 96)) (.cells #[.int .i64 5] 28)
      rw [World.size_alloc] at h
      exact cell_of_one' h
    refine ⟨rfl, _, res22 rfl rfl c1 c2, ((Below.refl _ w).alloc (Nat.le_refl _) _).alloc (by simp) _, ?_⟩
    have e : parseOf s = ([], 5) := by unfold parseOf; rw [if_pos HL.out]
    unfold ParseEnd; rw [e]
    exact ⟨_, rfl, Kd.R_nil _ _ _ _ _⟩
  · have HL := Lib.hid hlen
    have hl : ¬ (1024 : Int) < (s.length : Int) := by omega
    clear hlen
    have HX := Lib.hid hx
    clear hx
    refine callsIn_of_wp_marks Tryz.func51 rfl trivial ?_ hro
    simp only [Tryz.ntmps51, List.size_toArray, List.length_cons, List.length_nil, Nat.reduceAdd, Nat.reduceSub, Array.replicate_succ, Array.replicate_zero, List.push_toArray, List.append_toArray, List.nil_append, List.cons_append]
    gi_wp2_with fail
    refine ⟨trivial, (seq_in hro hde trivial trivial _ _ _).mono ?_⟩
    rintro e w' ⟨rfl, rfl⟩
    gi_wp2_with fail
    obtain ⟨W0, hW0⟩ : ∃ W0, (((((w.alloc (.cells #[.slice none 0 0] 96)).alloc (.cells #[.int .i64 0] 28)).alloc (.cells #[.slice none 0 0] 96)).alloc (.cells #[.string ⟨s.toArray⟩] 9)).alloc (.cells #[.string ⟨#[10]⟩] 9)).alloc (.cells #[.int .i64 0] 3) = W0 := ⟨_, rfl⟩
    rw [hW0]
    have hs0 : W0.heap.size = w.heap.size + 6 := by rw [← hW0]; simp
    have hbel : Below w.heap.size w W0 := by
      rw [← hW0]; exact ((((((Below.refl _ w).alloc (Nat.le_refl _) _).alloc (by simp) _).alloc (by simp; omega) _).alloc (by simp; omega) _).alloc (by simp; omega) _).alloc (by simp; omega) _
    obtain ⟨q0, q1, q2, q3, q4, q5⟩ : W0.heap[w.heap.size]? = some (.cells #[.slice none 0 0] 96 (0, 0)) ∧ W0.heap[w.heap.size + 1]? = some (.cells #[.int .i64 0] 28 (0, 0)) ∧ W0.heap[w.heap.size + 2]? = some (.cells #[.slice none 0 0] 96 (0, 0)) ∧
        W0.heap[w.heap.size + 3]? = some (.cells #[.string ⟨s.toArray⟩] 9 (0, 0)) ∧ W0.heap[w.heap.size + 4]? = some (.cells #[.string ⟨#[10]⟩] 9 (0, 0)) ∧ W0.heap[w.heap.size + 5]? = some (.cells #[.int .i64 0] 3 (0, 0)) := by
      exact six _ _ _ _ _ _ _ _ hW0
    clear hW0
    have hsz : s.length ≤ 1024 := Nat.le_of_not_lt HL.out
    refine range_known (F := Fence.wide) (P := Tryz.prog) hro hde (gf := 158) rfl trivial (enters_of Tryz.func158 (by kernel_rfl) rfl)
      (iter59 hro hde trivial trivial (fun m r c w => index_in hro hde trivial trivial trivial trivial r c w) (m - 1) (w.heap.size + 4) (w.heap.size + 3) (w.heap.size + 5) (by omega) (by omega) 10 s (by omega) W0 q4 q3 q5)
      (fun A B C h k => ⟨k.1.trans h.1, k.2.1.trans h.2.1, k.2.2.trans h.2.2⟩)
      (fun A o hA => ⟨Below.heap_alloc _ _ _ (by omega), Below.heap_alloc _ _ _ (by omega), Below.heap_alloc _ _ _ (by omega)⟩)
      (fun W l o o' hl _ _ => ⟨World.putObj_heap_other (by omega), World.putObj_heap_other (by omega), World.putObj_heap_other (by omega)⟩)
      (fun W W' k o ⟨v, e⟩ hk h ho => by rw [e]; exact (Below.heap_setCell W _ _ _ (by show k ≠ w.heap.size + 3; omega)).trans h)
      (by simp)
      (fun i W => ∃ v acc, PW w W w.heap.size (.slice none 0 0) 0 v ∧ W.ownsRow (w.heap.size + 6) 135 5 v acc.length (flatS acc) ∧ acc.length ≤ 32 ∧ Hid (linesOf ((splitB 10 s).drop i) acc = linesOf (splitB 10 s) []))
      (fun c W => c = .ret ∧ ∃ v r, PW w W w.heap.size (.slice none 0 0) r v ∧ Hid (linesOf (splitB 10 s) [] = ([], r))) (fun ch W => False) (fun ⟨_, _, h⟩ => h.elim)
      ?turns ?turnsx ?aside ?start
      (fun i => { tmps := #[.string ⟨s.toArray⟩, undef, .pointer (some ⟨w.heap.size, 0, none⟩), .pointer (some ⟨w.heap.size + 1, 0, none⟩), .pointer (some ⟨w.heap.size + 1 + 1, 0, none⟩), .string ⟨((splitB 10 s).getD i []).toArray⟩, undef, undef, undef, .string ⟨s.toArray⟩, .int .i64 s.length, .bool false, .string ⟨s.toArray⟩, .func (.func 158) #[] #[.pointer (some ⟨w.heap.size + 1 + 1 + 1 + 1, 0, none⟩), .pointer (some ⟨w.heap.size + 1 + 1 + 1, 0, none⟩), .pointer (some ⟨w.heap.size + 1 + 1 + 1 + 2, 0, none⟩)], .string ⟨((splitB 10 s).getD i []).toArray⟩, undef, undef, undef, undef, undef, undef, undef, undef, undef, undef, undef, undef, undef, undef, undef, undef, undef, undef, undef, undef, undef, undef, undef, undef, undef, undef, undef, undef, undef], defers := [] })
      ?assign ?body ?done ?stop (fun D c W _ h => h.elim)
    case turns =>
      rintro i W l o o' ⟨v, acc, hp, hr, hl, hh⟩ hlb hlo hno
      exact ⟨v, acc, ⟨(World.putObj_heap_other (by omega)).trans hp.res, (World.putObj_heap_other (by omega)).trans hp.err, (World.putObj_heap_other (by omega)).trans hp.out, hp.b.grown (grownBy_putObj' W l o') (Nat.le_of_lt (Array.getElem?_eq_some_iff.1 hp.res).1) (fun k e => by cases e; omega), Nat.le_trans hp.big (grownBy_putObj' W l o').size⟩, ownsRow_putObj hr o' hlo hno, hl, hh⟩
    case turnsx =>
      rintro c W l o o' ⟨rfl, v, r, hp, hh⟩ hlb hlo hno
      exact ⟨rfl, v, r, ⟨(World.putObj_heap_other (by omega)).trans hp.res, (World.putObj_heap_other (by omega)).trans hp.err, (World.putObj_heap_other (by omega)).trans hp.out, hp.b.grown (grownBy_putObj' W l o') (Nat.le_of_lt (Array.getElem?_eq_some_iff.1 hp.res).1) (fun k e => by cases e; omega), Nat.le_trans hp.big (grownBy_putObj' W l o').size⟩, hh⟩
    case aside =>
      rintro i W W' ⟨v, acc, hp, hr, hl, hh⟩ ⟨u, rfl⟩
      exact ⟨v, acc, ⟨(Below.heap_setCell W _ _ _ (by show w.heap.size ≠ w.heap.size + 3; omega)).trans hp.res, (Below.heap_setCell W _ _ _ (by show w.heap.size + 1 ≠ w.heap.size + 3; omega)).trans hp.err, (Below.heap_setCell W _ _ _ (by show w.heap.size + 2 ≠ w.heap.size + 3; omega)).trans hp.out, hp.b.setCell (by show w.heap.size ≤ w.heap.size + 3; omega) _, Nat.le_trans hp.big (grownBy_setCell' W (w.heap.size + 3) u).size⟩, ownsRow_setCell_below hr (by show w.heap.size + 3 < w.heap.size + 6; omega) u, hl, hh⟩
    case start =>
      intro o o'
      have hb : Below W0.heap.size W0 ((W0.alloc o).alloc o') := ((Below.refl _ W0).alloc (Nat.le_refl _) _).alloc (by simp) _
      exact ⟨_, [], PW.later ⟨q0, q1, q2, hbel, by omega⟩ hb, World.ownsRow_nil _ _ _ _, by simp, Lib.hid (by simp)⟩
    case assign =>
      intro l i x W K hix hK
      have hx : x = #[.string ⟨((splitB 10 s).getD i []).toArray⟩] := by
        rw [List.getElem?_map] at hix
        cases hq : (splitB 10 s)[i]? with
        | none => rw [hq] at hix; cases hix
        | some q => rw [hq] at hix; rw [List.getD_eq_getElem?_getD, hq]; exact (Option.some.inj hix).symm
      rw [hx]
      gi_wp2
      exact hK
    case body =>
      rintro l i W hi ⟨v, acc, hp, hr, hl, hh⟩
      obtain ⟨Av, cv, rfl⟩ := own_slice hr
      have hi' : i < (splitB 10 s).length := by simpa using hi
      obtain ⟨p, hpp⟩ : ∃ p, p = (splitB 10 s).getD i [] := ⟨_, rfl⟩
      rw [← hpp]
      have hdr : (splitB 10 s).drop i = p :: (splitB 10 s).drop (i + 1) := by
        rw [List.drop_eq_getElem_cons hi', hpp, List.getD_eq_getElem?_getD, List.getElem?_eq_getElem hi']; rfl
      have HDR := Lib.hid hdr
      have hpl : p.length ≤ 1024 := by
        have := splitB_len 10 s p (by rw [hpp, List.getD_eq_getElem?_getD, List.getElem?_eq_getElem hi']; exact List.getElem_mem hi')
        omega
      clear hdr hpp hi hi'
      have hNW : w.heap.size + 2 < W.heap.size := (Array.getElem?_eq_some_iff.1 hp.out).1
      have HP := Lib.hid hp; have HRW := Lib.hid hr
      have HX1 := Lib.hid (HX.out.below hp.b)
      clear hp hr q0 q1 q2 q3 q4 q5
      gi_wp2_with fail
      refine ⟨trivial, CallsIn.inRound l (callsIn_wide.2 ((Tryz.strings_FieldsFunc_grows 90 #[] (enters_of Tryz.func90 (by kernel_rfl) rfl) isBlank ⟨p.toArray⟩ W (by simp [ByteArray.size]; omega) (blank_pred W)).mono ?_))⟩
      rintro e W1 ⟨A, rfl, hA, hown, hb1⟩
      obtain ⟨hw1, hA1⟩ := own_words hown
      clear hown
      have hwd : wordsOf p = (goFieldsP isBlank ⟨p.toArray⟩).map fun b => b.data.toList := rfl
      generalize hL : goFieldsP isBlank ⟨p.toArray⟩ = L at hw1 hwd ⊢
      have HWD := Lib.hid hwd; have HW1 := Lib.hid hw1; have HB1 := Lib.hid hb1
      clear hwd hw1 hL hb1
      have hokw : ∀ z ∈ L.map fun b => b.data.toList, z ≠ [] ∧ z.length ≤ p.length := fun z hz => words_ok (by rw [HWD.out]; exact hz)
      have HOKW := Lib.hid hokw
      clear hokw
      cases L with
      | nil =>
        have hsk : skips (wordsOf p) = true := by rw [HWD.out]; rfl
        have HSK := Lib.hid hsk
        have HHN := Lib.hid hh.out
        clear hsk hh
        gi_wp2
        exact ⟨(keepsOthers_below HB1.out).from _, keep_below HP.out.big HB1.out, _, acc, HP.out.later HB1.out, own_below HRW.out HB1.out, hl, Lib.hid (by rw [← lines_skip HSK.out, ← HDR.out]; exact HHN.out)⟩
      | cons b0 L =>
        obtain ⟨c, z, hcz⟩ : ∃ c z, b0.data.toList = c :: z := by
          have := (HOKW.out b0.data.toList (by simp)).1
          cases h : b0.data.toList with
          | nil => exact absurd h this
          | cons c z => exact ⟨c, z, rfl⟩
        have hbz : b0 = ⟨(c :: z).toArray⟩ := by
          rw [← hcz]
        subst hbz
        clear hcz
        have g0 : W1.cell? ⟨A, 0, none⟩ = some (.string ⟨(c :: z).toArray⟩) := HW1.out 0 (by simp)
        have hz : (⟨(c :: z).toArray⟩ : ByteArray)[0]'(by simp [ByteArray.size]) = c := rfl
        have HHN := Lib.hid hh.out
        have hn0 : ((L.length : Int) + 1 == 0) = false := beq_eq_false_iff_ne.2 (by omega)
        by_cases hc : c = 35
        · have hcb : ((c.toNat : Int) == 35) = true := by rw [hc]; decide
          have hsk : skips (wordsOf p) = true := by rw [HWD.out]; simp [skips, hc]
          have HSK := Lib.hid hsk
          clear hsk hh hc
          gi_wp2
          exact ⟨(keepsOthers_below HB1.out).from _, keep_below HP.out.big HB1.out, _, acc, HP.out.later HB1.out, own_below HRW.out HB1.out, hl, Lib.hid (by rw [← lines_skip HSK.out, ← HDR.out]; exact HHN.out)⟩
        · have hcb : ((c.toNat : Int) == 35) = false := beq_eq_false_iff_ne.2 (fun e => hc (toNat35 (by omega)))
          have hsk : skips (wordsOf p) = false := by rw [HWD.out]; simp [skips, hc]
          have HSK := Lib.hid hsk
          clear hsk hh hc
          have HX2 := Lib.hid (HX1.out.below HB1.out)
          gi_wp2_with fail
          refine ⟨trivial, CallsIn.inRound l (callsIn_wide.2 ((rule_any A (L.length + 1) (L.length + 1) ((⟨(c :: z).toArray⟩ :: L).map fun b => b.data.toList) (by simp) (fun y hy => Nat.le_trans (HOKW.out y hy).2 (by omega)) W1 HX2.out hA1 HW1.out).mono ?_))⟩
          rintro e W2 ⟨hb2, he⟩
          rw [← HWD.out] at he
          have hb2' : Below W.heap.size W W2 := HB1.out.trans (hb2.mono HB1.out.size)
          have HB2 := Lib.hid hb2'
          have HP2 := Lib.hid (HP.out.later hb2')
          have HR2 := Lib.hid (own_below HRW.out hb2')
          clear hb2 hb2' g0 hz
          obtain ⟨k0, k1, k2, f0, f1, f2⟩ := HP2.out.facts
          have hbig := HP2.out.big
          have m0 : w.heap.size < W2.heap.size := by omega
          have m1 : w.heap.size + 1 < W2.heap.size := by omega
          have m2 : w.heap.size + 1 + 1 < W2.heap.size := by omega
          have n0 : ¬ w.heap.size = W2.heap.size := by omega
          have n1 : ¬ w.heap.size + 1 = W2.heap.size := by omega
          have n2 : ¬ w.heap.size + 1 + 1 = W2.heap.size := by omega
          have o0 : ¬ W2.heap.size = w.heap.size := by omega
          have o1 : ¬ W2.heap.size = w.heap.size + 1 := by omega
          have o2 : ¬ W2.heap.size = w.heap.size + 1 + 1 := by omega
          clear hbig
          unfold RuleEnd at he
          cases hru : ruleOf (wordsOf p) with
          | none =>
            rw [hru] at he
            simp only [ruleV] at he
            subst he
            have HEND := Lib.hid (show linesOf (splitB 10 s) [] = ([], 210) by rw [← HHN.out, HDR.out, lines_bad HSK.out hru])
            clear hru
            gi_wp2
            exact ⟨((((keepsOthers_below HB2.out).trans (KeepsOthers.setCell _ _ _)).trans (KeepsOthers.setCell _ _ _)).trans (KeepsOthers.alloc _ _)).from _, rfl, _, _, ((HP2.out.set0 _).set1 _).alloc _, HEND⟩
          | some r =>
            obtain ⟨x0, x1, x2, x3, x4⟩ := r
            rw [hru] at he
            simp only [ruleV] at he
            subst he
            by_cases h32 : acc.length = 32
            · have HEND := Lib.hid (show linesOf (splitB 10 s) [] = ([], 5) by rw [← HHN.out, HDR.out, lines_full HSK.out hru h32])
              clear hru
              have h32' : ((acc.length : Int) == 32) = true := by rw [h32]; rfl
              clear h32 hl
              gi_wp2
              exact ⟨((((keepsOthers_below HB2.out).trans (KeepsOthers.setCell _ _ _)).trans (KeepsOthers.setCell _ _ _)).trans (KeepsOthers.alloc _ _)).from _, rfl, _, _, ((HP2.out.set0 _).set1 _).alloc _, HEND⟩
            · have HEND := Lib.hid (show linesOf ((splitB 10 s).drop (i + 1)) (acc ++ [⟨x0, x1, x2, x3, x4⟩]) = linesOf (splitB 10 s) [] by rw [← HHN.out, HDR.out, lines_add HSK.out hru h32]; rfl)
              have h32' : ((acc.length : Int) == 32) = false := beq_eq_false_iff_ne.2 (by omega)
              have hl2 : acc.length + 1 ≤ 32 := by omega
              have HL2 := Lib.hid hl2
              clear hru h32 hl hl2
              obtain ⟨i0, hi, hzz⟩ := Option.map_eq_some_iff.1 info135
              simp only [Prod.mk.injEq] at hzz
              obtain ⟨hz0, hz1, hz2⟩ := hzz
              have HI := Lib.hid hi; have HZ0 := Lib.hid hz0; have HZ1 := Lib.hid hz1; have HZ2 := Lib.hid hz2
              clear hi hz0 hz1 hz2
              gi_wp2_with (first | (gi_at_builtin; refine wpListIn_append_own _ rfl _ _ 96 rfl (w.heap.size + 6) 135 i0 (.agg #[.bool false, .int .i64 0, .int .i64 0, .int .i64 0, .int .i64 0]) 5 40 Tryz.underlying96 HI.out HZ0.out HZ1.out HZ2.out rfl (by decide) _ _ _ rfl ((HR2.out.alloc _).alloc _) ⟨W2.heap.size + 1, 0, none⟩ 1 1 [.bool x0, .int .i64 x1, .int .i64 x2, .int .i64 x3, .int .i64 x4] rfl rfl ?c1 ?c2 ?c3 ?c4 ?c5 ?_))
              case c1 =>
                intro j u hj
                have hb : ((W2.alloc (.cells #[.bool x0, .int .i64 x1, .int .i64 x2, .int .i64 x3, .int .i64 x4] 135)).alloc (.cells #[.bool x0, .int .i64 x1, .int .i64 x2, .int .i64 x3, .int .i64 x4] 135)).heap[W2.heap.size + 1]? = some (.cells #[.bool x0, .int .i64 x1, .int .i64 x2, .int .i64 x3, .int .i64 x4] 135 (0, 0)) := by
                  have h := World.alloc_heap_new (W2.alloc (.cells #[.bool x0, .int .i64 x1, .int .i64 x2, .int .i64 x3, .int .i64 x4] 135)) (.cells #[.bool x0, .int .i64 x1, .int .i64 x2, .int .i64 x3, .int .i64 x4] 135)
                  rw [World.size_alloc] at h
                  exact h
                match j, hj with
                | 0, hj => exact (cell_in hb 0).trans (by simpa using hj)
                | 1, hj => exact (cell_in hb 1).trans (by simpa using hj)
                | 2, hj => exact (cell_in hb 2).trans (by simpa using hj)
                | 3, hj => exact (cell_in hb 3).trans (by simpa using hj)
                | 4, hj => exact (cell_in hb 4).trans (by simpa using hj)
                | j + 5, hj => simp at hj
              case c2 => intro u hu; simp at hu; rcases hu with rfl | rfl | rfl | rfl | rfl <;> rfl
              case c3 => have := HL2.out; unfold maxLen; omega
              case c4 => have := HL2.out; omega
              case c5 => have := HP2.out.big; simp; omega
              intro v' w' hown' hg _
              have hrow : ∀ k, (Value.slice Av acc.length cv).ownBlock = some k → w.heap.size + 6 ≤ k := own_ge HR2.out
              have hpa := ((HP2.out.alloc (.cells #[.bool x0, .int .i64 x1, .int .i64 x2, .int .i64 x3, .int .i64 x4] 135)).alloc (.cells #[.bool x0, .int .i64 x1, .int .i64 x2, .int .i64 x3, .int .i64 x4] 135))
              have hp' := hpa.grown hg hrow
              have HP' := Lib.hid hp'
              have HK := Lib.hid (keep_trans (keep_trans (keep_below HP.out.big (HB2.out.trans (((Below.refl _ W2).alloc HB2.out.size (.cells #[.bool x0, .int .i64 x1, .int .i64 x2, .int .i64 x3, .int .i64 x4] 135)).alloc (by have := HB2.out.size; simp; omega) (.cells #[.bool x0, .int .i64 x1, .int .i64 x2, .int .i64 x3, .int .i64 x4] 135)))) (keep_grown hpa.big hg hrow)) (keep_set (a := ⟨w.heap.size + 1 + 1, 0, none⟩) v' (by show w.heap.size + 1 + 1 < w.heap.size + 3; omega)))
              have HO := Lib.hid (((((keepsOthers_below HB2.out).trans (KeepsOthers.alloc _ _)).trans (KeepsOthers.alloc _ _)).trans (KeepsOthers.of_grownBy hg (own_cells ((HR2.out.alloc (.cells #[.bool x0, .int .i64 x1, .int .i64 x2, .int .i64 x3, .int .i64 x4] 135)).alloc (.cells #[.bool x0, .int .i64 x1, .int .i64 x2, .int .i64 x3, .int .i64 x4] 135))))).trans (KeepsOthers.setCell w' ⟨w.heap.size + 1 + 1, 0, none⟩ v'))
              have HW' := Lib.hid hown'
              clear k0 k1 k2 f0 f1 f2 m0 m1 m2 n0 n1 n2 o0 o1 o2 hp' hpa hg hown' hrow h32'
              obtain ⟨k0, k1, k2, f0, f1, f2⟩ := HP'.out.facts
              obtain ⟨A', c', rfl⟩ := own_slice HW'.out
              gi_wp2
              refine ⟨HO.out.from _, HK.out, _, acc ++ [⟨x0, x1, x2, x3, x4⟩], HP'.out.set2 _, ?_, ?_, HEND⟩
              · rw [flatS_snoc, List.length_append]
                exact ownsRow_setCell_below HW'.out (by show w.heap.size + 1 + 1 < w.heap.size + 6; omega) _
              · have := HL2.out; simp; omega
    case done =>
      rintro D W hD ⟨v, acc, hp, hr, hl, hh⟩ hK
      obtain ⟨Av, cv, rfl⟩ := own_slice hr
      obtain ⟨k0, k1, k2, f0, f1, f2⟩ := hp.facts
      have HP := Lib.hid hp
      have hend : parseOf s = (acc, 0) := by
        have e := hh.out
        rw [List.drop_of_length_le (by simp)] at e
        unfold parseOf; rw [if_neg HL.out, ← e]; rfl
      have HEND := Lib.hid hend
      have HR := Lib.hid hr
      have hD6 : w.heap.size + 6 ≤ D := by omega
      clear hp q0 q1 q2 q3 q4 q5 hend hh hr hl
      gi_wp2
      have hK2 : ((W.setCell ⟨w.heap.size, 0, none⟩ (.slice Av acc.length cv)).setCell ⟨w.heap.size + 1, 0, none⟩ (.int .i64 0)).heap[D]? = some (.deferred (some [])) :=
        (Below.heap_setCell _ _ _ _ (by show D ≠ w.heap.size + 1; omega)).trans ((Below.heap_setCell _ _ _ _ (by show D ≠ w.heap.size; omega)).trans hK)
      have hpp := ((HP.out.set0 (.slice Av acc.length cv)).set1 0).put hD6 (.deferred none)
      have hr2 := ownsRow_putObj (ownsRow_setCell_below (ownsRow_setCell_below HR.out (a := ⟨w.heap.size, 0, none⟩) (by show w.heap.size < w.heap.size + 6; omega) (.slice Av acc.length cv)) (a := ⟨w.heap.size + 1, 0, none⟩) (by show w.heap.size + 1 < w.heap.size + 6; omega) (.int .i64 0)) (.deferred none) hK2 rfl
      refine ⟨by simp, .inl ⟨_, _, rfl, run_takeDeferred hK2, ?_⟩⟩
      refine ⟨_, res22 rfl rfl hpp.facts.1 hpp.facts.2.1, hpp.b, ?_⟩
      unfold ParseEnd; rw [HEND.out]
      exact ⟨_, rfl, own_R hr2 (by omega)⟩
    case stop =>
      rintro D c W hD ⟨rfl, v, r, hp, hh⟩ hK
      obtain ⟨k0, k1, k2, f0, f1, f2⟩ := hp.facts
      have HP := Lib.hid hp
      have hend : parseOf s = ([], r) := by
        unfold parseOf; rw [if_neg HL.out]; exact hh.out
      have HEND := Lib.hid hend
      have hD6 : w.heap.size + 6 ≤ D := by omega
      clear hp q0 q1 q2 q3 q4 q5 hend hh
      gi_wp2
      have hpp := HP.out.put hD6 (.deferred none)
      refine ⟨by simp, .inl ⟨_, _, rfl, run_takeDeferred hK, ?_⟩⟩
      refine ⟨_, res22 rfl rfl hpp.facts.1 hpp.facts.2.1, hpp.b, ?_⟩
      unfold ParseEnd; rw [HEND.out]
      exact ⟨_, rfl, Kd.R_nil _ _ _ _ _⟩

/-- The same, of the plain call. -/
theorem parse_any (s : List UInt8) (w : World) (hx : LaidW w) :
    Calls Tryz.prog 51 #[.string ⟨s.toArray⟩] w fun e w' => Below w.heap.size w w' ∧ ParseEnd s w.heap.size e w' :=
  callsIn_wide.1 (parse_in 0 s w hx)
end Go.Proofs.YthnpiimiimiijaaGreatDoor.Acl
