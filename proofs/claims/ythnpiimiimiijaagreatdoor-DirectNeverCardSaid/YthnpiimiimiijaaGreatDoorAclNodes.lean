/- acl.nodes: the bits of a word, or the package's own panic, for every word. -/
import Derived.Test.YthnpiimiimiijaaGreatDoorAclIndex
import Derived.Test.YthnpiimiimiijaaGreatDoorAclRange
namespace Go.Proofs.YthnpiimiimiijaaGreatDoor.Acl
open Go.RowKit Go.Shelf Go.Proofs
attribute [local go_sem] Oper.semAt_some

/-- One piece: its bit, if it is one of '1' to '8'. -/
def digitOf : List UInt8 → Option Nat
  | [d] => if 49 ≤ d.toNat ∧ d.toNat ≤ 56 then some (d.toNat - 48) else none
  | _ => none
/-- The pieces, one behind the other: the bits; none: a panic. -/
def bitsOf : List (List UInt8) → Int → Option Int
  | [], out => some out
  | p :: r, out => match digitOf p with
    | none => none
    | some k => if Go.bits .and .i64 out (wrap64 (2 ^ k)) = 0 then bitsOf r (Go.bits .or .i64 out (wrap64 (2 ^ k))) else none
def nodesOf (s : List UInt8) : Option Int := if s = [42] then some 510 else bitsOf (splitB 44 s) 0

/-- The functions that acl.nodes comes to. -/
def FN : Fence := Fence.list [88, 132, 134, 135, 160, 158, 171, 177, 185] none

def NodesEnd (s : List UInt8) (e : Ending) : Prop :=
  match nodesOf s with
  | some b => e = .returned (.int .i64 b)
  | none => e = .panicked [{ v := wrongV, recovered := false }]

theorem FN_in (k : Nat) (h : k ∈ [88, 132, 134, 135, 160, 158, 171, 177, 185]) : FN.fn k := h

theorem iter59 {F : Fence} (hro : F.round = none) (hde : F.depth = none) (h59 : F.fn 158) (h49 : F.fn 160)
    (hix : ∀ (m : Nat) (r : List UInt8) (c : UInt8) (w : World), CallsIn F m Tryz.prog 160 #[.string ⟨r.toArray⟩, .string ⟨#[c]⟩] w fun e w' => e = .returned (.int .i64 (Lib.indexByte r c)) ∧ w' = w)
    (m Bsep Bs Bv : Nat) (h12 : Bsep ≠ Bs) (h13 : Bv ≠ Bs) (c : UInt8) (s : List UInt8) (hs : s.length ≤ 140737488355328) (W0 : World)
    (hc1 : W0.heap[Bsep]? = some (.cells #[.string ⟨#[c]⟩] 9 (0, 0))) (hc2 : W0.heap[Bs]? = some (.cells #[.string ⟨s.toArray⟩] 9 (0, 0))) (hc3 : W0.heap[Bv]? = some (.cells #[.int .i64 0] 3 (0, 0))) :
    IterKnown F Tryz.prog m 158 #[.pointer (some ⟨Bsep, 0, none⟩), .pointer (some ⟨Bs, 0, none⟩), .pointer (some ⟨Bv, 0, none⟩)] ((splitB c s).map fun x => #[.string ⟨x.toArray⟩]) (keep3 Bsep Bs Bv) (fun W W' => ∃ v, W' = W.setCell ⟨Bs, 0, none⟩ v) W0 := by
  intro l J Jx Jp hJ hY W hk h0
  refine (seq59 F hro hde h59 h49 hix m l Bsep Bs Bv h12 h13 c ⟨s.toArray⟩ (by simpa [ByteArray.size] using hs) J Jx Jp (fun i W v h => hJ i W _ h ⟨v, rfl⟩) (fun i x W1 hx hj => hY i _ W1 (by rw [List.getElem?_map, hx]; rfl) hj) W (hk.1.trans hc1) (hk.2.1.trans hc2) (hk.2.2.trans hc3) h0).mono ?_
  rintro e W' (⟨rfl, h⟩ | h)
  · exact .inl ⟨⟨_, rfl⟩, by simpa using h⟩
  · exact .inr h

theorem bits_bad {P : List (List UInt8)} {p : List UInt8} {r : List (List UInt8)} {o : Int} {q : Option Int} (h : P = p :: r) (ho : bitsOf P o = q) (hp : digitOf p = none) : q = none := by
  rw [← ho, h]; simp [bitsOf, hp]
theorem bits_twice {P : List (List UInt8)} {p : List UInt8} {r : List (List UInt8)} {o : Int} {q : Option Int} {k : Nat} (h : P = p :: r) (ho : bitsOf P o = q) (hp : digitOf p = some k) (hb : ¬ Go.bits .and .i64 o (wrap64 (2 ^ k)) = 0) : q = none := by
  rw [← ho, h]; simp [bitsOf, hp, hb]
theorem bits_good {P r : List (List UInt8)} {p : List UInt8} {o : Int} {q : Option Int} {k : Nat} (h : P = p :: r) (ho : bitsOf P o = q) (hp : digitOf p = some k) (hb : Go.bits .and .i64 o (wrap64 (2 ^ k)) = 0) : bitsOf r (Go.bits .or .i64 o (wrap64 (2 ^ k))) = q := by
  rw [← ho, h]; simp [bitsOf, hp, hb]
theorem four0 (w : World) (a b c d : Obj) : ((((w.alloc a).alloc b).alloc c).alloc d).heap[w.heap.size]? = some a :=
  (((Below.heap_alloc _ _ _ (by simp; omega)).trans (Below.heap_alloc _ _ _ (by simp; omega))).trans (Below.heap_alloc _ _ _ (by simp))).trans (World.alloc_heap_new w a)
theorem four1 (w : World) (a b c d : Obj) : ((((w.alloc a).alloc b).alloc c).alloc d).heap[w.heap.size + 1]? = some b := by
  have h := World.alloc_heap_new (w.alloc a) b
  rw [World.size_alloc] at h
  exact ((Below.heap_alloc _ _ _ (by simp)).trans (Below.heap_alloc _ _ _ (by simp))).trans h
theorem four2 (w : World) (a b c d : Obj) : ((((w.alloc a).alloc b).alloc c).alloc d).heap[w.heap.size + 2]? = some c := by
  have h := World.alloc_heap_new ((w.alloc a).alloc b) c
  rw [World.size_alloc, World.size_alloc] at h
  exact (Below.heap_alloc _ _ _ (by simp)).trans h
theorem four3 (w : World) (a b c d : Obj) : ((((w.alloc a).alloc b).alloc c).alloc d).heap[w.heap.size + 3]? = some d := by
  have h := World.alloc_heap_new (((w.alloc a).alloc b).alloc c) d
  rw [World.size_alloc, World.size_alloc, World.size_alloc] at h
  exact h
theorem FN_rows (f : Nat) (hf : FN.fn f) : ∃ fn, Tryz.prog.funcs[f]? = some fn := by
  have h : f ∈ [88, 132, 134, 135, 160, 158, 171, 177, 185] := hf
  simp only [List.mem_cons, List.not_mem_nil, or_false] at h
  rcases h with rfl | rfl | rfl | rfl | rfl | rfl | rfl | rfl | rfl
  · exact ⟨_, Tryz.func88⟩
  · exact ⟨_, Tryz.func132⟩
  · exact ⟨_, Tryz.func134⟩
  · exact ⟨_, Tryz.func135⟩
  · exact ⟨_, Tryz.func160⟩
  · exact ⟨_, Tryz.func158⟩
  · exact ⟨_, Tryz.func171⟩
  · exact ⟨_, Tryz.func177⟩
  · exact ⟨_, Tryz.func185⟩

set_option maxHeartbeats 2000000 in
set_option maxRecDepth 100000 in
theorem nodes_in (m : Nat) (s : List UInt8) (hs : s.length ≤ 140737488355328) (w : World) :
    CallsIn FN m Tryz.prog 135 #[.string ⟨s.toArray⟩] w fun e w' => Below w.heap.size w w' ∧ NodesEnd s e := by
  have hro : FN.round = none := rfl
  have hde : FN.depth = none := rfl
  have h26 : FN.fn 88 := FN_in _ (by decide)
  have h44 : FN.fn 134 := FN_in _ (by decide)
  by_cases h42s : s = [42]
  · have hb : (s == [42]) = true := by simpa using h42s
    have HS := Lib.hid h42s
    clear h42s
    refine callsIn_of_wp Tryz.func135 rfl (FN_in _ (by decide)) ?_ hro
    simp only [Tryz.ntmps135, List.size_toArray, List.length_cons, List.length_nil, Nat.reduceAdd, Nat.reduceSub, Array.replicate_succ, Array.replicate_zero, List.push_toArray, List.append_toArray, List.nil_append, List.cons_append]
    gi_wp2
    go_ret
    exact ⟨Below.refl _ _, by unfold NodesEnd nodesOf; rw [if_pos HS.out]; rfl⟩
  · have hb : (s == [42]) = false := by simpa using h42s
    refine callsIn_of_wp_marks Tryz.func135 rfl (FN_in _ (by decide)) ?_ hro
    simp only [Tryz.ntmps135, List.size_toArray, List.length_cons, List.length_nil, Nat.reduceAdd, Nat.reduceSub, Array.replicate_succ, Array.replicate_zero, List.push_toArray, List.append_toArray, List.nil_append, List.cons_append]
    gi_wp2_with fail
    refine (seq_in hro hde h26 (FN_in _ (by decide)) _ _ _).mono ?_
    rintro e w' ⟨rfl, rfl⟩
    gi_wp2_with fail
    obtain ⟨W0, hW0⟩ : ∃ W0, (((w.alloc (.cells #[.int .i64 0] 3)).alloc (.cells #[.string ⟨s.toArray⟩] 9)).alloc (.cells #[.string ⟨#[44]⟩] 9)).alloc (.cells #[.int .i64 0] 3) = W0 := ⟨_, rfl⟩
    rw [hW0]
    have hs0 : W0.heap.size = w.heap.size + 4 := by rw [← hW0]; simp
    have hbel : Below w.heap.size w W0 := by
      rw [← hW0]; exact ((((Below.refl _ w).alloc (Nat.le_refl _) _).alloc (by simp) _).alloc (by simp; omega) _).alloc (by simp; omega) _
    have hc0 : W0.heap[w.heap.size]? = some (.cells #[.int .i64 0] 3 (0, 0)) := by rw [← hW0]; exact four0 _ _ _ _ _
    have hc1 : W0.heap[w.heap.size + 1]? = some (.cells #[.string ⟨s.toArray⟩] 9 (0, 0)) := by rw [← hW0]; exact four1 _ _ _ _ _
    have hc2 : W0.heap[w.heap.size + 2]? = some (.cells #[.string ⟨#[44]⟩] 9 (0, 0)) := by rw [← hW0]; exact four2 _ _ _ _ _
    have hc3 : W0.heap[w.heap.size + 3]? = some (.cells #[.int .i64 0] 3 (0, 0)) := by rw [← hW0]; exact four3 _ _ _ _ _
    clear hW0
    refine range_known (F := FN) (P := Tryz.prog) hro hde (gf := 158) rfl (FN_in _ (by decide)) (enters_of Tryz.func158 (by kernel_rfl) rfl)
      (iter59 hro hde (FN_in _ (by decide)) (FN_in _ (by decide)) (fun m r c w => index_in hro hde (FN_in _ (by decide)) (FN_in _ (by decide)) (FN_in _ (by decide)) (FN_in _ (by decide)) r c w) (m - 1) (w.heap.size + 2) (w.heap.size + 1) (w.heap.size + 3) (by omega) (by omega) 44 s hs W0 hc2 hc1 hc3)
      (fun A B C h k => ⟨k.1.trans h.1, k.2.1.trans h.2.1, k.2.2.trans h.2.2⟩)
      (fun A o hA => ⟨Below.heap_alloc _ _ _ (by omega), Below.heap_alloc _ _ _ (by omega), Below.heap_alloc _ _ _ (by omega)⟩)
      (fun W l o o' hl _ _ => ⟨World.putObj_heap_other (by omega), World.putObj_heap_other (by omega), World.putObj_heap_other (by omega)⟩)
      (fun W W' k o ⟨v, e⟩ hk h ho => by rw [e]; exact (Below.heap_setCell W _ _ _ (by show k ≠ w.heap.size + 1; omega)).trans h)
      (by simp)
      (fun i W => Below w.heap.size w W ∧ ∃ out, Hid (bitsOf ((splitB 44 s).drop i) out = bitsOf (splitB 44 s) 0) ∧ W.heap[w.heap.size]? = some (.cells #[.int .i64 out] 3 (0, 0)))
      (fun _ _ => False) (fun ch W => Below w.heap.size w W ∧ ch = [{ v := wrongV, recovered := false }] ∧ bitsOf (splitB 44 s) 0 = none) (fun _ f hf => FN_rows f hf)
      ?turns (fun c W l o o' h => h.elim) ?aside ?start
      (fun i => { tmps := #[.string ⟨s.toArray⟩, undef, .int .i64 0, .pointer (some ⟨w.heap.size, 0, none⟩), .string ⟨((splitB 44 s).getD i []).toArray⟩, undef, .string ⟨s.toArray⟩, .bool false, .string ⟨s.toArray⟩, .func (.func 158) #[] #[.pointer (some ⟨w.heap.size + 2, 0, none⟩), .pointer (some ⟨w.heap.size + 1, 0, none⟩), .pointer (some ⟨w.heap.size + 3, 0, none⟩)], .string ⟨((splitB 44 s).getD i []).toArray⟩, undef, undef, undef, undef, undef, undef, undef, undef, undef, undef, undef, undef, undef, undef, undef, undef, undef, undef, undef, undef, undef, undef, undef, undef, undef, undef, undef], defers := [] })
      ?assign ?body ?done (fun D c W _ h => h.elim) ?panic
    case turns =>
      rintro i W l o o' ⟨hb1, out, ho, hc⟩ hl hlo hno
      exact ⟨hb1.grown (grownBy_putObj' W l o') (by have := hb1.size; omega) (fun k e => by cases e; omega), out, ho, (World.putObj_heap_other (by omega)).trans hc⟩
    case aside =>
      rintro i W W' ⟨hb1, out, ho, hc⟩ ⟨v, rfl⟩
      exact ⟨hb1.setCell (by show w.heap.size ≤ w.heap.size + 1; omega) _, out, ho, (Below.heap_setCell W _ _ _ (by show w.heap.size ≠ w.heap.size + 1; omega)).trans hc⟩
    case start =>
      intro o o'
      exact ⟨(hbel.alloc (by omega) _).alloc (by simp; omega) _, 0, Lib.hid (by simp), ((Below.heap_alloc _ _ _ (by simp; omega)).trans (Below.heap_alloc _ _ _ (by omega))).trans hc0⟩
    case assign =>
      intro l i x W K hix hK
      have hx : x = #[.string ⟨((splitB 44 s).getD i []).toArray⟩] := by
        rw [List.getElem?_map] at hix
        cases hq : (splitB 44 s)[i]? with
        | none => rw [hq] at hix; cases hix
        | some q => rw [hq] at hix; rw [List.getD_eq_getElem?_getD, hq]; exact (Option.some.inj hix).symm
      rw [hx]
      gi_wp2
      exact hK
    case body =>
      rintro l i W hi ⟨hb1, out, ho, hc⟩
      have hm1 : ∀ m w, CallsIn FN m Tryz.prog 134 #[.bool true] w fun e w' => e = .returned (.tuple #[]) ∧ w' = w := fun m w => must_in_yes hro h44 w
      have hm0 : ∀ m w, CallsIn FN m Tryz.prog 134 #[.bool false] w fun e w' => e = .panicked [{ v := wrongV, recovered := false }] ∧ w' = w := fun m w => must_in_no hro h44 w
      have HM1 := Lib.hid hm1; have HM0 := Lib.hid hm0
      clear hm1 hm0
      have hi' : i < (splitB 44 s).length := by simpa using hi
      obtain ⟨p, hp⟩ : ∃ p, p = (splitB 44 s).getD i [] := ⟨_, rfl⟩
      rw [← hp]
      have hdr : (splitB 44 s).drop i = p :: (splitB 44 s).drop (i + 1) := by
        rw [List.drop_eq_getElem_cons hi', hp, List.getD_eq_getElem?_getD, List.getElem?_eq_getElem hi']; rfl
      have HDR := Lib.hid hdr
      clear hdr hp hi hi'
      have k0 : W.cell? ⟨w.heap.size, 0, none⟩ = some (.int .i64 out) := cell_of_one' hc
      have f0 : W.frozen? ⟨w.heap.size, 0, none⟩ = false := by simp [World.frozen?, hc]
      have HC := Lib.hid hc
      clear hc
      match p, HDR with
      | [d], HDR =>
        have hz : (⟨#[d]⟩ : ByteArray)[0]'(show 0 < ByteArray.size ⟨#[d]⟩ from Nat.zero_lt_one) = d := rfl
        by_cases hd1 : (49 : Int) ≤ (d.toNat : Int)
        · by_cases hd2 : (d.toNat : Int) ≤ 56
          · have hdd : decide ((d.toNat : Int) ≤ 56) = true := decide_eq_true hd2
            gi_wp2_with fail
            refine (CallsIn.inRound l (HM1.out _ _)).mono ?_
            rintro e w' ⟨rfl, he⟩
            obtain rfl : W = w' := he.symm
            clear he
            have hdg : digitOf [d] = some (d.toNat - 48) := by simp [digitOf]; omega
            have HDG := Lib.hid hdg
            clear hdg
            by_cases hq : Go.bits .and .i64 out (wrap64 (2 ^ (d.toNat - 48))) = 0
            · have hqb : (Go.bits .and .i64 out (wrap64 (2 ^ (d.toNat - 48))) == 0) = true := beq_iff_eq.2 hq
              have HQ := Lib.hid hq
              clear hq
              gi_wp2_with fail
              refine (CallsIn.inRound l (HM1.out _ _)).mono ?_
              rintro e w' ⟨rfl, he⟩
              obtain rfl : W = w' := he.symm
              clear he
              gi_wp2
              refine ⟨(KeepsOthers.setCell _ _ _).from _, ⟨?_, ?_, ?_⟩, hb1.setCell (Nat.le_refl _) _, _, Lib.hid (bits_good HDR.out ho.out HDG.out HQ.out), heap_set_one HC.out _⟩
              · exact Below.heap_setCell W _ _ _ (by show w.heap.size + 2 ≠ w.heap.size; omega)
              · exact Below.heap_setCell W _ _ _ (by show w.heap.size + 1 ≠ w.heap.size; omega)
              · exact Below.heap_setCell W _ _ _ (by show w.heap.size + 3 ≠ w.heap.size; omega)
            · have hqb : (Go.bits .and .i64 out (wrap64 (2 ^ (d.toNat - 48))) == 0) = false := beq_eq_false_iff_ne.2 hq
              have HQ := Lib.hid hq
              clear hq
              gi_wp2_with fail
              refine (CallsIn.inRound l (HM0.out _ _)).mono ?_
              rintro e w' ⟨rfl, he⟩
              obtain rfl : W = w' := he.symm
              clear he
              gi_wp2
              exact ⟨rfl, KeepsFrom.refl _ _, hb1, rfl, bits_twice HDR.out ho.out HDG.out HQ.out⟩
          · have hdd : decide ((d.toNat : Int) ≤ 56) = false := decide_eq_false hd2
            gi_wp2_with fail
            refine (CallsIn.inRound l (HM0.out _ _)).mono ?_
            rintro e w' ⟨rfl, he⟩
            obtain rfl : W = w' := he.symm
            clear he
            gi_wp2
            exact ⟨rfl, KeepsFrom.refl _ _, hb1, rfl, bits_bad HDR.out ho.out (by simp [digitOf]; omega)⟩
        · gi_wp2_with fail
          refine (CallsIn.inRound l (HM0.out _ _)).mono ?_
          rintro e w' ⟨rfl, he⟩
          obtain rfl : W = w' := he.symm
          clear he
          gi_wp2
          exact ⟨rfl, KeepsFrom.refl _ _, hb1, rfl, bits_bad HDR.out ho.out (by simp [digitOf]; omega)⟩
      | [], HDR =>
        gi_wp2_with fail
        refine (CallsIn.inRound l (HM0.out _ _)).mono ?_
        rintro e w' ⟨rfl, he⟩
        obtain rfl : W = w' := he.symm
        clear he
        gi_wp2
        exact ⟨rfl, KeepsFrom.refl _ _, hb1, rfl, bits_bad HDR.out ho.out rfl⟩
      | a :: b :: r, HDR =>
        have hl1 : (((a :: b :: r).length : Int) == 1) = false := by simp; omega
        gi_wp2_with fail
        refine (CallsIn.inRound l (HM0.out _ _)).mono ?_
        rintro e w' ⟨rfl, he⟩
        obtain rfl : W = w' := he.symm
        clear he
        gi_wp2
        exact ⟨rfl, KeepsFrom.refl _ _, hb1, rfl, bits_bad HDR.out ho.out rfl⟩
    case done =>
      rintro D W hD ⟨hb1, out, ho, hc⟩ hK
      have k0 : W.cell? ⟨w.heap.size, 0, none⟩ = some (.int .i64 out) := cell_of_one' hc
      have hend : nodesOf s = some out := by
        have e := ho.out
        rw [List.drop_of_length_le (by simp)] at e
        unfold nodesOf; rw [if_neg h42s, ← e]; rfl
      have HE := Lib.hid hend
      clear hend
      gi_wp2
      refine ⟨by simp, .inl ⟨_, _, rfl, run_takeDeferred hK, ?_⟩⟩
      refine ⟨_, results_tmp rfl _ _ _, ?_, ?_⟩
      · exact hb1.grown (grownBy_putObj' W D _) (by have := hb1.size; omega) (fun k e => by cases e; omega)
      · unfold NodesEnd; rw [HE.out]; rfl
    case panic =>
      rintro D ch W hD ⟨hb1, rfl, hn⟩ hK
      have hend : nodesOf s = none := by unfold nodesOf; rw [if_neg h42s]; exact hn
      refine ⟨by simp, .inl ⟨_, _, rfl, run_takeDeferred hK, ?_⟩⟩
      show Below w.heap.size w _ ∧ NodesEnd s _
      exact ⟨hb1.grown (grownBy_putObj' W D _) (by have := hb1.size; omega) (fun k e => by cases e; omega), by unfold NodesEnd; rw [hend]⟩

/-- The same, of the plain call. -/
theorem nodes_any (s : List UInt8) (hs : s.length ≤ 140737488355328) (w : World) :
    Calls Tryz.prog 135 #[.string ⟨s.toArray⟩] w fun e w' => Below w.heap.size w w' ∧ NodesEnd s e :=
  (nodes_in 0 s hs w).calls (fun _ d hd => by cases hd)
end Go.Proofs.YthnpiimiimiijaaGreatDoor.Acl
