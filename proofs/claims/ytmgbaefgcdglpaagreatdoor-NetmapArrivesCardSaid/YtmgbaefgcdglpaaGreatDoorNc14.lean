/- acl.must: it returns where it holds, and panics with the package's own value where it does not; the world stays. -/
import Derived.Test.YtmgbaefgcdglpaaGreatDoorProg
import Derived.WalkKit
import Derived.WalkLawsBesides
import Derived.KernelRfl
import Derived.Test.YtmgbaefgcdglpaaGreatDoorNc13
import Derived.RangeFuncNested
import Derived.RangeFuncBound
import Derived.RangeFuncCalls
import Derived.RangeFuncLeaves
import Derived.Shelf.Abstract
import Derived.Shelf.RegionOpen
import Derived.OwnWalkIn
import Derived.TacticsInMore
import Derived.LoopNIn
import Derived.LoopIn
import Derived.Lib.Hide
import Derived.Outline
import Derived.RangeFuncWrites
import Derived.Lib.RabinKarpLaws
import Derived.Lib.Strings
import Derived.WideLaws
import Derived.Lib.AppendIntMem
import Derived.Defers
import Derived.Recover
import Derived.Laws.Pointers
import Derived.Lib.SmallJoins
section
namespace Go.Proofs.YtmgbaefgcdglpaaGreatDoor.Acl
open Go.RowKit
def wrongV : Value := .iface 152 (.agg #[])
theorem must_yes (w : World) : Calls Tryz.prog 112 #[.bool true] w fun e w' => e = .returned (.tuple #[]) ∧ w = w' := by
 go_enter Tryz.func112, Tryz.ntmps112
 go_wp2
 go_end0
 exact ⟨rfl, rfl⟩
theorem must_no (w : World) : Calls Tryz.prog 112 #[.bool false] w fun e w' => e = .panicked [{ v := wrongV, recovered := false }] ∧ w = w' := by
 have hu := Tryz.underlying152
 go_enter Tryz.func112, Tryz.ntmps112
 go_wp2
 exact ⟨rfl, rfl, rfl⟩
end Go.Proofs.YtmgbaefgcdglpaaGreatDoor.Acl
/- strings.SplitSeq at a separator of one byte: what the iterator hands over, piece by piece, whatever the loop's body does: it goes on, it leaves, or it panics. -/
namespace Go.Proofs.YtmgbaefgcdglpaaGreatDoor.Acl
open Go.RowKit Go.Shelf Go.Proofs
attribute [local go_sem] Oper.semAt_some
def splitB (c : UInt8) : List UInt8 → List (List UInt8)
 | [] => [[]]
 | x :: r => if x = c then [] :: splitB c r else (x :: (splitB c r).headD []) :: (splitB c r).tail
theorem splitB_ne (c : UInt8) : ∀ l, splitB c l ≠ []
 | [] => by simp [splitB]
 | x :: r => by unfold splitB; split <;> simp
def keep3 (a b c : Nat) (W W' : World) : Prop := W'.heap[a]? = W.heap[a]? ∧ W'.heap[b]? = W.heap[b]? ∧ W'.heap[c]? = W.heap[c]?
theorem extract_eq (r : List UInt8) (a b : Nat) : (⟨r.toArray⟩ : ByteArray).extract a b = ⟨((r.take b).drop a).toArray⟩ := by
 ext1
 rw [ByteArray.data_extract]
 simp [List.drop_take]
theorem heap_set_one {W : World} {b : Nat} {x : Value} {t : TypeId} (h : W.heap[b]? = some (.cells #[x] t (0, 0))) (v : Value) : (W.setCell ⟨b, 0, none⟩ v).heap[b]? = some (.cells #[v] t (0, 0)) := by
 simp [World.setCell, Array.getElem?_modify, h]
theorem cell_of_one' {W : World} {b : Nat} {x : Value} {t : TypeId} (h : W.heap[b]? = some (.cells #[x] t (0, 0))) : W.cell? ⟨b, 0, none⟩ = some x := by
 simp [World.cell?, h]
theorem splitB_none' {c : UInt8} : ∀ (l : List UInt8), (∀ k : Nat, l[k]? ≠ some c) → splitB c l = [l]
 | [], _ => rfl
 | x :: r, h => by
  have hx : x ≠ c := fun e => h 0 (by simp [e])
  have ih := splitB_none' r (fun k => by simpa using h (k + 1))
  unfold splitB; rw [if_neg hx, ih]; rfl
theorem splitB_none {c : UInt8} {l : List UInt8} (h : Lib.indexByte l c = -1) : splitB c l = [l] := splitB_none' l (Lib.indexByte_none h)
theorem splitB_some' {c : UInt8} : ∀ (l : List UInt8) (i : Nat), l[i]? = some c → (∀ k : Nat, k < i → l[k]? ≠ some c) → splitB c l = l.take i :: splitB c (l.drop (i + 1))
 | [], i, h, _ => by simp at h
 | x :: r, 0, h, _ => by
  have hx : x = c := by simpa using h
  simp [splitB, hx]
 | x :: r, i + 1, h, hk => by
  have hx : x ≠ c := fun e => hk 0 (by omega) (by simp [e])
  have ih := splitB_some' r i (by simpa using h) (fun k hki => by simpa using hk (k + 1) (by omega))
  conv => lhs; unfold splitB
  rw [if_neg hx, ih]; rfl
theorem splitB_some {c : UInt8} {l : List UInt8} {i : Nat} (h : Lib.indexByte l c = (i : Int)) : i < l.length ∧ splitB c l = l.take i :: splitB c (l.drop (i + 1)) := by
 obtain ⟨h1, h2⟩ := Lib.indexByte_some h
 exact ⟨(List.getElem?_eq_some_iff.1 h1).1, splitB_some' l i h1 h2⟩
set_option maxHeartbeats 2000000 in
set_option maxRecDepth 100000 in
theorem seq59 (F : Fence) (hro : F.round = none) (hde : F.depth = none) (h59 : F.fn 151) (h49 : F.fn 153)
  (hix : ∀ (m : Nat) (r : List UInt8) (c : UInt8) (w : World), CallsIn F m Tryz.prog 153 #[.string ⟨r.toArray⟩, .string ⟨#[c]⟩] w fun e w' => e = .returned (.int .i64 (Lib.indexByte r c)) ∧ w' = w)
  (m l Bsep Bs Bv : Nat) (h12 : Bsep ≠ Bs) (h13 : Bv ≠ Bs) (c : UInt8) (s : ByteArray) (hs : s.size ≤ 140737488355328) (J : Nat → World → Prop) (Jx : World → Prop) (Jp : List PanicEntry → World → Prop)
  (hJ : ∀ i W v, J i W → J i (W.setCell ⟨Bs, 0, none⟩ v))
  (hY : ∀ i x W1, (splitB c s.data.toList)[i]? = some x → J i W1 → YieldAt F (m - 1) Tryz.prog l #[.string ⟨x.toArray⟩] W1 fun e W' =>
   (e = .returned (.bool true) ∧ J (i + 1) W' ∧ keep3 Bsep Bs Bv W1 W') ∨ (e = .returned (.bool false) ∧ Jx W') ∨ (∃ ch, e = .panicked ch ∧ Jp ch W'))
  (W : World) (hc1 : W.heap[Bsep]? = some (.cells #[.string ⟨#[c]⟩] 9 (0, 0))) (hc2 : W.heap[Bs]? = some (.cells #[.string s] 9 (0, 0))) (hc3 : W.heap[Bv]? = some (.cells #[.int .i64 0] 3 (0, 0))) (h0 : J 0 W) :
  CallsIn F m Tryz.prog 151 #[.func (.yield l) #[] #[], .pointer (some ⟨Bsep, 0, none⟩), .pointer (some ⟨Bs, 0, none⟩), .pointer (some ⟨Bv, 0, none⟩)] W fun e W' =>
   (e = .returned (.tuple #[]) ∧ (J (splitB c s.data.toList).length W' ∨ Jx W')) ∨ (∃ ch, e = .panicked ch ∧ Jp ch W') := by
 refine callsIn_of_wp Tryz.func151 rfl h59 ?_ hro
 simp only [Tryz.ntmps151, List.size_toArray, List.length_cons, List.length_nil, Nat.reduceAdd, Nat.reduceSub, Array.replicate_succ, Array.replicate_zero, List.push_toArray, List.append_toArray, List.nil_append, List.cons_append]
 have k1 : W.cell? ⟨Bsep, 0, none⟩ = some (.string ⟨#[c]⟩) := by simp [World.cell?, hc1]
 have HC1 := Lib.hid hc1; have HC2 := Lib.hid hc2; have HC3 := Lib.hid hc3
 clear hc1 hc2 hc3
 gi_wp2_with fail
 clear k1
 gi_loopw [7] (fun _ wr => ∃ (i : Nat) (r : List UInt8), Hid (wr.heap[Bsep]? = some (.cells #[.string ⟨#[c]⟩] 9 (0, 0)) ∧ wr.heap[Bs]? = some (.cells #[.string ⟨r.toArray⟩] 9 (0, 0)) ∧ wr.heap[Bv]? = some (.cells #[.int .i64 0] 3 (0, 0)) ∧
   (splitB c s.data.toList).drop i = splitB c r ∧ r.length ≤ s.size ∧ J i wr)) (fun _ wr => match wr.cell? ⟨Bs, 0, none⟩ with | some (.string z) => z.size | _ => 0)
 case atStart => exact ⟨0, s.data.toList, HC1.out, by simpa using HC2.out, HC3.out, by simp, by simp, h0⟩
 case round =>
  obtain ⟨i, r, H⟩ := hrel
  obtain ⟨d1, d2, d3, hd, hrs, hj⟩ := H.out
  have k1 : wr.cell? ⟨Bsep, 0, none⟩ = some (.string ⟨#[c]⟩) := by simp [World.cell?, d1]
  have k2 : wr.cell? ⟨Bs, 0, none⟩ = some (.string ⟨r.toArray⟩) := by simp [World.cell?, d2]
  have k3 : wr.cell? ⟨Bv, 0, none⟩ = some (.int .i64 0) := by simp [World.cell?, d3]
  have f2 : wr.frozen? ⟨Bs, 0, none⟩ = false := by simp [World.frozen?, d2]
  have D1 := Lib.hid d1; have D2 := Lib.hid d2; have D3 := Lib.hid d3; have HD := Lib.hid hd
  clear d1 d2 d3 hd
  by_cases hn : Lib.indexByte r c < 0
  ·have hpart : (splitB c s.data.toList)[i]? = some r := by
    have e := HD.out
    have hm : Lib.indexByte r c = -1 := by have := Lib.indexByte_ge r c; omega
    rw [splitB_none hm] at e
    have := congrArg (fun z : List (List UInt8) => z[0]?) e
    simpa using this
   have hlen : i + 1 = (splitB c s.data.toList).length := by
    have e := HD.out
    have hm : Lib.indexByte r c = -1 := by have := Lib.indexByte_ge r c; omega
    rw [splitB_none hm] at e
    have := congrArg List.length e
    simp at this; omega
   have HL := Lib.hid hlen
   clear hlen
   obtain ⟨fn, tmps, assign, body, hy, hR⟩ := hY i r wr hpart hj
   clear hpart
   gi_wp2_with fail
   refine (hix _ r c _).mono ?_
   rintro e w' ⟨rfl, he⟩
   obtain rfl : wr = w' := he.symm
   clear he
   gi_wp2_with fail
   refine hR.mono ?_
   rintro e W3 (⟨rfl, hJ3, hk3⟩ | ⟨rfl, hJx3⟩ | ⟨ch, rfl, hp⟩)
   ·gi_wp2
    go_end0
    exact .inl ⟨rfl, .inl (by rw [← HL.out]; exact hJ3)⟩
   ·gi_wp2
    go_end0
    exact .inl ⟨rfl, .inr hJx3⟩
   ·gi_wp2
    exact ⟨rfl, .inr ⟨ch, rfl, hp⟩⟩
  ·obtain ⟨n, hin⟩ : ∃ n : Nat, Lib.indexByte r c = (n : Int) := ⟨(Lib.indexByte r c).toNat, by omega⟩
   obtain ⟨hnl, hsp⟩ := splitB_some hin
   have hpart : (splitB c s.data.toList)[i]? = some (r.take n) := by
    have e := HD.out
    rw [hsp] at e
    have := congrArg (fun z : List (List UInt8) => z[0]?) e
    simpa using this
   have hdrop : (splitB c s.data.toList).drop (i + 1) = splitB c (r.drop (n + 1)) := by
    have e := HD.out
    rw [hsp] at e
    have := congrArg List.tail e
    simpa [List.tail_drop] using this
   have hex : ∀ a b : Nat, (⟨r.toArray⟩ : ByteArray).extract a b = ⟨((r.take b).drop a).toArray⟩ := fun a b => extract_eq r a b
   have HDR := Lib.hid hdrop
   have HEX := Lib.hid hex
   have HIN := Lib.hid hin
   have HSP := Lib.hid hsp
   clear hdrop hex hsp
   obtain ⟨fn, tmps, assign, body, hy, hR⟩ := hY i (r.take n) wr hpart hj
   clear hpart
   clear hin hn
   have hsz : r.length ≤ 140737488355328 := by omega
   have hszb : (⟨r.toArray⟩ : ByteArray).size = r.length := by simp [ByteArray.size]
   have HSZ := Lib.hid hszb
   clear hszb
   have hn0 : ¬ (n : Int) < 0 := by omega
   gi_wp2_with fail
   refine (hix _ r c _).mono ?_
   rintro e w' ⟨rfl, he⟩
   obtain rfl : wr = w' := he.symm
   clear he
   rw [HIN.out]
   have e0 : (⟨(r.take n).toArray⟩ : ByteArray) = (⟨r.toArray⟩ : ByteArray).extract 0 n := by rw [HEX.out 0 n]; rfl
   rw [e0] at hy
   clear e0
   gi_wp2_with fail
   refine hR.mono ?_
   rintro e W3 (⟨rfl, hJ3, hk3⟩ | ⟨rfl, hJx3⟩ | ⟨ch, rfl, hp⟩)
   ·clear k1 k2 k3 f2
    have d1 := hk3.1.trans D1.out
    have d2 := hk3.2.1.trans D2.out
    have d3 := hk3.2.2.trans D3.out
    clear hk3
    have k1 : W3.cell? ⟨Bsep, 0, none⟩ = some (.string ⟨#[c]⟩) := by simp [World.cell?, d1]
    have k2 : W3.cell? ⟨Bs, 0, none⟩ = some (.string ⟨r.toArray⟩) := by simp [World.cell?, d2]
    have f2 : W3.frozen? ⟨Bs, 0, none⟩ = false := by simp [World.frozen?, d2]
    have E1 := Lib.hid d1; have E2 := Lib.hid d2; have E3 := Lib.hid d3
    clear d1 d2 d3
    gi_wp2
    go_roundw
    case rel =>
     have hx : (⟨r.toArray⟩ : ByteArray).extract (n + 1) r.length = ⟨(r.drop (n + 1)).toArray⟩ := by rw [HEX.out]; simp
     refine ⟨i + 1, r.drop (n + 1), ⟨?_, ?_, ?_, HDR.out, ?_, ?_⟩⟩
     ·exact (Below.heap_setCell W3 _ _ _ h12).trans E1.out
     ·rw [hx]; exact heap_set_one E2.out _
     ·exact (Below.heap_setCell W3 _ _ _ h13).trans E3.out
     ·simp; omega
     ·exact hJ _ _ _ hJ3
    case measure =>
     have hx : (⟨r.toArray⟩ : ByteArray).extract (n + 1) r.length = ⟨(r.drop (n + 1)).toArray⟩ := by rw [HEX.out]; simp
     rw [hx, cell_of_one' (heap_set_one E2.out _), cell_of_one' D2.out]
     simp [ByteArray.size]; omega
   ·gi_wp2
    refine bodyPost_ret (results_none rfl _ _ _) rfl ?_
    exact .inl ⟨rfl, .inr hJx3⟩
   ·gi_wp2
    exact ⟨rfl, .inr ⟨ch, rfl, hp⟩⟩
end Go.Proofs.YtmgbaefgcdglpaaGreatDoor.Acl
/- A range over a function whose pieces are known in their order: the loop's body may go on, leave, or panic; what the caller owes is its own invariant and one walk of its body. -/
namespace Go.Proofs.YtmgbaefgcdglpaaGreatDoor.Acl
open Go.RowKit
variable {F : Fence} {P : Program} {n : Nat}
def roundEnd (P : Program) (l : Nat) (R : Ending → World → Prop) : Exit → Act → World → Prop
 | .panic ch, a, w => a.defers = [] ∧ R (.panicked ch) w
 | e, a, w => roundPost P l R e a w
theorem round_walked {l : Nat} {f : FuncId} {tmps : Array Value} {assign body : Code} {w : World} {R : Ending → World → Prop} (hF : F.fn f) (hfn : (∃ ch w, R (.panicked ch) w) → ∃ fn, P.funcs[f]? = some fn)
  (h : assign.wpIn (F.inRound l) n P (Exit.then (fun a₁ w₁ => ∃ w₂, (Instr.beginRound l).run P w₁ = .ok () w₂ ∧ body.wpIn (F.inRound l) n P (roundEnd P l R) a₁ w₂) (fun _ _ _ => False))
   { tmps := tmps, defers := [] } w) :
  RoundIn F n P l f tmps assign body w R := by
 refine ⟨hF, fun c cs hr => ?_⟩
 obtain ⟨b, hb⟩ : ∃ b : Frame, b = { (default : Frame) with fn := f, kind := .normal, roundOf := some l } := ⟨_, rfl⟩
 have hbf : b.fn = f := by rw [hb]
 have hbr : b.roundOf = some l := by rw [hb]
 have hbk : b.kind = .normal := by rw [hb]
 have hfr : Frame.round l f tmps assign body .normal = b.atR { tmps := tmps, defers := [] } [.code assign, .beginRound, .code body] := by
  rw [hb]; simp [Frame.round, Frame.atR]
 have hroom : (F.inRound l).room ((c :: cs).length + 1 + n) := hr
 have hin : (F.inRound l).fn b.fn := by rw [hbf]; exact hF
 obtain ⟨e, a₁, w₁, hq, harr⟩ := h b [.beginRound, .code body] (c :: cs) hbr hin hroom
 rw [← hfr] at harr
 cases e with
 | normal =>
  obtain ⟨w₂, hbeg, hbody⟩ := hq
  have s1 : StepsIn (Machine.fenced P (F.inRound l)) P (lone (b.atR a₁ [.beginRound, .code body]) (c :: cs) w₁) (lone (b.atR a₁ [.code body]) (c :: cs) w₂) :=
   .one (fenced_calm (fr := b.atR a₁ [.beginRound, .code body]) hin hroom rfl) (stepR_beginRound hbr hbeg)
  obtain ⟨e₂, a₂, w₃, hq₂, harr₂⟩ := hbody b [] (c :: cs) hbr hin hroom
  have s2 := StepsIn.trans harr s1
  cases e₂ with
  | normal =>
   obtain ⟨v, w₄, hend, hR⟩ := hq₂
   exact ⟨.returned v, w₄, hR, s2.trans (StepsIn.trans harr₂ (.one (fenced_calm (fr := b.atR a₂ []) hin hroom rfl) (stepR_round_end hbr hbk hend)))⟩
  | ret =>
   obtain ⟨v, w₄, hend, hR⟩ := hq₂
   obtain ⟨k₁, hs⟩ := harr₂.2 (by rw [hbr]; rfl)
   exact ⟨.returned v, w₄, hR, s2.trans (StepsIn.trans hs (.one (fenced_calm (fr := b.atR a₂ (.code .ret :: k₁)) hin hroom rfl) (stepR_round_ret hbr hbk hend)))⟩
  | exit id =>
   obtain ⟨v, w₄, hend, hR⟩ := hq₂
   obtain ⟨k₁, hk, hs⟩ := harr₂.2 (by rw [hbr]; rfl) rfl
   exact ⟨.returned v, w₄, hR, s2.trans (StepsIn.trans hs (.one (fenced_calm (fr := b.atR a₂ (.code (.exit id) :: k₁)) hin hroom rfl) (stepR_round_exit hbr hbk hk hend)))⟩
  | goto t =>
   obtain ⟨v, w₄, hend, hR⟩ := hq₂
   obtain ⟨k₁, hk, hs⟩ := harr₂.2 (by rw [hbr]; rfl) rfl
   exact ⟨.returned v, w₄, hR, s2.trans (StepsIn.trans hs (.one (fenced_calm (fr := b.atR a₂ (.code (.goto t) :: k₁)) hin hroom rfl) (stepR_round_goto hbr hbk hk hend)))⟩
  | panic ch =>
   obtain ⟨hd, hR⟩ := hq₂
   obtain ⟨todo, hs⟩ := harr₂
   obtain ⟨fn, hfn⟩ := hfn ⟨ch, w₃, hR⟩
   have hl : ({ b.atR a₂ todo with mode := .panicking ch } : Frame).leaving P w₃ (.panicked ch) := ⟨rfl, hd, fn, by show P.funcs[b.fn]? = some fn; rw [hbf]; exact hfn⟩
   have hab : ({ b.atR a₂ todo with mode := .panicking ch } : Frame).about P w₃ = none := by simp [Frame.about, Frame.atR, hd]
   exact ⟨.panicked ch, w₃, hR, s2.trans (StepsIn.trans hs (.one (fenced_calm (fr := { b.atR a₂ todo with mode := .panicking ch }) hin hroom hab) (step_leave_panicked hl)))⟩
  | outgrown => exact hq₂.elim
 | exit id => exact hq.elim
 | goto t => exact hq.elim
 | ret => exact hq.elim
 | panic ch => exact hq.elim
 | outgrown => exact hq.elim
def IterKnown (F : Fence) (P : Program) (m gf : Nat) (lb : Array Value) (encs : List (Array Value)) (keep aside : World → World → Prop) (W0 : World) : Prop :=
 ∀ (l : Nat) (J : Nat → World → Prop) (Jx : World → Prop) (Jp : List PanicEntry → World → Prop),
  (∀ i W W', J i W → aside W W' → J i W') →
  (∀ i x W1, encs[i]? = some x → J i W1 → YieldAt F (m - 1) P l x W1 fun e W' =>
   (e = .returned (.bool true) ∧ J (i + 1) W' ∧ keep W1 W') ∨ (e = .returned (.bool false) ∧ Jx W') ∨ (∃ ch, e = .panicked ch ∧ Jp ch W')) →
  ∀ W, keep W0 W → J 0 W → CallsIn F m P gf (#[.func (.yield l) #[] #[]] ++ lb) W fun e W' =>
   ((∃ v, e = .returned v) ∧ (J encs.length W' ∨ Jx W')) ∨ (∃ ch, e = .panicked ch ∧ Jp ch W')
def bodyEnd (B : Nat) (keep : World → World → Prop) (I : Nat → World → Prop) (Ix : Code → World → Prop) (Ip : List PanicEntry → World → Prop) (i : Nat) (W : World) : Exit → Act → World → Prop
 | .normal, _, W' => KeepsFrom B W W' ∧ keep W W' ∧ I (i + 1) W'
 | .ret, _, W' => KeepsFrom B W W' ∧ Ix .ret W'
 | .exit id, _, W' => KeepsFrom B W W' ∧ Ix (.exit id) W'
 | .goto t, _, W' => KeepsFrom B W W' ∧ Ix (.goto t) W'
 | .panic ch, a, W' => a.defers = [] ∧ KeepsFrom B W W' ∧ Ip ch W'
 | .outgrown, _, _ => False
def Turns (B : Nat) (I : World → Prop) : Prop := ∀ W l o o', I W → B ≤ l → W.heap[l]? = some o → o.isCells = false → I (W.putObj l o')
theorem range_known (hro : F.round = none) (hde : F.depth = none) {g : Operand} {ps : Array Tmp} {assign body : Code} {Q : Exit → Act → World → Prop} {a : Act} {w : World}
  {gf : Nat} {lb : Array Value} (hg : a.eval g = .func (.func gf) #[] lb) (hFg : F.fn gf) (eg : ∀ args w, (callFunc gf args).run P w = .ok (.enter gf args) w)
  {encs : List (Array Value)} {keep aside : World → World → Prop} (hit : IterKnown F P (n - 1) gf lb encs keep aside w)
  (hkt : ∀ A B C, keep A B → keep B C → keep A C) (hka : ∀ A o, w.heap.size ≤ A.heap.size → keep A (A.alloc o)) (hkp : ∀ W l o o', w.heap.size ≤ l → W.heap[l]? = some o → o.isCells = false → keep W (W.putObj l o'))
  (hao : ∀ W W' (k : Nat) (o : Obj), aside W W' → w.heap.size ≤ k → W.heap[k]? = some o → o.isCells = false → W'.heap[k]? = some o)
  (hps : ∀ x ∈ encs, x.size = ps.size)
  (I : Nat → World → Prop) (Ix : Code → World → Prop) (Ip : List PanicEntry → World → Prop) (hfun : (∃ ch W, Ip ch W) → ∀ f, F.fn f → ∃ fn, P.funcs[f]? = some fn)
  (hI : ∀ i, Turns w.heap.size (I i)) (hIx : ∀ c, Turns w.heap.size (Ix c)) (hIa : ∀ i W W', I i W → aside W W' → I i W')
  (h0 : ∀ o o', I 0 ((w.alloc o).alloc o')) (a₁ : Nat → Act)
  (hassign : ∀ (l i : Nat) (x : Array Value) (W : World) (K : Act → World → Prop), encs[i]? = some x → K (a₁ i) W →
   assign.wpIn (F.inRound l) (n - 1 - 1) P (Exit.then K (fun _ _ _ => False)) { tmps := (ps.zip x).foldl (fun t (p, v) => t.setIfInBounds p v) a.tmps, defers := [] } W)
  (hbody : ∀ (l i : Nat) (W : World), i < encs.length → I i W → body.wpIn (F.inRound l) (n - 1 - 1) P (bodyEnd w.heap.size keep I Ix Ip i W) (a₁ i) W)
  (hdone : ∀ (D : Nat) (W : World), w.heap.size ≤ D → I encs.length W → W.heap[D]? = some (.deferred (some [])) → Q .normal { a with defers := { target := .collected D, args := #[] } :: a.defers } W)
  (hstop : ∀ (D : Nat) (c : Code) (W : World), w.heap.size ≤ D → Ix c W → W.heap[D]? = some (.deferred (some [])) → c.wpIn F n P Q { a with defers := { target := .collected D, args := #[] } :: a.defers } W)
  (hpanic : ∀ (D : Nat) (ch : List PanicEntry) (W : World), w.heap.size ≤ D → Ip ch W → W.heap[D]? = some (.deferred (some [])) → Q (.panic ch) { a with defers := { target := .collected D, args := #[] } :: a.defers } W) :
  (Code.rangeFunc g ps assign body).wpIn F n P Q a w := by
 refine wpIn_rangeFunc ?_
 intro fn hfn
 rw [hro]
 obtain ⟨rec, hrec⟩ : ∃ rec : LoopState → Option Code → Loop, rec = fun st pe => { state := st, pending := pe, fn, tmps := a.tmps, params := ps, assign, body, defers := w.heap.size } := ⟨_, rfl⟩
 obtain ⟨W1, hW1⟩ : ∃ W1, (w.alloc (.deferred (some []))).alloc (.loop (rec .ready none)) = W1 := ⟨_, rfl⟩
 have hL1 : W1.heap[w.heap.size + 1]? = some (.loop (rec .ready none)) := by
  rw [← hW1]; have := World.alloc_heap_new (w.alloc (.deferred (some []))) (.loop (rec .ready none)); rwa [World.size_alloc] at this
 have hK1 : W1.heap[w.heap.size]? = some (.deferred (some [])) := by
  rw [← hW1]; exact (Below.heap_alloc _ _ _ (by simp)).trans (World.alloc_heap_new w _)
 have hI1 : I 0 W1 := by rw [← hW1]; exact h0 _ _
 have hkeep1 : keep w W1 := by rw [← hW1]; exact hkt _ _ _ (hka _ _ (Nat.le_refl _)) (hka _ _ (by simp))
 refine ⟨w.heap.size + 1, [{ target := .collected w.heap.size, args := #[] }], W1, { target := .fn (.func gf) lb, args := #[.func (.yield (w.heap.size + 1)) #[] #[]] }, W1, gf,
  #[.func (.yield (w.heap.size + 1)) #[] #[]] ++ lb, W1, ?_, ?_, ?_, ?_, (fun h => by rw [hde] at h; cases h), ?_⟩
 ·rw [← hW1, hrec]; exact run_enterLoop_outer _ _ _ _ _
 ·simp only [resolve, hg]
  simp [go_sem]
 ·intro f' hf'; simp [Target.leads] at hf'; subst hf'; exact hFg
 ·simp [invoke, go_sem, eg]
 ·refine (hit (w.heap.size + 1)
   (fun i W => I i W ∧ W.heap[w.heap.size + 1]? = some (.loop (rec .ready none)) ∧ W.heap[w.heap.size]? = some (.deferred (some [])))
   (fun W => ∃ c, Ix c W ∧ W.heap[w.heap.size + 1]? = some (.loop (rec .done (some c))) ∧ W.heap[w.heap.size]? = some (.deferred (some [])))
   (fun ch W => Ip ch W ∧ W.heap[w.heap.size]? = some (.deferred (some [])))
   (fun i W W' hs ha => ⟨hIa i W W' hs.1 ha, hao W W' _ _ ha (by omega) hs.2.1 rfl, hao W W' _ _ ha (by omega) hs.2.2 rfl⟩)
   ?_ W1 hkeep1 ⟨hI1, hL1, hK1⟩).mono ?_
  ·-- one round
   rintro i x W hix ⟨hi, hl, hk⟩
   have hlt : w.heap.size + 1 < W.heap.size := (Array.getElem?_eq_some_iff.1 hl).1
   have hy := run_yield (P := P) (args := x) hl (by rw [hrec]; exact hps x (List.mem_of_getElem? hix))
   rw [hrec] at hy
   refine ⟨fn, _, assign, body, hy, round_walked hfn ?_ (hassign _ i x W _ hix ⟨_, run_beginRound hl (by rw [hrec]), ?_⟩)⟩
   ·rintro ⟨ch, W2, h⟩
    rcases h with ⟨h, _⟩ | ⟨h, _⟩ | ⟨ch', _, h, _⟩
    ·cases h
    ·cases h
    ·exact hfun ⟨ch', W2, h⟩ fn hfn
   have hl2 : (W.putObj (w.heap.size + 1) (.loop { rec .ready none with state := .busy })).heap[w.heap.size + 1]? = some (.loop { rec .ready none with state := .busy }) := World.putObj_heap_same hlt
   have hk2 : (W.putObj (w.heap.size + 1) (.loop { rec .ready none with state := .busy })).heap[w.heap.size]? = some (.deferred (some [])) := (World.putObj_heap_other (by omega)).trans hk
   have hw2 : keep W (W.putObj (w.heap.size + 1) (.loop { rec .ready none with state := .busy })) := hkp _ _ _ _ (by omega) hl rfl
   refine wpIn_mono (hbody _ i _ (List.getElem?_eq_some_iff.1 hix).1 (hI i _ _ _ _ hi (by omega) hl rfl)) ?_
   have fin : ∀ (jump : Option Code) (W3 : World), KeepsFrom w.heap.size (W.putObj (w.heap.size + 1) (.loop { rec .ready none with state := .busy })) W3 →
     (Instr.endRound (w.heap.size + 1) jump).run P W3 = .ok (.bool jump.isNone) (W3.putObj (w.heap.size + 1) (.loop (rec (if jump.isNone then .ready else .done) jump))) ∧
     W3.heap[w.heap.size + 1]? = some (.loop { rec .ready none with state := .busy }) ∧
     (W3.putObj (w.heap.size + 1) (.loop (rec (if jump.isNone then .ready else .done) jump))).heap[w.heap.size + 1]? = some (.loop (rec (if jump.isNone then .ready else .done) jump)) ∧
     (W3.putObj (w.heap.size + 1) (.loop (rec (if jump.isNone then .ready else .done) jump))).heap[w.heap.size]? = some (.deferred (some [])) := fun jump W3 hk3 => by
    have hl3 := hk3.same _ _ (by omega) hl2 rfl
    have := run_endRound (P := P) jump hl3
    rw [hrec] at this ⊢
    exact ⟨this, by rw [hrec] at hl3; exact hl3, World.putObj_heap_same (Array.getElem?_eq_some_iff.1 hl3).1, (World.putObj_heap_other (by omega)).trans (hk3.same _ _ (Nat.le_refl _) hk2 rfl)⟩
   rintro e a3 W3 hp
   cases e with
   | normal =>
    obtain ⟨hk3, hkp3, hi3⟩ := hp
    obtain ⟨hr, hl3, hl4, hk4⟩ := fin none W3 hk3
    exact ⟨_, _, hr, .inl ⟨rfl, ⟨hI _ _ _ _ _ hi3 (by omega) hl3 rfl, hl4, hk4⟩, hkt _ _ _ (hkt _ _ _ hw2 hkp3) (hkp _ _ _ _ (by omega) hl3 rfl)⟩⟩
   | ret =>
    obtain ⟨hk3, hi3⟩ := hp
    obtain ⟨hr, hl3, hl4, hk4⟩ := fin (some .ret) W3 hk3
    exact ⟨_, _, hr, .inr (.inl ⟨rfl, .ret, hIx _ _ _ _ _ hi3 (by omega) hl3 rfl, hl4, hk4⟩)⟩
   | exit id =>
    obtain ⟨hk3, hi3⟩ := hp
    obtain ⟨hr, hl3, hl4, hk4⟩ := fin (some (.exit id)) W3 hk3
    exact ⟨_, _, hr, .inr (.inl ⟨rfl, .exit id, hIx _ _ _ _ _ hi3 (by omega) hl3 rfl, hl4, hk4⟩)⟩
   | goto t =>
    obtain ⟨hk3, hi3⟩ := hp
    obtain ⟨hr, hl3, hl4, hk4⟩ := fin (some (.goto t)) W3 hk3
    exact ⟨_, _, hr, .inr (.inl ⟨rfl, .goto t, hIx _ _ _ _ _ hi3 (by omega) hl3 rfl, hl4, hk4⟩)⟩
   | panic ch =>
    obtain ⟨hd, hk3, hi3⟩ := hp
    exact ⟨hd, .inr (.inr ⟨ch, rfl, hi3, hk3.same _ _ (Nat.le_refl _) hk2 rfl⟩)⟩
   | outgrown => exact hp.elim
  ·-- behind the iterator
   rintro e W2 (⟨⟨v, rfl⟩, (⟨hi, hl, hk⟩ | ⟨c, hi, hl, hk⟩)⟩ | ⟨ch, rfl, hi, hk⟩)
   ·exact ⟨none, _, by have := run_endLoop (P := P) hl (by rw [hrec]; simp); rw [hrec] at this; exact this, hdone _ _ (Nat.le_refl _) (hI _ _ _ _ _ hi (by omega) hl rfl) ((World.putObj_heap_other (by omega)).trans hk)⟩
   ·exact ⟨some c, _, by have := run_endLoop (P := P) hl (by rw [hrec]; simp); rw [hrec] at this; exact this, hstop _ c _ (Nat.le_refl _) (hIx c _ _ _ _ hi (by omega) hl rfl) ((World.putObj_heap_other (by omega)).trans hk)⟩
   ·exact hpanic _ ch _ (Nat.le_refl _) hi hk
end Go.Proofs.YtmgbaefgcdglpaaGreatDoor.Acl
/- strings.Index at a separator of one byte, and strings.SplitSeq's making of its iterator, inside a fence of functions. -/
namespace Go.Proofs.YtmgbaefgcdglpaaGreatDoor.Acl
open Go.RowKit Go.Shelf Go.Proofs
attribute [local go_sem] Oper.semAt_some
variable {F : Fence} {m : Nat}
set_option maxRecDepth 100000 in
theorem byte_in (hro : F.round = none) (h74 : F.fn 205) (h81 : F.fn 214) (s : ByteArray) (c : Int) (w : World) :
  CallsIn F m Tryz.prog 205 #[.string s, .int .u8 c] w fun e w' => e = .returned (.int .i64 (Lib.indexByte s.data.toList c.toNat.toUInt8)) ∧ w' = w := by
 refine callsIn_of_wp Tryz.func205 rfl h74 ?_ hro
 simp only [Tryz.ntmps205, List.size_toArray, List.length_cons, List.length_nil, Nat.reduceAdd, Nat.reduceSub, Array.replicate_succ, Array.replicate_zero, List.push_toArray, List.append_toArray, List.nil_append, List.cons_append]
 gi_wp2
 rw [run_callFunc_extern Tryz.func214 (by kernel_rfl) (by kernel_rfl) (by kernel_rfl) (e := Extern.BytealgIndexByte.indexByte) (by kernel_rfl), Lib.run_indexByteString]
 simp only [Result.andThen]
 rw [Oper.uponIn_value]
 gi_wp2
 go_ret
 exact ⟨rfl, rfl⟩
set_option maxHeartbeats 1000000 in
set_option maxRecDepth 100000 in
theorem lite_in (hro : F.round = none) (hde : F.depth = none) (h66 : F.fn 188) (h74 : F.fn 205) (h81 : F.fn 214) (r : List UInt8) (c : UInt8) (w : World) :
  CallsIn F m Tryz.prog 188 #[.string ⟨r.toArray⟩, .string ⟨#[c]⟩] w fun e w' => e = .returned (.int .i64 (Lib.indexByte r c)) ∧ w' = w := by
 refine callsIn_of_wp Tryz.func188 rfl h66 ?_ hro
 simp only [Tryz.ntmps188, List.size_toArray, List.length_cons, List.length_nil, Nat.reduceAdd, Nat.reduceSub, Array.replicate_succ, Array.replicate_zero, List.push_toArray, List.append_toArray, List.nil_append, List.cons_append]
 gi_wp2_with fail
 ·have e : [c] = r := by simpa using (by assumption : ([c] == r) = true)
  go_ret
  refine ⟨?_, rfl⟩
  rw [← e]
  simp [Lib.indexByte]
 ·refine (byte_in hro h74 h81 _ _ _).mono ?_
  rintro e w' ⟨rfl, he⟩
  obtain rfl : w = w' := he.symm
  gi_wp2
  go_ret
  refine ⟨?_, rfl⟩
  simp
  rfl
theorem index_in (hro : F.round = none) (hde : F.depth = none) (h49 : F.fn 153) (h66 : F.fn 188) (h74 : F.fn 205) (h81 : F.fn 214) (r : List UInt8) (c : UInt8) (w : World) :
  CallsIn F m Tryz.prog 153 #[.string ⟨r.toArray⟩, .string ⟨#[c]⟩] w fun e w' => e = .returned (.int .i64 (Lib.indexByte r c)) ∧ w' = w := by
 refine callsIn_of_wp Tryz.func153 rfl h49 ?_ hro
 simp only [Tryz.ntmps153, List.size_toArray, List.length_cons, List.length_nil, Nat.reduceAdd, Nat.reduceSub, Array.replicate_succ, Array.replicate_zero, List.push_toArray, List.append_toArray, List.nil_append, List.cons_append]
 gi_wp2_with fail
 refine (lite_in hro hde h66 h74 h81 _ _ _).mono ?_
 rintro e w' ⟨rfl, he⟩
 obtain rfl : w = w' := he.symm
 gi_wp2
 go_ret
 exact ⟨rfl, rfl⟩
theorem split_in (hro : F.round = none) (h42 : F.fn 110) (s sep : ByteArray) (w : World) :
  CallsIn F m Tryz.prog 110 #[.string s, .string sep, .int .i64 0] w fun e w' =>
   e = .returned (.func (.func 151) #[] #[.pointer (some ⟨w.heap.size + 1, 0, none⟩), .pointer (some ⟨w.heap.size, 0, none⟩), .pointer (some ⟨w.heap.size + 2, 0, none⟩)]) ∧
   ((w.alloc (.cells #[.string s] 9)).alloc (.cells #[.string sep] 9)).alloc (.cells #[.int .i64 0] 3) = w' := by
 have hmf : ∀ (fn : Fn) (first cap : Array Value) (w : World), (Instr.makeFunc fn first cap).run Tryz.prog w = .ok (.func fn first cap) w := fun _ _ _ _ => rfl
 refine callsIn_of_wp Tryz.func110 rfl h42 ?_ hro
 simp only [Tryz.ntmps110, List.size_toArray, List.length_cons, List.length_nil, Nat.reduceAdd, Nat.reduceSub, Array.replicate_succ, Array.replicate_zero, List.push_toArray, List.append_toArray, List.nil_append, List.cons_append]
 gi_wp2
 go_ret
 exact ⟨rfl, rfl⟩
theorem seq_in (hro : F.round = none) (hde : F.depth = none) (h26 : F.fn 56) (h42 : F.fn 110) (s sep : ByteArray) (w : World) :
  CallsIn F m Tryz.prog 56 #[.string s, .string sep] w fun e w' =>
   e = .returned (.func (.func 151) #[] #[.pointer (some ⟨w.heap.size + 1, 0, none⟩), .pointer (some ⟨w.heap.size, 0, none⟩), .pointer (some ⟨w.heap.size + 2, 0, none⟩)]) ∧
   ((w.alloc (.cells #[.string s] 9)).alloc (.cells #[.string sep] 9)).alloc (.cells #[.int .i64 0] 3) = w' := by
 refine callsIn_of_wp Tryz.func56 rfl h26 ?_ hro
 simp only [Tryz.ntmps56, List.size_toArray, List.length_cons, List.length_nil, Nat.reduceAdd, Nat.reduceSub, Array.replicate_succ, Array.replicate_zero, List.push_toArray, List.append_toArray, List.nil_append, List.cons_append]
 gi_wp2_with fail
 refine (split_in hro h42 s sep _).mono ?_
 rintro e w' ⟨rfl, rfl⟩
 gi_wp2
 go_ret
 exact ⟨rfl, rfl⟩
theorem must_in_yes (hro : F.round = none) (h44 : F.fn 112) (w : World) : CallsIn F m Tryz.prog 112 #[.bool true] w fun e w' => e = .returned (.tuple #[]) ∧ w' = w := by
 refine callsIn_of_wp Tryz.func112 rfl h44 ?_ hro
 simp only [Tryz.ntmps112, List.size_toArray, List.length_cons, List.length_nil, Nat.reduceAdd, Nat.reduceSub, Array.replicate_succ, Array.replicate_zero, List.push_toArray, List.append_toArray, List.nil_append, List.cons_append]
 gi_wp2
 go_end0
 exact ⟨rfl, rfl⟩
theorem must_in_no (hro : F.round = none) (h44 : F.fn 112) (w : World) : CallsIn F m Tryz.prog 112 #[.bool false] w fun e w' => e = .panicked [{ v := wrongV, recovered := false }] ∧ w' = w := by
 have hu := Tryz.underlying152
 refine callsIn_of_wp Tryz.func112 rfl h44 ?_ hro
 simp only [Tryz.ntmps112, List.size_toArray, List.length_cons, List.length_nil, Nat.reduceAdd, Nat.reduceSub, Array.replicate_succ, Array.replicate_zero, List.push_toArray, List.append_toArray, List.nil_append, List.cons_append]
 gi_wp2
 exact ⟨rfl, rfl, rfl⟩
end Go.Proofs.YtmgbaefgcdglpaaGreatDoor.Acl
/- acl.nodes: the bits of a word, or the package's own panic, for every word. -/
namespace Go.Proofs.YtmgbaefgcdglpaaGreatDoor.Acl
open Go.RowKit Go.Shelf Go.Proofs
attribute [local go_sem] Oper.semAt_some
def digitOf : List UInt8 → Option Nat
 | [d] => if 49 ≤ d.toNat ∧ d.toNat ≤ 56 then some (d.toNat - 48) else none
 | _ => none
def bitsOf : List (List UInt8) → Int → Option Int
 | [], out => some out
 | p :: r, out => match digitOf p with
  | none => none
  | some k => if Go.bits .and .i64 out (wrap64 (2 ^ k)) = 0 then bitsOf r (Go.bits .or .i64 out (wrap64 (2 ^ k))) else none
def nodesOf (s : List UInt8) : Option Int := if s = [42] then some 510 else bitsOf (splitB 44 s) 0
def FN : Fence := Fence.list [56, 110, 112, 113, 153, 151, 188, 205, 214] none
def NodesEnd (s : List UInt8) (e : Ending) : Prop :=
 match nodesOf s with
 | some b => e = .returned (.int .i64 b)
 | none => e = .panicked [{ v := wrongV, recovered := false }]
theorem FN_in (k : Nat) (h : k ∈ [56, 110, 112, 113, 153, 151, 188, 205, 214]) : FN.fn k := h
theorem iter59 {F : Fence} (hro : F.round = none) (hde : F.depth = none) (h59 : F.fn 151) (h49 : F.fn 153)
  (hix : ∀ (m : Nat) (r : List UInt8) (c : UInt8) (w : World), CallsIn F m Tryz.prog 153 #[.string ⟨r.toArray⟩, .string ⟨#[c]⟩] w fun e w' => e = .returned (.int .i64 (Lib.indexByte r c)) ∧ w' = w)
  (m Bsep Bs Bv : Nat) (h12 : Bsep ≠ Bs) (h13 : Bv ≠ Bs) (c : UInt8) (s : List UInt8) (hs : s.length ≤ 140737488355328) (W0 : World)
  (hc1 : W0.heap[Bsep]? = some (.cells #[.string ⟨#[c]⟩] 9 (0, 0))) (hc2 : W0.heap[Bs]? = some (.cells #[.string ⟨s.toArray⟩] 9 (0, 0))) (hc3 : W0.heap[Bv]? = some (.cells #[.int .i64 0] 3 (0, 0))) :
  IterKnown F Tryz.prog m 151 #[.pointer (some ⟨Bsep, 0, none⟩), .pointer (some ⟨Bs, 0, none⟩), .pointer (some ⟨Bv, 0, none⟩)] ((splitB c s).map fun x => #[.string ⟨x.toArray⟩]) (keep3 Bsep Bs Bv) (fun W W' => ∃ v, W' = W.setCell ⟨Bs, 0, none⟩ v) W0 := by
 intro l J Jx Jp hJ hY W hk h0
 refine (seq59 F hro hde h59 h49 hix m l Bsep Bs Bv h12 h13 c ⟨s.toArray⟩ (by simpa [ByteArray.size] using hs) J Jx Jp (fun i W v h => hJ i W _ h ⟨v, rfl⟩) (fun i x W1 hx hj => hY i _ W1 (by rw [List.getElem?_map, hx]; rfl) hj) W (hk.1.trans hc1) (hk.2.1.trans hc2) (hk.2.2.trans hc3) h0).mono ?_
 rintro e W' (⟨rfl, h⟩ | h)
 ·exact .inl ⟨⟨_, rfl⟩, by simpa using h⟩
 ·exact .inr h
theorem bits_bad {P : List (List UInt8)} {p : List UInt8} {r : List (List UInt8)} {o : Int} {q : Option Int} (h : P = p :: r) (ho : bitsOf P o = q) (hp : digitOf p = none) : q = none := by
 rw [← ho, h]; simp [bitsOf, hp]
theorem bits_twice {P : List (List UInt8)} {p : List UInt8} {r : List (List UInt8)} {o : Int} {q : Option Int} {k : Nat} (h : P = p :: r) (ho : bitsOf P o = q) (hp : digitOf p = some k) (hb : ¬ Go.bits .and .i64 o (wrap64 (2 ^ k)) = 0) : q = none := by
 rw [← ho, h]; simp [bitsOf, hp, hb]
theorem bits_good {P r : List (List UInt8)} {p : List UInt8} {o : Int} {q : Option Int} {k : Nat} (h : P = p :: r) (ho : bitsOf P o = q) (hp : digitOf p = some k) (hb : Go.bits .and .i64 o (wrap64 (2 ^ k)) = 0) : bitsOf r (Go.bits .or .i64 o (wrap64 (2 ^ k))) = q := by
 rw [← ho, h]; simp [bitsOf, hp, hb]
theorem four0 (w : World) (a b c d : Obj) : ((((w.alloc a).alloc b).alloc c).alloc d).heap[w.heap.size]? = some a :=
 (((Below.heap_alloc _ _ _ (by simp; omega)).trans (Below.heap_alloc _ _ _ (by simp; omega))).trans (Below.heap_alloc _ _ _ (by simp))).trans (World.alloc_heap_new w a)
theorem four1 (w : World) (a b c d : Obj) : ((((w.alloc a).alloc b).alloc c).alloc d).heap[w.heap.size + 1]? = some b := by
 have h := World.alloc_heap_new (w.alloc a) b
 rw [World.size_alloc] at h
 exact ((Below.heap_alloc _ _ _ (by simp)).trans (Below.heap_alloc _ _ _ (by simp))).trans h
theorem four2 (w : World) (a b c d : Obj) : ((((w.alloc a).alloc b).alloc c).alloc d).heap[w.heap.size + 2]? = some c := by
 have h := World.alloc_heap_new ((w.alloc a).alloc b) c
 rw [World.size_alloc, World.size_alloc] at h
 exact (Below.heap_alloc _ _ _ (by simp)).trans h
theorem four3 (w : World) (a b c d : Obj) : ((((w.alloc a).alloc b).alloc c).alloc d).heap[w.heap.size + 3]? = some d := by
 have h := World.alloc_heap_new (((w.alloc a).alloc b).alloc c) d
 rw [World.size_alloc, World.size_alloc, World.size_alloc] at h
 exact h
theorem FN_rows (f : Nat) (hf : FN.fn f) : ∃ fn, Tryz.prog.funcs[f]? = some fn := by
 have h : f ∈ [56, 110, 112, 113, 153, 151, 188, 205, 214] := hf
 simp only [List.mem_cons, List.not_mem_nil, or_false] at h
 rcases h with rfl | rfl | rfl | rfl | rfl | rfl | rfl | rfl | rfl
 ·exact ⟨_, Tryz.func56⟩
 ·exact ⟨_, Tryz.func110⟩
 ·exact ⟨_, Tryz.func112⟩
 ·exact ⟨_, Tryz.func113⟩
 ·exact ⟨_, Tryz.func153⟩
 ·exact ⟨_, Tryz.func151⟩
 ·exact ⟨_, Tryz.func188⟩
 ·exact ⟨_, Tryz.func205⟩
 ·exact ⟨_, Tryz.func214⟩
set_option maxHeartbeats 2000000 in
set_option maxRecDepth 100000 in
theorem nodes_in (m : Nat) (s : List UInt8) (hs : s.length ≤ 140737488355328) (w : World) :
  CallsIn FN m Tryz.prog 113 #[.string ⟨s.toArray⟩] w fun e w' => Below w.heap.size w w' ∧ NodesEnd s e := by
 have hro : FN.round = none := rfl
 have hde : FN.depth = none := rfl
 have h26 : FN.fn 56 := FN_in _ (by decide)
 have h44 : FN.fn 112 := FN_in _ (by decide)
 by_cases h42s : s = [42]
 ·have hb : (s == [42]) = true := by simpa using h42s
  have HS := Lib.hid h42s
  clear h42s
  refine callsIn_of_wp Tryz.func113 rfl (FN_in _ (by decide)) ?_ hro
  simp only [Tryz.ntmps113, List.size_toArray, List.length_cons, List.length_nil, Nat.reduceAdd, Nat.reduceSub, Array.replicate_succ, Array.replicate_zero, List.push_toArray, List.append_toArray, List.nil_append, List.cons_append]
  gi_wp2
  go_ret
  exact ⟨Below.refl _ _, by unfold NodesEnd nodesOf; rw [if_pos HS.out]; rfl⟩
 ·have hb : (s == [42]) = false := by simpa using h42s
  refine callsIn_of_wp_marks Tryz.func113 rfl (FN_in _ (by decide)) ?_ hro
  simp only [Tryz.ntmps113, List.size_toArray, List.length_cons, List.length_nil, Nat.reduceAdd, Nat.reduceSub, Array.replicate_succ, Array.replicate_zero, List.push_toArray, List.append_toArray, List.nil_append, List.cons_append]
  gi_wp2_with fail
  refine (seq_in hro hde h26 (FN_in _ (by decide)) _ _ _).mono ?_
  rintro e w' ⟨rfl, rfl⟩
  gi_wp2_with fail
  obtain ⟨W0, hW0⟩ : ∃ W0, (((w.alloc (.cells #[.int .i64 0] 3)).alloc (.cells #[.string ⟨s.toArray⟩] 9)).alloc (.cells #[.string ⟨#[44]⟩] 9)).alloc (.cells #[.int .i64 0] 3) = W0 := ⟨_, rfl⟩
  rw [hW0]
  have hs0 : W0.heap.size = w.heap.size + 4 := by rw [← hW0]; simp
  have hbel : Below w.heap.size w W0 := by
   rw [← hW0]; exact ((((Below.refl _ w).alloc (Nat.le_refl _) _).alloc (by simp) _).alloc (by simp; omega) _).alloc (by simp; omega) _
  have hc0 : W0.heap[w.heap.size]? = some (.cells #[.int .i64 0] 3 (0, 0)) := by rw [← hW0]; exact four0 _ _ _ _ _
  have hc1 : W0.heap[w.heap.size + 1]? = some (.cells #[.string ⟨s.toArray⟩] 9 (0, 0)) := by rw [← hW0]; exact four1 _ _ _ _ _
  have hc2 : W0.heap[w.heap.size + 2]? = some (.cells #[.string ⟨#[44]⟩] 9 (0, 0)) := by rw [← hW0]; exact four2 _ _ _ _ _
  have hc3 : W0.heap[w.heap.size + 3]? = some (.cells #[.int .i64 0] 3 (0, 0)) := by rw [← hW0]; exact four3 _ _ _ _ _
  clear hW0
  refine range_known (F := FN) (P := Tryz.prog) hro hde (gf := 151) rfl (FN_in _ (by decide)) (enters_of Tryz.func151 (by kernel_rfl) rfl)
   (iter59 hro hde (FN_in _ (by decide)) (FN_in _ (by decide)) (fun m r c w => index_in hro hde (FN_in _ (by decide)) (FN_in _ (by decide)) (FN_in _ (by decide)) (FN_in _ (by decide)) r c w) (m - 1) (w.heap.size + 2) (w.heap.size + 1) (w.heap.size + 3) (by omega) (by omega) 44 s hs W0 hc2 hc1 hc3)
   (fun A B C h k => ⟨k.1.trans h.1, k.2.1.trans h.2.1, k.2.2.trans h.2.2⟩)
   (fun A o hA => ⟨Below.heap_alloc _ _ _ (by omega), Below.heap_alloc _ _ _ (by omega), Below.heap_alloc _ _ _ (by omega)⟩)
   (fun W l o o' hl _ _ => ⟨World.putObj_heap_other (by omega), World.putObj_heap_other (by omega), World.putObj_heap_other (by omega)⟩)
   (fun W W' k o ⟨v, e⟩ hk h ho => by rw [e]; exact (Below.heap_setCell W _ _ _ (by show k ≠ w.heap.size + 1; omega)).trans h)
   (by simp)
   (fun i W => Below w.heap.size w W ∧ ∃ out, Hid (bitsOf ((splitB 44 s).drop i) out = bitsOf (splitB 44 s) 0) ∧ W.heap[w.heap.size]? = some (.cells #[.int .i64 out] 3 (0, 0)))
   (fun _ _ => False) (fun ch W => Below w.heap.size w W ∧ ch = [{ v := wrongV, recovered := false }] ∧ bitsOf (splitB 44 s) 0 = none) (fun _ f hf => FN_rows f hf)
   ?turns (fun c W l o o' h => h.elim) ?aside ?start
   (fun i => { tmps := #[.string ⟨s.toArray⟩, undef, .int .i64 0, .pointer (some ⟨w.heap.size, 0, none⟩), .string ⟨((splitB 44 s).getD i []).toArray⟩, undef, .string ⟨s.toArray⟩, .bool false, .string ⟨s.toArray⟩, .func (.func 151) #[] #[.pointer (some ⟨w.heap.size + 2, 0, none⟩), .pointer (some ⟨w.heap.size + 1, 0, none⟩), .pointer (some ⟨w.heap.size + 3, 0, none⟩)], .string ⟨((splitB 44 s).getD i []).toArray⟩, undef, undef, undef, undef, undef, undef, undef, undef, undef, undef, undef, undef, undef, undef, undef, undef, undef, undef, undef, undef, undef, undef, undef, undef, undef, undef, undef], defers := [] })
   ?assign ?body ?done (fun D c W _ h => h.elim) ?panic
  case turns =>
   rintro i W l o o' ⟨hb1, out, ho, hc⟩ hl hlo hno
   exact ⟨hb1.grown (grownBy_putObj' W l o') (by have := hb1.size; omega) (fun k e => by cases e; omega), out, ho, (World.putObj_heap_other (by omega)).trans hc⟩
  case aside =>
   rintro i W W' ⟨hb1, out, ho, hc⟩ ⟨v, rfl⟩
   exact ⟨hb1.setCell (by show w.heap.size ≤ w.heap.size + 1; omega) _, out, ho, (Below.heap_setCell W _ _ _ (by show w.heap.size ≠ w.heap.size + 1; omega)).trans hc⟩
  case start =>
   intro o o'
   exact ⟨(hbel.alloc (by omega) _).alloc (by simp; omega) _, 0, Lib.hid (by simp), ((Below.heap_alloc _ _ _ (by simp; omega)).trans (Below.heap_alloc _ _ _ (by omega))).trans hc0⟩
  case assign =>
   intro l i x W K hix hK
   have hx : x = #[.string ⟨((splitB 44 s).getD i []).toArray⟩] := by
    rw [List.getElem?_map] at hix
    cases hq : (splitB 44 s)[i]? with
    | none => rw [hq] at hix; cases hix
    | some q => rw [hq] at hix; rw [List.getD_eq_getElem?_getD, hq]; exact (Option.some.inj hix).symm
   rw [hx]
   gi_wp2
   exact hK
  case body =>
   rintro l i W hi ⟨hb1, out, ho, hc⟩
   have hm1 : ∀ m w, CallsIn FN m Tryz.prog 112 #[.bool true] w fun e w' => e = .returned (.tuple #[]) ∧ w' = w := fun m w => must_in_yes hro h44 w
   have hm0 : ∀ m w, CallsIn FN m Tryz.prog 112 #[.bool false] w fun e w' => e = .panicked [{ v := wrongV, recovered := false }] ∧ w' = w := fun m w => must_in_no hro h44 w
   have HM1 := Lib.hid hm1; have HM0 := Lib.hid hm0
   clear hm1 hm0
   have hi' : i < (splitB 44 s).length := by simpa using hi
   obtain ⟨p, hp⟩ : ∃ p, p = (splitB 44 s).getD i [] := ⟨_, rfl⟩
   rw [← hp]
   have hdr : (splitB 44 s).drop i = p :: (splitB 44 s).drop (i + 1) := by
    rw [List.drop_eq_getElem_cons hi', hp, List.getD_eq_getElem?_getD, List.getElem?_eq_getElem hi']; rfl
   have HDR := Lib.hid hdr
   clear hdr hp hi hi'
   have k0 : W.cell? ⟨w.heap.size, 0, none⟩ = some (.int .i64 out) := cell_of_one' hc
   have f0 : W.frozen? ⟨w.heap.size, 0, none⟩ = false := by simp [World.frozen?, hc]
   have HC := Lib.hid hc
   clear hc
   match p, HDR with
   | [d], HDR =>
    have hz : (⟨#[d]⟩ : ByteArray)[0]'(show 0 < ByteArray.size ⟨#[d]⟩ from Nat.zero_lt_one) = d := rfl
    by_cases hd1 : (49 : Int) ≤ (d.toNat : Int)
    ·by_cases hd2 : (d.toNat : Int) ≤ 56
     ·have hdd : decide ((d.toNat : Int) ≤ 56) = true := decide_eq_true hd2
      gi_wp2_with fail
      refine (CallsIn.inRound l (HM1.out _ _)).mono ?_
      rintro e w' ⟨rfl, he⟩
      obtain rfl : W = w' := he.symm
      clear he
      have hdg : digitOf [d] = some (d.toNat - 48) := by simp [digitOf]; omega
      have HDG := Lib.hid hdg
      clear hdg
      by_cases hq : Go.bits .and .i64 out (wrap64 (2 ^ (d.toNat - 48))) = 0
      ·have hqb : (Go.bits .and .i64 out (wrap64 (2 ^ (d.toNat - 48))) == 0) = true := beq_iff_eq.2 hq
       have HQ := Lib.hid hq
       clear hq
       gi_wp2_with fail
       refine (CallsIn.inRound l (HM1.out _ _)).mono ?_
       rintro e w' ⟨rfl, he⟩
       obtain rfl : W = w' := he.symm
       clear he
       gi_wp2
       refine ⟨(KeepsOthers.setCell _ _ _).from _, ⟨?_, ?_, ?_⟩, hb1.setCell (Nat.le_refl _) _, _, Lib.hid (bits_good HDR.out ho.out HDG.out HQ.out), heap_set_one HC.out _⟩
       ·exact Below.heap_setCell W _ _ _ (by show w.heap.size + 2 ≠ w.heap.size; omega)
       ·exact Below.heap_setCell W _ _ _ (by show w.heap.size + 1 ≠ w.heap.size; omega)
       ·exact Below.heap_setCell W _ _ _ (by show w.heap.size + 3 ≠ w.heap.size; omega)
      ·have hqb : (Go.bits .and .i64 out (wrap64 (2 ^ (d.toNat - 48))) == 0) = false := beq_eq_false_iff_ne.2 hq
       have HQ := Lib.hid hq
       clear hq
       gi_wp2_with fail
       refine (CallsIn.inRound l (HM0.out _ _)).mono ?_
       rintro e w' ⟨rfl, he⟩
       obtain rfl : W = w' := he.symm
       clear he
       gi_wp2
       exact ⟨rfl, KeepsFrom.refl _ _, hb1, rfl, bits_twice HDR.out ho.out HDG.out HQ.out⟩
     ·have hdd : decide ((d.toNat : Int) ≤ 56) = false := decide_eq_false hd2
      gi_wp2_with fail
      refine (CallsIn.inRound l (HM0.out _ _)).mono ?_
      rintro e w' ⟨rfl, he⟩
      obtain rfl : W = w' := he.symm
      clear he
      gi_wp2
      exact ⟨rfl, KeepsFrom.refl _ _, hb1, rfl, bits_bad HDR.out ho.out (by simp [digitOf]; omega)⟩
    ·gi_wp2_with fail
     refine (CallsIn.inRound l (HM0.out _ _)).mono ?_
     rintro e w' ⟨rfl, he⟩
     obtain rfl : W = w' := he.symm
     clear he
     gi_wp2
     exact ⟨rfl, KeepsFrom.refl _ _, hb1, rfl, bits_bad HDR.out ho.out (by simp [digitOf]; omega)⟩
   | [], HDR =>
    gi_wp2_with fail
    refine (CallsIn.inRound l (HM0.out _ _)).mono ?_
    rintro e w' ⟨rfl, he⟩
    obtain rfl : W = w' := he.symm
    clear he
    gi_wp2
    exact ⟨rfl, KeepsFrom.refl _ _, hb1, rfl, bits_bad HDR.out ho.out rfl⟩
   | a :: b :: r, HDR =>
    have hl1 : (((a :: b :: r).length : Int) == 1) = false := by simp; omega
    gi_wp2_with fail
    refine (CallsIn.inRound l (HM0.out _ _)).mono ?_
    rintro e w' ⟨rfl, he⟩
    obtain rfl : W = w' := he.symm
    clear he
    gi_wp2
    exact ⟨rfl, KeepsFrom.refl _ _, hb1, rfl, bits_bad HDR.out ho.out rfl⟩
  case done =>
   rintro D W hD ⟨hb1, out, ho, hc⟩ hK
   have k0 : W.cell? ⟨w.heap.size, 0, none⟩ = some (.int .i64 out) := cell_of_one' hc
   have hend : nodesOf s = some out := by
    have e := ho.out
    rw [List.drop_of_length_le (by simp)] at e
    unfold nodesOf; rw [if_neg h42s, ← e]; rfl
   have HE := Lib.hid hend
   clear hend
   gi_wp2
   refine ⟨by simp, .inl ⟨_, _, rfl, run_takeDeferred hK, ?_⟩⟩
   refine ⟨_, results_tmp rfl _ _ _, ?_, ?_⟩
   ·exact hb1.grown (grownBy_putObj' W D _) (by have := hb1.size; omega) (fun k e => by cases e; omega)
   ·unfold NodesEnd; rw [HE.out]; rfl
  case panic =>
   rintro D ch W hD ⟨hb1, rfl, hn⟩ hK
   have hend : nodesOf s = none := by unfold nodesOf; rw [if_neg h42s]; exact hn
   refine ⟨by simp, .inl ⟨_, _, rfl, run_takeDeferred hK, ?_⟩⟩
   show Below w.heap.size w _ ∧ NodesEnd s _
   exact ⟨hb1.grown (grownBy_putObj' W D _) (by have := hb1.size; omega) (fun k e => by cases e; omega), by unfold NodesEnd; rw [hend]⟩
theorem nodes_any (s : List UInt8) (hs : s.length ≤ 140737488355328) (w : World) :
  Calls Tryz.prog 113 #[.string ⟨s.toArray⟩] w fun e w' => Below w.heap.size w w' ∧ NodesEnd s e :=
 (nodes_in 0 s hs w).calls (fun _ d hd => by cases hd)
end Go.Proofs.YtmgbaefgcdglpaaGreatDoor.Acl
/- acl.port and acl.ports: the numbers of a word, or the package's own panic, for every word. -/
namespace Go.Proofs.YtmgbaefgcdglpaaGreatDoor.Acl
open Go.RowKit Go.Sort Go.Proofs Go.Proofs.YtmgbaefgcdglpaaGreatDoor.PA
def portOf (s : List UInt8) : Option Int :=
 match Lib.atoiAll s with
 | .ok v => if 0 ≤ v ∧ v ≤ 65535 ∧ Lib.itoa v = s then some v else none
 | _ => none
def PortEnd (s : List UInt8) (e : Ending) : Prop :=
 match portOf s with
 | some b => e = .returned (.int .i64 b)
 | none => e = .panicked [{ v := wrongV, recovered := false }]
theorem cell_of_var {w : World} {g : Nat} {n : String} {v : Value} (hg : Tryz.prog.globalNamed n = some g) (h : w.var? Tryz.prog n = some #[v]) : w.cell? ⟨g, 0, none⟩ = some v := by
 unfold World.var? at h
 rw [hg] at h
 simp only [Option.bind_some] at h
 unfold World.cell?
 cases hh : w.heap[g]? with
 | none => rw [hh] at h; cases h
 | some o =>
  rw [hh] at h
  cases o <;> simp at h ⊢
  rw [h]; rfl
theorem synCell {w : World} (h : LaidW w) : ∃ tp p, w.cell? ⟨3, 0, none⟩ = some (.iface tp p) := by
 obtain ⟨tp, p, h⟩ := h.syn
 exact ⟨tp, p, cell_of_var (by kernel_rfl) h⟩
theorem ranCell {w : World} (h : LaidW w) : ∃ tp p, w.cell? ⟨4, 0, none⟩ = some (.iface tp p) := by
 obtain ⟨tp, p, h⟩ := h.ran
 exact ⟨tp, p, cell_of_var (by kernel_rfl) h⟩
def AtoiEnd (s : List UInt8) (e : Ending) : Prop :=
 match Lib.atoiAll s with
 | .ok v => e = .returned (.tuple #[.int .i64 v, .nilIface])
 | _ => ∃ v p, e = .returned (.tuple #[.int .i64 v, .iface 254 p])
theorem atoi_any (s : List UInt8) (hs : s.length ≤ 140737488355328) (w : World) (hx : LaidW w) :
  Calls Tryz.prog 190 #[.string ⟨s.toArray⟩] w fun e w' => Below w.heap.size w w' ∧ AtoiEnd s e := by
 have hsz : (⟨s.toArray⟩ : ByteArray).size = s.length := by simp [ByteArray.size]
 unfold AtoiEnd
 cases h : Lib.atoiAll s with
 | ok v =>
  refine (Tryz.strconv_Atoi_ok ⟨s.toArray⟩ (by omega) v h w).mono ?_
  rintro e w' ⟨rfl, hw⟩
  refine ⟨?_, rfl⟩
  rcases hw with rfl | ⟨t, rfl⟩
  ·exact Below.refl _ _
  ·exact Lib.bytesWorld_below _ _ _
 | range =>
  obtain ⟨tp, p, hc⟩ := ranCell hx
  refine (Tryz.strconv_Atoi_range ⟨s.toArray⟩ (by omega) h _ w hc (.inr ⟨_, _, rfl⟩)).mono ?_
  rintro e w' ⟨N, rfl, _, _, hb⟩
  exact ⟨hb, _, _, rfl⟩
 | _ =>
  obtain ⟨tp, p, hc⟩ := synCell hx
  refine (Tryz.strconv_Atoi_syntax ⟨s.toArray⟩ (by omega) h _ w hc (.inr ⟨_, _, rfl⟩)).mono ?_
  rintro e w' ⟨N, rfl, _, _, hb⟩
  exact ⟨hb, _, _, rfl⟩
theorem itoa_any (v : Int) (h0 : 0 ≤ v) (h1 : v ≤ 65535) (w : World) (hx : LaidW w) :
  Calls Tryz.prog 191 #[.int .i64 v] w fun e w' => e = .returned (.string ⟨(Lib.itoa v).toArray⟩) ∧ Below w.heap.size w w' := by
 refine (Tryz.strconv_Itoa v (by omega) (by omega) w hx.tab).mono ?_
 rintro e w' ⟨rfl, k, os, rfl⟩
 exact ⟨rfl, Lib.below_grow _ _ (Nat.le_refl _) _ _⟩
theorem below_step {w w1 w2 : World} (h : Below w.heap.size w w1) (k : Below w1.heap.size w1 w2) : Below w.heap.size w w2 := h.trans (k.mono h.size)
set_option maxHeartbeats 2000000 in
set_option maxRecDepth 100000 in
theorem port_any (s : List UInt8) (hs : s.length ≤ 140737488355328) (w : World) (hx : LaidW w) :
  Calls Tryz.prog 155 #[.string ⟨s.toArray⟩] w fun e w' => Below w.heap.size w w' ∧ PortEnd s e := by
 have HA := Lib.hid (atoi_any s hs w hx)
 go_enter Tryz.func155, Tryz.ntmps155
 go_wp2_with fail
 refine HA.out.mono ?_
 rintro e w1 ⟨hb1, he⟩
 cases h : Lib.atoiAll s with
 | ok v =>
  have hp : portOf s = if 0 ≤ v ∧ v ≤ 65535 ∧ Lib.itoa v = s then some v else none := by unfold portOf; rw [h]
  have HP := Lib.hid hp
  unfold AtoiEnd at he
  rw [h] at he
  subst he
  have HB1 := Lib.hid hb1
  clear hp h hb1
  by_cases h0 : 0 ≤ v
  ·by_cases h1 : v ≤ 65535
   ·have hx1 := hx.below HB1.out
    have HI := Lib.hid (itoa_any v h0 h1 w1 hx1)
    by_cases h2 : Lib.itoa v = s
    ·have hb2 : (Lib.itoa v == s) = true := beq_iff_eq.2 h2
     have H2 := Lib.hid h2
     clear h2
     go_wp2_with fail
     refine HI.out.mono ?_
     rintro e w2 ⟨rfl, hbi⟩
     have HB2 := Lib.hid hbi
     clear hbi
     go_wp2_with fail
     refine (must_yes _).mono ?_
     rintro e w3 ⟨rfl, rfl⟩
     go_wp2
     go_ret
     exact ⟨below_step HB1.out HB2.out, by unfold PortEnd; rw [HP.out, if_pos ⟨h0, h1, H2.out⟩]; rfl⟩
    ·have hb2 : (Lib.itoa v == s) = false := beq_eq_false_iff_ne.2 h2
     have H2 := Lib.hid h2
     clear h2
     go_wp2_with fail
     refine HI.out.mono ?_
     rintro e w2 ⟨rfl, hbi⟩
     have HB2 := Lib.hid hbi
     clear hbi
     go_wp2_with fail
     refine (must_no _).mono ?_
     rintro e w3 ⟨rfl, rfl⟩
     go_wp2
     exact ⟨rfl, below_step HB1.out HB2.out, by unfold PortEnd; rw [HP.out, if_neg (fun h => H2.out h.2.2)]⟩
   ·go_wp2_with fail
    refine (must_no _).mono ?_
    rintro e w3 ⟨rfl, rfl⟩
    go_wp2
    exact ⟨rfl, HB1.out, by unfold PortEnd; rw [HP.out, if_neg (fun h => absurd h.2.1 (by omega))]⟩
  ·go_wp2_with fail
   refine (must_no _).mono ?_
   rintro e w3 ⟨rfl, rfl⟩
   go_wp2
   exact ⟨rfl, HB1.out, by unfold PortEnd; rw [HP.out, if_neg (fun h => absurd h.1 (by omega))]⟩
 | range =>
  have hp : portOf s = none := by unfold portOf; rw [h]
  have HP := Lib.hid hp
  unfold AtoiEnd at he
  rw [h] at he
  obtain ⟨v, p, rfl⟩ := he
  have HB1 := Lib.hid hb1
  clear hp h hb1
  go_wp2_with fail
  refine (must_no _).mono ?_
  rintro e w3 ⟨rfl, rfl⟩
  go_wp2
  exact ⟨rfl, HB1.out, by unfold PortEnd; rw [HP.out]⟩
 | _ =>
  have hp : portOf s = none := by unfold portOf; rw [h]
  have HP := Lib.hid hp
  unfold AtoiEnd at he
  rw [h] at he
  obtain ⟨v, p, rfl⟩ := he
  have HB1 := Lib.hid hb1
  clear hp h hb1
  go_wp2_with fail
  refine (must_no _).mono ?_
  rintro e w3 ⟨rfl, rfl⟩
  go_wp2
  exact ⟨rfl, HB1.out, by unfold PortEnd; rw [HP.out]⟩
def portsOf (s : List UInt8) : Option (Int × Int) :=
 if s = [42] then some (0, 65535) else
 match portOf (Lib.cut s [45]).1 with
 | none => none
 | some a => if (Lib.cut s [45]).2.2 = true then (match portOf (Lib.cut s [45]).2.1 with | none => none | some b => if a ≤ b then some (a, b) else none) else some (a, a)
def PortsEnd (s : List UInt8) (e : Ending) : Prop :=
 match portsOf s with
 | some (a, b) => e = .returned (.tuple #[.int .i64 a, .int .i64 b])
 | none => e = .panicked [{ v := wrongV, recovered := false }]
theorem portOf_range {s : List UInt8} {a : Int} (h : portOf s = some a) : 0 ≤ a ∧ a ≤ 65535 := by
 unfold portOf at h
 cases hq : Lib.atoiAll s with
 | ok v =>
  rw [hq] at h
  simp only at h
  by_cases hc : 0 ≤ v ∧ v ≤ 65535 ∧ Lib.itoa v = s
  ·rw [if_pos hc] at h; cases h; exact ⟨hc.1, hc.2.1⟩
  ·rw [if_neg hc] at h; cases h
 | range => rw [hq] at h; cases h
 | _ => rw [hq] at h; cases h
theorem cut_le (s t : List UInt8) : (Lib.cut s t).1.length ≤ s.length ∧ (Lib.cut s t).2.1.length ≤ s.length := by
 unfold Lib.cut
 split
 ·simp; omega
 ·simp
set_option maxHeartbeats 2000000 in
set_option maxRecDepth 100000 in
theorem ports_any (s : List UInt8) (hs : s.length ≤ 4294967280) (w : World) (hx : LaidW w) :
  Calls Tryz.prog 114 #[.string ⟨s.toArray⟩] w fun e w' => Below w.heap.size w w' ∧ PortsEnd s e := by
 by_cases h42 : s = [42]
 ·have hb : (s == [42]) = true := by simpa using h42
  have hp : portsOf s = some (0, 65535) := by unfold portsOf; rw [if_pos h42]
  have HP := Lib.hid hp
  clear hp h42
  go_enter Tryz.func114, Tryz.ntmps114
  go_wp2
  go_ret2
  exact ⟨Below.refl _ _, by unfold PortsEnd; rw [HP.out]; rfl⟩
 have hb : (s == [42]) = false := by simpa using h42
 have hsz : (⟨s.toArray⟩ : ByteArray).size < 4294967281 := by simp [ByteArray.size]; omega
 have hcut := Tryz.strings_Cut_shaped ⟨s.toArray⟩ ⟨#[45]⟩ w hx.shaped hsz
 have hle := cut_le s [45]
 have hps : portsOf s = match portOf (Lib.cut s [45]).1 with | none => none | some a => if (Lib.cut s [45]).2.2 = true then (match portOf (Lib.cut s [45]).2.1 with | none => none | some b => if a ≤ b then some (a, b) else none) else some (a, a) := by
  unfold portsOf; rw [if_neg h42]
 simp only at hcut
 generalize hq : Lib.cut s [45] = q at hcut hle hps
 obtain ⟨f, g, two⟩ := q
 simp only at hcut hle hps
 have HCUT := Lib.hid hcut; have HPS := Lib.hid hps; have HX := Lib.hid hx
 have hf := hle.1; have hg := hle.2
 clear hcut hps hq h42 hsz hle hx
 go_enter Tryz.func114, Tryz.ntmps114
 go_wp2_with fail
 refine HCUT.out.mono ?_
 rintro e w1 ⟨rfl, n, rfl⟩
 have hb1 : Below w.heap.size w (w.drewN n) := ⟨rfl, rfl, rfl, Nat.le_refl _, fun _ _ => rfl⟩
 have HB1 := Lib.hid hb1
 have HX1 := Lib.hid (HX.out.below hb1)
 clear hb1
 go_wp2_with fail
 refine (port_any f (by omega) _ HX1.out).mono ?_
 rintro e w2 ⟨hb2, he⟩
 have HB2 := Lib.hid (below_step HB1.out hb2)
 have HX2 := Lib.hid (HX1.out.below hb2)
 clear hb2
 unfold PortEnd at he
 cases hpf : portOf f with
 | none =>
  rw [hpf] at he
  simp only at he
  subst he
  have HP := Lib.hid (show portsOf s = none by rw [HPS.out, hpf])
  clear hpf
  go_wp2
  exact ⟨rfl, HB2.out, by unfold PortsEnd; rw [HP.out]⟩
 | some a =>
  rw [hpf] at he
  simp only at he
  subst he
  obtain ⟨ha0, ha1⟩ := portOf_range hpf
  cases two with
  | false =>
   have HP := Lib.hid (show portsOf s = some (a, a) by rw [HPS.out, hpf]; rfl)
   clear hpf
   go_wp2_with fail
   refine (must_yes _).mono ?_
   rintro e w3 ⟨rfl, rfl⟩
   go_wp2
   go_ret2
   exact ⟨HB2.out, by unfold PortsEnd; rw [HP.out]; rfl⟩
  | true =>
   have HPF := Lib.hid hpf
   clear hpf
   go_wp2_with fail
   refine (port_any g (by omega) _ HX2.out).mono ?_
   rintro e w3 ⟨hb3, he⟩
   have HB3 := Lib.hid (below_step HB2.out hb3)
   clear hb3
   unfold PortEnd at he
   cases hpg : portOf g with
   | none =>
    rw [hpg] at he
    simp only at he
    subst he
    have HP := Lib.hid (show portsOf s = none by rw [HPS.out, HPF.out]; simp [hpg])
    clear hpg
    go_wp2
    exact ⟨rfl, HB3.out, by unfold PortsEnd; rw [HP.out]⟩
   | some b =>
    rw [hpg] at he
    simp only at he
    subst he
    obtain ⟨hb0, hb1⟩ := portOf_range hpg
    by_cases hab : a ≤ b
    ·have HP := Lib.hid (show portsOf s = some (a, b) by rw [HPS.out, HPF.out]; simp [hpg, hab])
     clear hpg
     have hd : decide (a ≤ b) = true := decide_eq_true hab
     go_wp2_with fail
     refine (must_yes _).mono ?_
     rintro e w4 ⟨rfl, rfl⟩
     go_wp2
     go_ret2
     exact ⟨HB3.out, by unfold PortsEnd; rw [HP.out]; rfl⟩
    ·have HP := Lib.hid (show portsOf s = none by rw [HPS.out, HPF.out]; simp [hpg, hab])
     clear hpg
     have hd : decide (a ≤ b) = false := decide_eq_false hab
     go_wp2_with fail
     refine (must_no _).mono ?_
     rintro e w4 ⟨rfl, rfl⟩
     go_wp2
     exact ⟨rfl, HB3.out, by unfold PortsEnd; rw [HP.out]⟩
end Go.Proofs.YtmgbaefgcdglpaaGreatDoor.Acl
/- acl.rule's deferred literal: where nothing was thrown it does nothing; what must threw it takes, and lays the empty rule and false. -/
namespace Go.Proofs.YtmgbaefgcdglpaaGreatDoor.Acl
open Go.RowKit
set_option maxHeartbeats 1000000 in
theorem catch_idle (p q : Addr) (w : World) :
  CallsD Tryz.prog 111 #[.pointer (some p), .pointer (some q)] .returning w fun e u' w' => e = .returned (.tuple #[]) ∧ u' = .returning ∧ w' = w := by
 refine callsD_of_wpS Tryz.func111 rfl fun c₀ cs hu => ?_
 apply wpS_seq
 apply wpS_region
 simp [wpOpsS, go_sem, recoverD, hu, Tryz.ntmps111, Exit.thenS]
 refine wpS_of_wp ?_
 go_wp2
 cases c₀
 simp_all [bodyPostS, results, Tryz.results111]
theorem heap_set5 {w : World} {b : Nat} {a0 a1 a2 a3 a4 : Value} {t : TypeId} (h : w.heap[b]? = some (.cells #[a0, a1, a2, a3, a4] t (0, 0))) (v0 v1 v2 v3 v4 : Value) :
  (((((w.setCell ⟨b, 0, none⟩ v0).setCell ⟨b, 1, none⟩ v1).setCell ⟨b, 2, none⟩ v2).setCell ⟨b, 3, none⟩ v3).setCell ⟨b, 4, none⟩ v4).heap[b]? = some (.cells #[v0, v1, v2, v3, v4] t (0, 0)) := by
 simp [World.setCell, Array.getElem?_modify, h]
set_option maxRecDepth 100000 in
set_option maxHeartbeats 1000000 in
theorem catch_panic (b q : Nat) (x0 : Bool) (x1 x2 x3 x4 : Int) (y : Bool) (B : Nat) (w : World) (hBb : B ≤ b) (hBq : B ≤ q) (hpq : b ≠ q)
  (hc : w.heap[b]? = some (.cells #[.bool x0, .int .i64 x1, .int .i64 x2, .int .i64 x3, .int .i64 x4] 96 (0, 0))) (hq : w.heap[q]? = some (.cells #[.bool y] 4 (0, 0))) :
  CallsD Tryz.prog 111 #[.pointer (some ⟨b, 0, none⟩), .pointer (some ⟨q, 0, none⟩)] (.panicking [{ v := wrongV, recovered := false }]) w fun e u' w' =>
   e = .returned (.tuple #[]) ∧ u' = .panicking [{ v := wrongV, recovered := true }] ∧ Below B w w' ∧
   w'.heap[b]? = some (.cells #[.bool false, .int .i64 0, .int .i64 0, .int .i64 0, .int .i64 0] 96 (0, 0)) ∧ w'.heap[q]? = some (.cells #[.bool false] 4 (0, 0)) := by
 have hta : ∀ (v : Value) (W : World), (Instr.typeAssert (.iface 152 v) 20 152 true).run Tryz.prog W = .ok (.tuple #[v, .bool true]) W := fun v W => by rfl
 refine callsD_of_wpS Tryz.func111 rfl fun c₀ cs hu => ?_
 apply wpS_seq
 apply wpS_region
 simp [wpOpsS, go_sem, recoverD, hu, Tryz.ntmps111, Exit.thenS, wrongV]
 refine wpS_of_wp ?_
 clear hu
 have hbl : b < w.heap.size := (Array.getElem?_eq_some_iff.1 hc).1
 have hql : q < w.heap.size := (Array.getElem?_eq_some_iff.1 hq).1
 have c0 : w.cell? ⟨b, 0, none⟩ = some (.bool x0) := by simp [World.cell?, hc]
 have c1 : w.cell? ⟨b, 1, none⟩ = some (.int .i64 x1) := by simp [World.cell?, hc]
 have c2 : w.cell? ⟨b, 2, none⟩ = some (.int .i64 x2) := by simp [World.cell?, hc]
 have c3 : w.cell? ⟨b, 3, none⟩ = some (.int .i64 x3) := by simp [World.cell?, hc]
 have c4 : w.cell? ⟨b, 4, none⟩ = some (.int .i64 x4) := by simp [World.cell?, hc]
 have d0 : w.cell? ⟨q, 0, none⟩ = some (.bool y) := by simp [World.cell?, hq]
 have f0 : ∀ j, w.frozen? ⟨b, j, none⟩ = false := fun j => by simp [World.frozen?, hc]
 have e0 : w.frozen? ⟨q, 0, none⟩ = false := by simp [World.frozen?, hq]
 have HC := Lib.hid hc; have HQ := Lib.hid hq
 have hqb : ¬ q = b := fun e => hpq e.symm
 clear hc hq
 go_wp2_with fail
 refine ⟨rfl, _, rfl, .tuple #[], results_none rfl _ _ _, rfl, rfl, ?_, ?_, ?_⟩
 ·exact ((((((((Below.refl B w).setCell (p := ⟨b, 0, none⟩) hBb _).setCell (p := ⟨b, 1, none⟩) hBb _).setCell (p := ⟨b, 2, none⟩) hBb _).setCell (p := ⟨b, 3, none⟩) hBb _).setCell (p := ⟨b, 4, none⟩) hBb _).setCell (p := ⟨q, 0, none⟩) hBq _).alloc (by simp; omega) _)
 ·refine (Below.heap_alloc _ _ _ (by simp; omega)).trans ((Below.heap_setCell _ _ _ _ hpq).trans ?_)
  exact heap_set5 HC.out _ _ _ _ _
 ·refine (Below.heap_alloc _ _ _ (by simp; omega)).trans ?_
  simp [World.setCell, Array.getElem?_modify, HQ.out, hpq]
end Go.Proofs.YtmgbaefgcdglpaaGreatDoor.Acl
/- acl.rule: the rule of a line's words, or the empty rule and false, for all words. -/
namespace Go.Proofs.YtmgbaefgcdglpaaGreatDoor.Acl
open Go.RowKit Go.Proofs Go.Proofs.YtmgbaefgcdglpaaGreatDoor.PA
def allowB : List UInt8 := [97, 108, 108, 111, 119]
def denyB : List UInt8 := [100, 101, 110, 121]
def ruleOf : List (List UInt8) → Option (Bool × Int × Int × Int × Int)
 | [a, b, c, d, p] => if ((a == allowB || a == denyB) && c == [62]) = true then
   (nodesOf b).bind fun f => (nodesOf d).bind fun t => (portsOf p).map fun q => (a == allowB, f, t, q.1, q.2)
  else none
 | _ => none
def ruleV (r : Bool × Int × Int × Int × Int) : Value := .agg #[.bool r.1, .int .i64 r.2.1, .int .i64 r.2.2.1, .int .i64 r.2.2.2.1, .int .i64 r.2.2.2.2]
def RuleEnd (ws : List (List UInt8)) (e : Ending) : Prop :=
 match ruleOf ws with
 | some r => e = .returned (.tuple #[ruleV r, .bool true])
 | none => e = .returned (.tuple #[ruleV (false, 0, 0, 0, 0), .bool false])
theorem cell_in {w : World} {b : Nat} {cs : Array Value} {t : TypeId} (h : w.heap[b]? = some (.cells cs t (0, 0))) (j : Nat) : w.cell? ⟨b, j, none⟩ = cs[j]? := by
 simp [World.cell?, h]
set_option maxHeartbeats 1000000 in
set_option maxRecDepth 100000 in
theorem door_no {w W : World} {tmps : Array Value} {x0 : Bool} {x1 x2 x3 x4 : Int} {y : Bool} (h2 : tmps[2]? = some (.pointer (some ⟨w.heap.size, 0, none⟩))) (h3 : tmps[3]? = some (.pointer (some ⟨w.heap.size + 1, 0, none⟩)))
  (hc : W.heap[w.heap.size]? = some (.cells #[.bool x0, .int .i64 x1, .int .i64 x2, .int .i64 x3, .int .i64 x4] 96 (0, 0))) (hq : W.heap[w.heap.size + 1]? = some (.cells #[.bool y] 4 (0, 0))) (hb : Below w.heap.size w W) :
  bodyPostD Tryz.prog Tryz.f59 (fun e w' => Below w.heap.size w w' ∧ e = .returned (.tuple #[ruleV (false, 0, 0, 0, 0), .bool false])) (Exit.panic [{ v := wrongV, recovered := false }])
   { tmps := tmps, defers := [{ target := Target.fn (Fn.func 111) #[.pointer (some ⟨w.heap.size, 0, none⟩), .pointer (some ⟨w.heap.size + 1, 0, none⟩)], args := #[] }] } W := by
 refine leaves_cons (f := 111) (args := #[.pointer (some ⟨w.heap.size, 0, none⟩), .pointer (some ⟨w.heap.size + 1, 0, none⟩)]) (by simp) (by simp [go_sem]) ?_
 refine (catch_panic _ _ x0 x1 x2 x3 x4 y w.heap.size _ (Nat.le_refl _) (by omega) (by omega) hc hq).mono ?_
 rintro e u' w2 ⟨rfl, rfl, hb2, hc2, hq2⟩
 have k0 := cell_in hc2 0
 have k1 := cell_in hc2 1
 have k2 := cell_in hc2 2
 have k3 := cell_in hc2 3
 have k4 := cell_in hc2 4
 have k5 := cell_in hq2 0
 have hbb : Below w.heap.size w w2 := hb.trans hb2
 simp at k0 k1 k2 k3 k4 k5
 simp [Leaves, settle, results, Tryz.results59, go_sem, h2, h3, k0, k1, k2, k3, k4, k5, ruleV]
 exact hbb
set_option maxHeartbeats 2000000 in
set_option maxRecDepth 100000 in
theorem rule_not5 (A : Option Addr) (n cap : Nat) (h5 : n ≠ 5) (w : World) :
  Calls Tryz.prog 59 #[.slice A n cap] w fun e w' => Below w.heap.size w w' ∧ e = .returned (.tuple #[ruleV (false, 0, 0, 0, 0), .bool false]) := by
 have hmf : ∀ (fn : Fn) (first cap : Array Value) (w : World), (Instr.makeFunc fn first cap).run Tryz.prog w = .ok (.func fn first cap) w := fun _ _ _ _ => rfl
 have hl : ((n : Int) == 5) = false := beq_eq_false_iff_ne.2 (by omega)
 go_enter_defers Tryz.func59, Tryz.ntmps59
 go_wp2_with fail
 refine (must_no _).mono ?_
 rintro e w3 ⟨rfl, rfl⟩
 go_wp2
 refine door_no rfl rfl (x0 := false) (x1 := 0) (x2 := 0) (x3 := 0) (x4 := 0) (y := false) ?_ ?_ ?_
 ·exact (Below.heap_alloc _ _ _ (by simp)).trans (World.alloc_heap_new w _)
 ·have h := World.alloc_heap_new (w.alloc (.cells #[.bool false, .int .i64 0, .int .i64 0, .int .i64 0, .int .i64 0] 96)) (.cells #[.bool false] 4)
  rw [World.size_alloc] at h
  exact h
 ·exact ((Below.refl _ w).alloc (Nat.le_refl _) _).alloc (by simp) _
structure St (w W : World) (x0 : Bool) (x1 x2 x3 x4 : Int) (y : Bool) : Prop where
 r : W.heap[w.heap.size]? = some (.cells #[.bool x0, .int .i64 x1, .int .i64 x2, .int .i64 x3, .int .i64 x4] 96 (0, 0))
 o : W.heap[w.heap.size + 1]? = some (.cells #[.bool y] 4 (0, 0))
 b : Below w.heap.size w W
variable {w W W' : World} {x0 y : Bool} {x1 x2 x3 x4 : Int}
theorem St.later (h : St w W x0 x1 x2 x3 x4 y) (hb : Below W.heap.size W W') : St w W' x0 x1 x2 x3 x4 y :=
 ⟨(hb.block _ (Array.getElem?_eq_some_iff.1 h.r).1).trans h.r, (hb.block _ (Array.getElem?_eq_some_iff.1 h.o).1).trans h.o, below_step h.b hb⟩
theorem St.new (w : World) (x0 : Bool) : St w ((w.alloc (.cells #[.bool x0, .int .i64 0, .int .i64 0, .int .i64 0, .int .i64 0] 96)).alloc (.cells #[.bool false] 4)) x0 0 0 0 0 false := by
 refine ⟨(Below.heap_alloc _ _ _ (by simp)).trans (World.alloc_heap_new w _), ?_, ((Below.refl _ w).alloc (Nat.le_refl _) _).alloc (by simp) _⟩
 have h := World.alloc_heap_new (w.alloc (.cells #[.bool x0, .int .i64 0, .int .i64 0, .int .i64 0, .int .i64 0] 96)) (.cells #[.bool false] 4)
 rw [World.size_alloc] at h
 exact h
theorem St.set1 (h : St w W x0 x1 x2 x3 x4 y) (v : Int) : St w (W.setCell ⟨w.heap.size, 1, none⟩ (.int .i64 v)) x0 v x2 x3 x4 y :=
 ⟨by simp [World.setCell, Array.getElem?_modify, h.r], by simp [World.setCell, Array.getElem?_modify, h.o], h.b.setCell (Nat.le_refl _) _⟩
theorem St.set2 (h : St w W x0 x1 x2 x3 x4 y) (v : Int) : St w (W.setCell ⟨w.heap.size, 2, none⟩ (.int .i64 v)) x0 x1 v x3 x4 y :=
 ⟨by simp [World.setCell, Array.getElem?_modify, h.r], by simp [World.setCell, Array.getElem?_modify, h.o], h.b.setCell (Nat.le_refl _) _⟩
theorem St.set3 (h : St w W x0 x1 x2 x3 x4 y) (v : Int) : St w (W.setCell ⟨w.heap.size, 3, none⟩ (.int .i64 v)) x0 x1 x2 v x4 y :=
 ⟨by simp [World.setCell, Array.getElem?_modify, h.r], by simp [World.setCell, Array.getElem?_modify, h.o], h.b.setCell (Nat.le_refl _) _⟩
theorem St.set4 (h : St w W x0 x1 x2 x3 x4 y) (v : Int) : St w (W.setCell ⟨w.heap.size, 4, none⟩ (.int .i64 v)) x0 x1 x2 x3 v y :=
 ⟨by simp [World.setCell, Array.getElem?_modify, h.r], by simp [World.setCell, Array.getElem?_modify, h.o], h.b.setCell (Nat.le_refl _) _⟩
theorem St.facts (h : St w W x0 x1 x2 x3 x4 y) : W.cell? ⟨w.heap.size, 0, none⟩ = some (.bool x0) ∧ W.cell? ⟨w.heap.size, 1, none⟩ = some (.int .i64 x1) ∧ W.cell? ⟨w.heap.size, 2, none⟩ = some (.int .i64 x2) ∧
  W.cell? ⟨w.heap.size, 3, none⟩ = some (.int .i64 x3) ∧ W.cell? ⟨w.heap.size, 4, none⟩ = some (.int .i64 x4) ∧ W.cell? ⟨w.heap.size + 1, 0, none⟩ = some (.bool y) ∧
  W.frozen? ⟨w.heap.size, 0, none⟩ = false ∧ W.frozen? ⟨w.heap.size, 1, none⟩ = false ∧ W.frozen? ⟨w.heap.size, 2, none⟩ = false ∧ W.frozen? ⟨w.heap.size, 3, none⟩ = false ∧ W.frozen? ⟨w.heap.size, 4, none⟩ = false ∧ W.frozen? ⟨w.heap.size + 1, 0, none⟩ = false := by
 have hr := h.r; have ho := h.o
 simp [World.cell?, World.frozen?, hr, ho]
theorem St.door (h : St w W x0 x1 x2 x3 x4 y) {tmps : Array Value} (h2 : tmps[2]? = some (.pointer (some ⟨w.heap.size, 0, none⟩))) (h3 : tmps[3]? = some (.pointer (some ⟨w.heap.size + 1, 0, none⟩))) {ws : List (List UInt8)} (hn : ruleOf ws = none) :
  bodyPostD Tryz.prog Tryz.f59 (fun e w' => Below w.heap.size w w' ∧ RuleEnd ws e) (Exit.panic [{ v := wrongV, recovered := false }])
   { tmps := tmps, defers := [{ target := Target.fn (Fn.func 111) #[.pointer (some ⟨w.heap.size, 0, none⟩), .pointer (some ⟨w.heap.size + 1, 0, none⟩)], args := #[] }] } W := by
 have e : (fun e w' => Below w.heap.size w w' ∧ RuleEnd ws e) = (fun e w' => Below w.heap.size w w' ∧ e = .returned (.tuple #[ruleV (false, 0, 0, 0, 0), .bool false])) := by
  funext e w'; unfold RuleEnd; rw [hn]
 rw [e]
 exact door_no h2 h3 h.r h.o h.b
theorem St.set0 (h : St w W x0 x1 x2 x3 x4 y) (v : Bool) : St w (W.setCell ⟨w.heap.size, 0, none⟩ (.bool v)) v x1 x2 x3 x4 y :=
 ⟨by simp [World.setCell, Array.getElem?_modify, h.r], by simp [World.setCell, Array.getElem?_modify, h.o], h.b.setCell (Nat.le_refl _) _⟩
theorem St.setO (h : St w W x0 x1 x2 x3 x4 y) (v : Bool) : St w (W.setCell ⟨w.heap.size + 1, 0, none⟩ (.bool v)) x0 x1 x2 x3 x4 v :=
 ⟨by simp [World.setCell, Array.getElem?_modify, h.r], by simp [World.setCell, Array.getElem?_modify, h.o], h.b.setCell (by simp) _⟩
set_option maxHeartbeats 1000000 in
set_option maxRecDepth 100000 in
theorem St.yes (h : St w W x0 x1 x2 x3 x4 true) {tmps : Array Value} (h2 : tmps[2]? = some (.pointer (some ⟨w.heap.size, 0, none⟩))) (h3 : tmps[3]? = some (.pointer (some ⟨w.heap.size + 1, 0, none⟩))) {ws : List (List UInt8)} (hn : ruleOf ws = some (x0, x1, x2, x3, x4)) :
  bodyPostD Tryz.prog Tryz.f59 (fun e w' => Below w.heap.size w w' ∧ RuleEnd ws e) Exit.ret
   { tmps := tmps, defers := [{ target := Target.fn (Fn.func 111) #[.pointer (some ⟨w.heap.size, 0, none⟩), .pointer (some ⟨w.heap.size + 1, 0, none⟩)], args := #[] }] } W := by
 refine leaves_cons (f := 111) (args := #[.pointer (some ⟨w.heap.size, 0, none⟩), .pointer (some ⟨w.heap.size + 1, 0, none⟩)]) (by simp) (by simp [go_sem]) ?_
 refine (catch_idle _ _ _).mono ?_
 rintro e u' w2 ⟨rfl, rfl, rfl⟩
 obtain ⟨k0, k1, k2, k3, k4, k5, -, -, -, -, -, -⟩ := h.facts
 simp [Leaves, settle, results, Tryz.results59, go_sem, h2, h3, k0, k1, k2, k3, k4, k5, RuleEnd, hn, ruleV]
 exact h.b
def Words (A : Nat) (ws : List (List UInt8)) (W : World) : Prop := ∀ j, j < ws.length → W.cell? ⟨A, j, none⟩ = some (.string ⟨(ws.getD j []).toArray⟩)
theorem Words.later {A : Nat} {ws : List (List UInt8)} (h : Words A ws w) (hA : A < w.heap.size) (hb : Below w.heap.size w W) : Words A ws W := fun j hj => (hb.cell (p := ⟨A, j, none⟩) hA).trans (h j hj)
theorem ruleOf_five (a b c d p : List UInt8) : ruleOf [a, b, c, d, p] = if ((a == allowB || a == denyB) && c == [62]) = true then (nodesOf b).bind fun f => (nodesOf d).bind fun t => (portsOf p).map fun q => (a == allowB, f, t, q.1, q.2) else none := rfl
set_option maxHeartbeats 4000000 in
set_option maxRecDepth 100000 in
theorem rule_five (A cap : Nat) (a b c d p : List UInt8) (hlen : ∀ z ∈ [a, b, c, d, p], z.length ≤ 4294967280) (w : World) (hx : LaidW w) (hA : A < w.heap.size) (hw : Words A [a, b, c, d, p] w) :
  Calls Tryz.prog 59 #[.slice (some ⟨A, 0, none⟩) 5 cap] w fun e w' => Below w.heap.size w w' ∧ RuleEnd [a, b, c, d, p] e := by
 have hmf : ∀ (fn : Fn) (first cap : Array Value) (w : World), (Instr.makeFunc fn first cap).run Tryz.prog w = .ok (.func fn first cap) w := fun _ _ _ _ => rfl
 have g0 : w.cell? ⟨A, 0, none⟩ = some (.string ⟨a.toArray⟩) := hw 0 (by simp)
 have g2 : w.cell? ⟨A, 2, none⟩ = some (.string ⟨c.toArray⟩) := hw 2 (by simp)
 have HW := Lib.hid hw; have HLEN := Lib.hid hlen; have HX := Lib.hid hx
 have hAn : ¬ A = w.heap.size := by omega
 have hAn1 : ¬ A = w.heap.size + 1 := by omega
 clear hw hlen hx
 by_cases hc : c = [62]
 ·have hc1 : (c == [62]) = true := by rw [hc]; decide
  clear hc
  have hcase : ((a == [97, 108, 108, 111, 119]) = true ∧ Hid ((a == allowB || a == denyB) = true)) ∨ ((a == [97, 108, 108, 111, 119]) = false ∧ (a == [100, 101, 110, 121]) = true ∧ Hid ((a == allowB || a == denyB) = true)) ∨ ((a == [97, 108, 108, 111, 119]) = false ∧ (a == [100, 101, 110, 121]) = false ∧ Hid ((a == allowB || a == denyB) = false)) := by
   cases h1 : (a == [97, 108, 108, 111, 119])
   ·cases h2 : (a == [100, 101, 110, 121])
    ·exact .inr (.inr ⟨rfl, rfl, by simp [allowB, denyB, h1, h2, Hid]⟩)
    ·exact .inr (.inl ⟨rfl, rfl, by simp [allowB, denyB, h2, Hid]⟩)
   ·exact .inl ⟨rfl, by simp [allowB, h1, Hid]⟩
  have HC1 := Lib.hid hc1
  rcases hcase with ⟨ha1, hh⟩ | ⟨ha1, hd1, hh⟩ | ⟨ha1, hd1, hh⟩
  ·have HAL : Hid ((a == allowB) = true) := Lib.hid ha1
   have hr : ruleOf [a, b, c, d, p] = (nodesOf b).bind fun f => (nodesOf d).bind fun t => (portsOf p).map fun q => (true, f, t, q.1, q.2) := by
    rw [ruleOf_five, hh.out, HC1.out, HAL.out]; rfl
   have HR := Lib.hid hr
   clear hr hh
   go_enter_defers Tryz.func59, Tryz.ntmps59
   go_wp2_with fail
   refine (must_yes _).mono ?_
   rintro e w3 ⟨rfl, rfl⟩
   have g1 : w.cell? ⟨A, 1, none⟩ = some (.string ⟨b.toArray⟩) := HW.out 1 (by simp)
   go_wp2_with fail
   refine (nodes_any b (Nat.le_trans (HLEN.out b (by simp)) (by decide)) _).mono ?_
   rintro e w2 ⟨hb2, he⟩
   have S2 := (St.new w true).later hb2
   clear hb2 g0 g1 g2
   unfold NodesEnd at he
   cases hnb : nodesOf b with
   | none =>
    rw [hnb] at he
    simp only at he
    subst he
    have HN := Lib.hid (show ruleOf [a, b, c, d, p] = none by rw [HR.out, hnb]; rfl)
    clear hnb
    have HS2 := Lib.hid S2
    clear S2
    go_wp2
    exact HS2.out.door rfl rfl HN.out
   | some f =>
    rw [hnb] at he
    simp only at he
    subst he
    have HNB := Lib.hid hnb
    clear hnb
    obtain ⟨k0, k1, k2, k3, k4, k5, l0, l1, l2, l3, l4, l5⟩ := S2.facts
    have g3 : w2.cell? ⟨A, 3, none⟩ = some (.string ⟨d.toArray⟩) := HW.out.later hA S2.b 3 (by simp)
    have HS2 := Lib.hid S2
    clear S2
    go_wp2_with fail
    refine (nodes_any d (Nat.le_trans (HLEN.out d (by simp)) (by decide)) _).mono ?_
    rintro e w3 ⟨hb3, he⟩
    have S3 := (HS2.out.set1 f).later hb3
    clear hb3 k0 k1 k2 k3 k4 k5 l0 l1 l2 l3 l4 l5 g3
    unfold NodesEnd at he
    cases hnd : nodesOf d with
    | none =>
     rw [hnd] at he
     simp only at he
     subst he
     have HN := Lib.hid (show ruleOf [a, b, c, d, p] = none by rw [HR.out, HNB.out]; simp [hnd])
     clear hnd
     have HS3 := Lib.hid S3
     clear S3
     go_wp2
     exact HS3.out.door rfl rfl HN.out
    | some t =>
     rw [hnd] at he
     simp only at he
     subst he
     have HND := Lib.hid hnd
     clear hnd
     obtain ⟨k0, k1, k2, k3, k4, k5, l0, l1, l2, l3, l4, l5⟩ := S3.facts
     have g4 : w3.cell? ⟨A, 4, none⟩ = some (.string ⟨p.toArray⟩) := HW.out.later hA S3.b 4 (by simp)
     have HS3 := Lib.hid S3
     have HX3 := Lib.hid (HX.out.below (S3.set2 t).b)
     clear S3
     go_wp2_with fail
     refine (ports_any p (HLEN.out p (by simp)) _ HX3.out).mono ?_
     rintro e w4 ⟨hb4, he⟩
     have S4 := (HS3.out.set2 t).later hb4
     clear hb4 k0 k1 k2 k3 k4 k5 l0 l1 l2 l3 l4 l5 g4
     unfold PortsEnd at he
     cases hpp : portsOf p with
     | none =>
      rw [hpp] at he
      simp only at he
      subst he
      have HN := Lib.hid (show ruleOf [a, b, c, d, p] = none by rw [HR.out, HNB.out]; simp [HND.out, hpp])
      clear hpp
      have HS4 := Lib.hid S4
      clear S4
      go_wp2
      exact HS4.out.door rfl rfl HN.out
     | some q =>
      obtain ⟨lo, hi⟩ := q
      rw [hpp] at he
      simp only at he
      subst he
      have HRR := Lib.hid (show ruleOf [a, b, c, d, p] = some (true, f, t, lo, hi) by rw [HR.out, HNB.out]; simp [HND.out, hpp])
      clear hpp
      obtain ⟨k0, k1, k2, k3, k4, k5, l0, l1, l2, l3, l4, l5⟩ := S4.facts
      have HS4 := Lib.hid S4
      clear S4
      go_wp2
      exact ((((((((HS4.out.set3 lo).set4 hi).set0 true).set1 f).set2 t).set3 lo).set4 hi).setO true).yes rfl rfl HRR.out
  ·have HAL : Hid ((a == allowB) = false) := Lib.hid ha1
   have hr : ruleOf [a, b, c, d, p] = (nodesOf b).bind fun f => (nodesOf d).bind fun t => (portsOf p).map fun q => (false, f, t, q.1, q.2) := by
    rw [ruleOf_five, hh.out, HC1.out, HAL.out]; rfl
   have HR := Lib.hid hr
   clear hr hh
   go_enter_defers Tryz.func59, Tryz.ntmps59
   go_wp2_with fail
   refine (must_yes _).mono ?_
   rintro e w3 ⟨rfl, rfl⟩
   have g1 : w.cell? ⟨A, 1, none⟩ = some (.string ⟨b.toArray⟩) := HW.out 1 (by simp)
   go_wp2_with fail
   refine (nodes_any b (Nat.le_trans (HLEN.out b (by simp)) (by decide)) _).mono ?_
   rintro e w2 ⟨hb2, he⟩
   have S2 := (St.new w false).later hb2
   clear hb2 g0 g1 g2
   unfold NodesEnd at he
   cases hnb : nodesOf b with
   | none =>
    rw [hnb] at he
    simp only at he
    subst he
    have HN := Lib.hid (show ruleOf [a, b, c, d, p] = none by rw [HR.out, hnb]; rfl)
    clear hnb
    have HS2 := Lib.hid S2
    clear S2
    go_wp2
    exact HS2.out.door rfl rfl HN.out
   | some f =>
    rw [hnb] at he
    simp only at he
    subst he
    have HNB := Lib.hid hnb
    clear hnb
    obtain ⟨k0, k1, k2, k3, k4, k5, l0, l1, l2, l3, l4, l5⟩ := S2.facts
    have g3 : w2.cell? ⟨A, 3, none⟩ = some (.string ⟨d.toArray⟩) := HW.out.later hA S2.b 3 (by simp)
    have HS2 := Lib.hid S2
    clear S2
    go_wp2_with fail
    refine (nodes_any d (Nat.le_trans (HLEN.out d (by simp)) (by decide)) _).mono ?_
    rintro e w3 ⟨hb3, he⟩
    have S3 := (HS2.out.set1 f).later hb3
    clear hb3 k0 k1 k2 k3 k4 k5 l0 l1 l2 l3 l4 l5 g3
    unfold NodesEnd at he
    cases hnd : nodesOf d with
    | none =>
     rw [hnd] at he
     simp only at he
     subst he
     have HN := Lib.hid (show ruleOf [a, b, c, d, p] = none by rw [HR.out, HNB.out]; simp [hnd])
     clear hnd
     have HS3 := Lib.hid S3
     clear S3
     go_wp2
     exact HS3.out.door rfl rfl HN.out
    | some t =>
     rw [hnd] at he
     simp only at he
     subst he
     have HND := Lib.hid hnd
     clear hnd
     obtain ⟨k0, k1, k2, k3, k4, k5, l0, l1, l2, l3, l4, l5⟩ := S3.facts
     have g4 : w3.cell? ⟨A, 4, none⟩ = some (.string ⟨p.toArray⟩) := HW.out.later hA S3.b 4 (by simp)
     have HS3 := Lib.hid S3
     have HX3 := Lib.hid (HX.out.below (S3.set2 t).b)
     clear S3
     go_wp2_with fail
     refine (ports_any p (HLEN.out p (by simp)) _ HX3.out).mono ?_
     rintro e w4 ⟨hb4, he⟩
     have S4 := (HS3.out.set2 t).later hb4
     clear hb4 k0 k1 k2 k3 k4 k5 l0 l1 l2 l3 l4 l5 g4
     unfold PortsEnd at he
     cases hpp : portsOf p with
     | none =>
      rw [hpp] at he
      simp only at he
      subst he
      have HN := Lib.hid (show ruleOf [a, b, c, d, p] = none by rw [HR.out, HNB.out]; simp [HND.out, hpp])
      clear hpp
      have HS4 := Lib.hid S4
      clear S4
      go_wp2
      exact HS4.out.door rfl rfl HN.out
     | some q =>
      obtain ⟨lo, hi⟩ := q
      rw [hpp] at he
      simp only at he
      subst he
      have HRR := Lib.hid (show ruleOf [a, b, c, d, p] = some (false, f, t, lo, hi) by rw [HR.out, HNB.out]; simp [HND.out, hpp])
      clear hpp
      obtain ⟨k0, k1, k2, k3, k4, k5, l0, l1, l2, l3, l4, l5⟩ := S4.facts
      have HS4 := Lib.hid S4
      clear S4
      go_wp2
      exact ((((((((HS4.out.set3 lo).set4 hi).set0 false).set1 f).set2 t).set3 lo).set4 hi).setO true).yes rfl rfl HRR.out
  ·have hn : ruleOf [a, b, c, d, p] = none := by
    rw [ruleOf_five, hh.out]; simp
   have HN := Lib.hid hn
   clear hn
   go_enter_defers Tryz.func59, Tryz.ntmps59
   go_wp2_with fail
   refine (must_no _).mono ?_
   rintro e w3 ⟨rfl, rfl⟩
   go_wp2
   exact (St.new w false).door rfl rfl HN.out
 ·have hc1 : (c == [62]) = false := by simpa using hc
  have hn : ruleOf [a, b, c, d, p] = none := by
   rw [ruleOf_five, hc1]; simp
  have HN := Lib.hid hn
  clear hn hc
  by_cases ha : (a == [97, 108, 108, 111, 119]) = true
  ·go_enter_defers Tryz.func59, Tryz.ntmps59
   go_wp2_with fail
   refine (must_no _).mono ?_
   rintro e w3 ⟨rfl, rfl⟩
   go_wp2
   exact (St.new w false).door rfl rfl HN.out
  ·have ha1 : (a == [97, 108, 108, 111, 119]) = false := by simpa using ha
   clear ha
   by_cases hd : (a == [100, 101, 110, 121]) = true
   ·go_enter_defers Tryz.func59, Tryz.ntmps59
    go_wp2_with fail
    refine (must_no _).mono ?_
    rintro e w3 ⟨rfl, rfl⟩
    go_wp2
    exact (St.new w false).door rfl rfl HN.out
   ·have hd1 : (a == [100, 101, 110, 121]) = false := by simpa using hd
    clear hd
    go_enter_defers Tryz.func59, Tryz.ntmps59
    go_wp2_with fail
    refine (must_no _).mono ?_
    rintro e w3 ⟨rfl, rfl⟩
    go_wp2
    exact (St.new w false).door rfl rfl HN.out
theorem ruleOf_not5 : ∀ (ws : List (List UInt8)), ws.length ≠ 5 → ruleOf ws = none
 | [], _ => rfl
 | [_], _ => rfl
 | [_, _], _ => rfl
 | [_, _, _], _ => rfl
 | [_, _, _, _], _ => rfl
 | [_, _, _, _, _], h => absurd rfl h
 | _ :: _ :: _ :: _ :: _ :: _ :: _, _ => rfl
theorem rule_any (A n cap : Nat) (ws : List (List UInt8)) (hn : ws.length = n) (hlen : ∀ z ∈ ws, z.length ≤ 4294967280) (w : World) (hx : LaidW w) (hA : A < w.heap.size) (hw : Words A ws w) :
  Calls Tryz.prog 59 #[.slice (some ⟨A, 0, none⟩) n cap] w fun e w' => Below w.heap.size w w' ∧ RuleEnd ws e := by
 by_cases h5 : n = 5
 ·subst h5
  match ws, hn with
  | [a, b, c, d, p], _ => exact rule_five A cap a b c d p hlen w hx hA hw
 ·refine (rule_not5 (some ⟨A, 0, none⟩) n cap h5 w).mono ?_
  rintro e w' ⟨hb, he⟩
  refine ⟨hb, ?_⟩
  unfold RuleEnd
  rw [ruleOf_not5 ws (by omega)]
  exact he
end Go.Proofs.YtmgbaefgcdglpaaGreatDoor.Acl
/- acl.Parse: the rules of a text, for all texts. -/
namespace Go.Proofs.YtmgbaefgcdglpaaGreatDoor.Acl
open Go.RowKit Go.Proofs Go.Proofs.YtmgbaefgcdglpaaGreatDoor.PA Go.Lib Go.Proofs.YtmgbaefgcdglpaaGreatDoorW.PrintWords Go.Proofs.YtmgbaefgcdglpaaGreatDoorW.PrintLast Go.Proofs.YtmgbaefgcdglpaaGreatDoorW.PrintMore
attribute [local go_sem] Oper.semAt_some
def isBlank (c : Nat) : Bool := c == 32
def wordsOf (s : List UInt8) : List (List UInt8) := (goFieldsP isBlank ⟨s.toArray⟩).map fun b => b.data.toList
theorem spansFromP_ok (p : Nat → Bool) (s : ByteArray) : ∀ (f pos : Nat) (st : Option Nat) (acc : List (Nat × Nat)), (∀ x ∈ acc, x.1 < x.2 ∧ x.1 < s.size) → (∀ a, st = some a → a < pos ∧ a < s.size) →
  (∀ x ∈ (spansFromP p s f pos st acc).1, x.1 < x.2 ∧ x.1 < s.size) ∧ (∀ a, (spansFromP p s f pos st acc).2 = some a → a < s.size)
 | 0, pos, st, acc, ha, hs => ⟨ha, fun a e => (hs a e).2⟩
 | f + 1, pos, st, acc, ha, hs => by
  unfold spansFromP
  have hw := width_pos s pos
  split
  ·rename_i hpos
   split
   ·cases st with
    | none => exact spansFromP_ok p s f _ _ _ ha (fun a e => by cases e)
    | some a =>
     refine spansFromP_ok p s f _ _ _ (fun x hx => ?_) (fun a e => by cases e)
     rcases List.mem_append.1 hx with h | h
     ·exact ha x h
     ·obtain rfl : x = (a, pos) := by simpa using h
      exact hs a rfl
   ·cases st with
    | none => exact spansFromP_ok p s f _ _ _ ha (fun a e => by cases e; omega)
    | some a => exact spansFromP_ok p s f _ _ _ ha (fun b e => by cases e; have := hs a rfl; omega)
  ·exact ⟨ha, fun a e => (hs a e).2⟩
theorem words_ok {s : List UInt8} {z : List UInt8} (hz : z ∈ wordsOf s) : z ≠ [] ∧ z.length ≤ s.length := by
 unfold wordsOf goFieldsP spansOfP at hz
 obtain ⟨b, hb, rfl⟩ := List.mem_map.1 hz
 obtain ⟨x, hx, rfl⟩ := List.mem_map.1 hb
 obtain ⟨h1, h2⟩ := spansFromP_ok isBlank ⟨s.toArray⟩ (ByteArray.size ⟨s.toArray⟩) 0 none [] (fun x h => by cases h) (fun a e => by cases e)
 have hx2 : x.1 < x.2 ∧ x.1 < (⟨s.toArray⟩ : ByteArray).size := by
  unfold closeSpans at hx
  split at hx
  ·rename_i a ha
   rcases List.mem_append.1 hx with h | h
   ·exact h1 x h
   ·obtain rfl : x = (a, _) := by simpa using h
    exact ⟨h2 a ha, h2 a ha⟩
  ·exact h1 x hx
 have hl : ((⟨s.toArray⟩ : ByteArray).extract x.1 x.2).data.toList = (s.take x.2).drop x.1 := by rw [extract_eq s x.1 x.2]
 rw [hl]
 have hs : x.1 < s.length := by simpa [ByteArray.size] using hx2.2
 refine ⟨fun e => ?_, by simp; omega⟩
 have := congrArg List.length e
 simp at this; omega
def ruleS (r : Bool × Int × Int × Int × Int) : S96 := ⟨r.1, r.2.1, r.2.2.1, r.2.2.2.1, r.2.2.2.2⟩
def skips (ws : List (List UInt8)) : Bool := ws.isEmpty || (ws.getD 0 []).getD 0 0 == 35
def linesOf : List (List UInt8) → List S96 → List S96 × Int
 | [], acc => (acc, 0)
 | l :: ls, acc => if skips (wordsOf l) = true then linesOf ls acc else
  match ruleOf (wordsOf l) with
  | none => ([], 210)
  | some r => if acc.length = 32 then ([], 5) else linesOf ls (acc ++ [ruleS r])
def parseOf (s : List UInt8) : List S96 × Int := if s.length > 1024 then ([], 5) else linesOf (splitB 10 s) []
def ParseEnd (s : List UInt8) (N : Nat) (e : Ending) (w' : World) : Prop :=
 ∃ v0_ : Value, e = .returned (.tuple #[v0_, .int .i64 (parseOf s).2]) ∧ Kd.R k96 96 w' N (fun _ => True) v0_ (parseOf s).1
theorem blank_pred (w : World) : PredGrows Tryz.prog 58 #[] isBlank w := by
 intro W x hx hb
 go_enter Tryz.func58, Tryz.ntmps58
 go_wp2
 refine bodyPost_ret (results_tmp rfl _ _ _) rfl ⟨?_, Below.refl _ _⟩
 have e : ((x : Int) == 32) = isBlank x := by
  unfold isBlank
  rw [Bool.eq_iff_iff]; simp only [beq_iff_eq]; omega
 simp [e]
def flatS (l : List S96) : List Value := l.flatMap fun x => [.bool x.f0, .int .i64 x.f1, .int .i64 x.f2, .int .i64 x.f3, .int .i64 x.f4]
theorem flatS_snoc (l : List S96) (x : S96) : flatS (l ++ [x]) = flatS l ++ [.bool x.f0, .int .i64 x.f1, .int .i64 x.f2, .int .i64 x.f3, .int .i64 x.f4] := by simp [flatS]
theorem reps_flatS (R : S96 → List Value → Prop) (hR : ∀ x, R x [.bool x.f0, .int .i64 x.f1, .int .i64 x.f2, .int .i64 x.f3, .int .i64 x.f4]) (l : List S96) : Reps R 5 l (flatS l) := by
 have key : ∀ (l acc : List S96), Reps R 5 acc (flatS acc) → Reps R 5 (acc ++ l) (flatS (acc ++ l)) := by
  intro l
  induction l with
  | nil => intro acc h; simpa using h
  | cons x l ih =>
   intro acc h
   have := ih (acc ++ [x]) (by rw [flatS_snoc]; exact h.snoc (hR x) rfl)
   simpa using this
 simpa using key l [] (Reps.none _ _)
theorem own_R {W : World} {N B : Nat} {v : Value} {l : List S96} (h : W.ownsRow B 96 5 v l.length (flatS l)) (hN : N ≤ B) : Kd.R k96 96 W N (fun _ => True) v l :=
 ⟨fun _ _ => trivial, flatS l, Joins.ownsRow_le h hN, reps_flatS _ (fun x => k96_mkM _ _ _ x) l⟩
theorem own_words {W : World} {B A : Nat} {l : List ByteArray} (h : W.ownsRow B 9 1 (.slice (some ⟨A, 0, none⟩) l.length l.length) l.length (l.map Value.string)) : Words A (l.map fun b => b.data.toList) W ∧ A < W.heap.size := by
 rcases h.2 with ⟨h, _⟩ | ⟨g, cap, cur, e, hb, hh, h1, h2, h3, h4⟩
 ·cases h
 ·obtain ⟨rfl, rfl⟩ : A = g ∧ l.length = cap := by simpa using e
  refine ⟨fun j hj => ?_, (Array.getElem?_eq_some_iff.1 hh).1⟩
  have hj' : j < l.length := by simpa using hj
  simp only [World.cell?, hh]
  have h5 := congrArg (fun z : List Value => z[j]?) h4
  simp only [Nat.mul_one, List.getElem?_map] at h5
  rw [List.getElem?_take_of_lt hj'] at h5
  rw [Array.getElem?_toList] at h5
  simp only [List.getD_eq_getElem?_getD, List.getElem?_map]
  cases hq : l[j]? with
  | none => rw [List.getElem?_eq_none_iff] at hq; omega
  | some b => rw [hq] at h5; simpa using h5
theorem res22 {W : World} {tmps : Array Value} {N : Nat} {A : Option Addr} {n c : Nat} {r : Int} (h2 : tmps[2]? = some (.pointer (some ⟨N, 0, none⟩))) (h3 : tmps[3]? = some (.pointer (some ⟨N + 1, 0, none⟩)))
  (c1 : W.cell? ⟨N, 0, none⟩ = some (.slice A n c)) (c2 : W.cell? ⟨N + 1, 0, none⟩ = some (.int .i64 r)) : (results Tryz.f21 tmps).run Tryz.prog W = .ok (.tuple #[.slice A n c, .int .i64 r]) W := by
 simp [results, Tryz.results21, go_sem, h2, h3, c1, c2]
structure PW (w W : World) (N : Nat) (vr : Value) (r : Int) (v : Value) : Prop where
 res : W.heap[N]? = some (.cells #[vr] 40 (0, 0))
 err : W.heap[N + 1]? = some (.cells #[.int .i64 r] 32 (0, 0))
 out : W.heap[N + 2]? = some (.cells #[v] 40 (0, 0))
 b : Below N w W
 big : N + 6 ≤ W.heap.size
theorem splitB_len (c : UInt8) : ∀ (l z : List UInt8), z ∈ splitB c l → z.length ≤ l.length
 | [], z, h => by simp [splitB] at h; simp [h]
 | a :: l, z, h => by
  have ih := splitB_len c l
  have hne := splitB_ne c l
  unfold splitB at h
  cases hq : splitB c l with
  | nil => exact absurd hq hne
  | cons q qs =>
   rw [hq] at h ih
   have h1 := ih q (by simp)
   split at h
   ·rcases List.mem_cons.1 h with rfl | h
    ·simp
    ·have := ih z h; simp; omega
   ·rcases List.mem_cons.1 h with rfl | h
    ·simp; omega
    ·have := ih z (by simp [show z ∈ qs by simpa using h]); simp; omega
theorem PW.facts {w W : World} {N : Nat} {vr v : Value} {r : Int} (h : PW w W N vr r v) : W.cell? ⟨N, 0, none⟩ = some vr ∧ W.cell? ⟨N + 1, 0, none⟩ = some (.int .i64 r) ∧ W.cell? ⟨N + 1 + 1, 0, none⟩ = some v ∧
  W.frozen? ⟨N, 0, none⟩ = false ∧ W.frozen? ⟨N + 1, 0, none⟩ = false ∧ W.frozen? ⟨N + 1 + 1, 0, none⟩ = false :=
 ⟨cell_of_one' h.res, cell_of_one' h.err, cell_of_one' h.out, by simp [World.frozen?, h.res], by simp [World.frozen?, h.err], by simp [World.frozen?, h.out]⟩
theorem keep_below {N : Nat} {W W1 : World} (hbig : N + 6 ≤ W.heap.size) (hb : Below W.heap.size W W1) : keep3 (N + 4) (N + 3) (N + 5) W W1 := ⟨hb.block _ (by omega), hb.block _ (by omega), hb.block _ (by omega)⟩
theorem own_below {B : Nat} {e : TypeId} {k : Nat} {v : Value} {n : Nat} {xs : List Value} {w w' : World} (h : w.ownsRow B e k v n xs) (hb : Below w.heap.size w w') : w'.ownsRow B e k v n xs :=
 h.kept (row := none) ⟨hb.os, hb.tape, hb.output, hb.size, fun j hj _ => hb.block j hj⟩ (by cases hv : v.ownBlock <;> simp)
theorem lines_skip {p : List UInt8} {ls : List (List UInt8)} {acc : List S96} (hs : skips (wordsOf p) = true) : linesOf (p :: ls) acc = linesOf ls acc := by rw [linesOf, if_pos hs]
theorem lines_bad {p : List UInt8} {ls : List (List UInt8)} {acc : List S96} (hs : skips (wordsOf p) = false) (hr : ruleOf (wordsOf p) = none) : linesOf (p :: ls) acc = ([], 210) := by rw [linesOf, if_neg (by rw [hs]; decide), hr]
theorem lines_full {p : List UInt8} {ls : List (List UInt8)} {acc : List S96} {r} (hs : skips (wordsOf p) = false) (hr : ruleOf (wordsOf p) = some r) (hl : acc.length = 32) : linesOf (p :: ls) acc = ([], 5) := by rw [linesOf, if_neg (by rw [hs]; decide), hr]; simp [hl]
theorem lines_add {p : List UInt8} {ls : List (List UInt8)} {acc : List S96} {r} (hs : skips (wordsOf p) = false) (hr : ruleOf (wordsOf p) = some r) (hl : acc.length ≠ 32) : linesOf (p :: ls) acc = linesOf ls (acc ++ [ruleS r]) := by rw [linesOf, if_neg (by rw [hs]; decide), hr]; simp [hl]
theorem toNat35 {c : UInt8} (h : c.toNat = 35) : c = 35 := UInt8.toNat_inj.1 h
theorem six (w : World) (a b c d e f : Obj) (W : World) (h : (((((w.alloc a).alloc b).alloc c).alloc d).alloc e).alloc f = W) :
  W.heap[w.heap.size]? = some a ∧ W.heap[w.heap.size + 1]? = some b ∧ W.heap[w.heap.size + 2]? = some c ∧ W.heap[w.heap.size + 3]? = some d ∧ W.heap[w.heap.size + 4]? = some e ∧ W.heap[w.heap.size + 5]? = some f := by
 subst h
 have h0 := four0 w a b c d
 have h1 := four1 w a b c d
 have h2 := four2 w a b c d
 have h3 := four3 w a b c d
 have h4 := World.alloc_heap_new ((((w.alloc a).alloc b).alloc c).alloc d) e
 have h5 := World.alloc_heap_new (((((w.alloc a).alloc b).alloc c).alloc d).alloc e) f
 simp only [World.size_alloc] at h4 h5
 have up : ∀ k o, k < w.heap.size + 4 → ((((w.alloc a).alloc b).alloc c).alloc d).heap[k]? = some o → ((((((w.alloc a).alloc b).alloc c).alloc d).alloc e).alloc f).heap[k]? = some o := fun k o hk h =>
  ((Below.heap_alloc _ _ _ (by simp; omega)).trans (Below.heap_alloc _ _ _ (by simp; omega))).trans h
 exact ⟨up _ _ (by omega) h0, up _ _ (by omega) h1, up _ _ (by omega) h2, up _ _ (by omega) h3, (Below.heap_alloc _ _ _ (by simp)).trans h4, h5⟩
theorem keepsOthers_below {W W' : World} (h : Below W.heap.size W W') : KeepsOthers W W' := ⟨h.size, fun k _ hk _ => (h.block k (Array.getElem?_eq_some_iff.1 hk).1).trans hk⟩
theorem below_step' {N : Nat} {w W W' : World} (h : Below N w W) (hb : Below W.heap.size W W') (hN : N ≤ W.heap.size := by first | assumption | omega) : Below N w W' := h.trans (hb.mono hN)
theorem PW.later {w W W' : World} {N : Nat} {vr v : Value} {r : Int} (h : PW w W N vr r v) (hb : Below W.heap.size W W') : PW w W' N vr r v :=
 have hN : N ≤ W.heap.size := Nat.le_of_lt (Array.getElem?_eq_some_iff.1 h.res).1
 ⟨(hb.block _ (Array.getElem?_eq_some_iff.1 h.res).1).trans h.res, (hb.block _ (Array.getElem?_eq_some_iff.1 h.err).1).trans h.err, (hb.block _ (Array.getElem?_eq_some_iff.1 h.out).1).trans h.out, below_step' h.b hb, Nat.le_trans h.big hb.size⟩
theorem PW.set0 {w W : World} {N : Nat} {vr v : Value} {r : Int} (h : PW w W N vr r v) (u : Value) : PW w (W.setCell ⟨N, 0, none⟩ u) N u r v :=
 ⟨heap_set_one h.res _, (Below.heap_setCell W _ _ _ (by show N + 1 ≠ N; omega)).trans h.err, (Below.heap_setCell W _ _ _ (by show N + 2 ≠ N; omega)).trans h.out, h.b.setCell (Nat.le_refl _) _, Nat.le_trans h.big (grownBy_setCell' W N u).size⟩
theorem PW.set1 {w W : World} {N : Nat} {vr v : Value} {r : Int} (h : PW w W N vr r v) (u : Int) : PW w (W.setCell ⟨N + 1, 0, none⟩ (.int .i64 u)) N vr u v :=
 ⟨(Below.heap_setCell W _ _ _ (by show N ≠ N + 1; omega)).trans h.res, heap_set_one h.err _, (Below.heap_setCell W _ _ _ (by show N + 2 ≠ N + 1; omega)).trans h.out, h.b.setCell (by show N ≤ N + 1; omega) _, Nat.le_trans h.big (grownBy_setCell' W (N + 1) _).size⟩
theorem PW.set2 {w W : World} {N : Nat} {vr v : Value} {r : Int} (h : PW w W N vr r v) (u : Value) : PW w (W.setCell ⟨N + 1 + 1, 0, none⟩ u) N vr r u :=
 ⟨(Below.heap_setCell W _ _ _ (by show N ≠ N + 1 + 1; omega)).trans h.res, (Below.heap_setCell W _ _ _ (by show N + 1 ≠ N + 1 + 1; omega)).trans h.err, heap_set_one h.out _, h.b.setCell (by show N ≤ N + 1 + 1; omega) _, Nat.le_trans h.big (grownBy_setCell' W (N + 1 + 1) _).size⟩
theorem PW.alloc {w W : World} {N : Nat} {vr v : Value} {r : Int} (h : PW w W N vr r v) (o : Obj) : PW w (W.alloc o) N vr r v := h.later ((Below.refl _ W).alloc (Nat.le_refl _) o)
theorem PW.grown {w W W' : World} {N : Nat} {vr v : Value} {r : Int} (h : PW w W N vr r v) {row : Option Nat} (hg : W.grownBy W' row) (hr : ∀ k, row = some k → N + 6 ≤ k) : PW w W' N vr r v :=
 have hb := h.big
 ⟨(hg.block _ (by omega) (fun e => by have := hr _ e.symm; omega)).trans h.res, (hg.block _ (by omega) (fun e => by have := hr _ e.symm; omega)).trans h.err, (hg.block _ (by omega) (fun e => by have := hr _ e.symm; omega)).trans h.out,
  h.b.grown hg (by omega) (fun k e => by have := hr k e; omega), Nat.le_trans h.big hg.size⟩
theorem PW.put {w W : World} {N : Nat} {vr v : Value} {r : Int} (h : PW w W N vr r v) {l : Nat} (hl : N + 6 ≤ l) (o' : Obj) : PW w (W.putObj l o') N vr r v := h.grown (grownBy_putObj' W l o') (fun k e => by cases e; omega)
theorem own_ge {W : World} {B : Nat} {e : TypeId} {k : Nat} {v : Value} {n : Nat} {xs : List Value} (h : W.ownsRow B e k v n xs) : ∀ g, v.ownBlock = some g → B ≤ g := by
 rcases h.2 with ⟨rfl, _⟩ | ⟨g, cap, cur, rfl, hb, _⟩
 ·intro g e; simp [Value.ownBlock] at e
 ·intro g' e; simp [Value.ownBlock] at e; omega
theorem own_cells {W : World} {B : Nat} {e : TypeId} {k : Nat} {v : Value} {n : Nat} {xs : List Value} (h : W.ownsRow B e k v n xs) (j : Nat) (o : Obj) (hj : v.ownBlock = some j) (ho : W.heap[j]? = some o) : o.isCells = true := by
 rcases h.2 with ⟨rfl, _⟩ | ⟨g, cap, cur, rfl, _, hh, _⟩
 ·simp [Value.ownBlock] at hj
 ·obtain rfl : g = j := by simpa [Value.ownBlock] using hj
  rw [hh] at ho; cases ho; rfl
theorem own_slice {W : World} {B : Nat} {e : TypeId} {k : Nat} {v : Value} {n : Nat} {xs : List Value} (h : W.ownsRow B e k v n xs) : ∃ A c, v = .slice A n c := by
 rcases h.2 with ⟨rfl, rfl⟩ | ⟨g, cap, cur, rfl, _⟩
 ·exact ⟨_, _, rfl⟩
 ·exact ⟨_, _, rfl⟩
theorem keep_set {N : Nat} {W : World} {a : Addr} (v : Value) (ha : a.block < N + 3) : keep3 (N + 4) (N + 3) (N + 5) W (W.setCell a v) :=
 ⟨Below.heap_setCell W _ _ _ (by omega), Below.heap_setCell W _ _ _ (by omega), Below.heap_setCell W _ _ _ (by omega)⟩
theorem keep_grown {N : Nat} {W W' : World} {row : Option Nat} (hbig : N + 6 ≤ W.heap.size) (hg : W.grownBy W' row) (hr : ∀ k, row = some k → N + 6 ≤ k) : keep3 (N + 4) (N + 3) (N + 5) W W' :=
 ⟨hg.block _ (by omega) (fun e => by have := hr _ e.symm; omega), hg.block _ (by omega) (fun e => by have := hr _ e.symm; omega), hg.block _ (by omega) (fun e => by have := hr _ e.symm; omega)⟩
theorem keep_trans {a b c : Nat} {A B C : World} (h : keep3 a b c A B) (k : keep3 a b c B C) : keep3 a b c A C := ⟨k.1.trans h.1, k.2.1.trans h.2.1, k.2.2.trans h.2.2⟩
set_option maxHeartbeats 4000000 in
set_option maxRecDepth 100000 in
theorem parse_in (m : Nat) (s : List UInt8) (w : World) (hx : LaidW w) :
  CallsIn Fence.wide m Tryz.prog 21 #[.string ⟨s.toArray⟩] w fun e w' => Below w.heap.size w w' ∧ ParseEnd s w.heap.size e w' := by
 have hro : Fence.wide.round = none := rfl
 have hde : Fence.wide.depth = none := rfl
 by_cases hlen : s.length > 1024
 ·have hl : (s.length : Int) > 1024 := by omega
  have HL := Lib.hid hlen
  clear hlen
  refine callsIn_of_wp Tryz.func21 rfl trivial ?_ hro
  simp only [Tryz.ntmps21, List.size_toArray, List.length_cons, List.length_nil, Nat.reduceAdd, Nat.reduceSub, Array.replicate_succ, Array.replicate_zero, List.push_toArray, List.append_toArray, List.nil_append, List.cons_append]
  gi_wp2
  have c1 : ((w.alloc (.cells #[.slice none 0 0] 40)).alloc (.cells #[.int .i64 5] 32)).cell? ⟨w.heap.size, 0, none⟩ = some (.slice none 0 0) := by
   have h : ((w.alloc (.cells #[.slice none 0 0] 40)).alloc (.cells #[.int .i64 5] 32)).heap[w.heap.size]? = some (.cells #[.slice none 0 0] 40 (0, 0)) := (Below.heap_alloc _ _ _ (by simp)).trans (World.alloc_heap_new w _)
   exact cell_of_one' h
  have c2 : ((w.alloc (.cells #[.slice none 0 0] 40)).alloc (.cells #[.int .i64 5] 32)).cell? ⟨w.heap.size + 1, 0, none⟩ = some (.int .i64 5) := by
   have h := World.alloc_heap_new (w.alloc (.cells #[.slice none 0 0] 40)) (.cells #[.int .i64 5] 32)
   rw [World.size_alloc] at h
   exact cell_of_one' h
  refine ⟨rfl, _, res22 rfl rfl c1 c2, ((Below.refl _ w).alloc (Nat.le_refl _) _).alloc (by simp) _, ?_⟩
  have e : parseOf s = ([], 5) := by unfold parseOf; rw [if_pos HL.out]
  unfold ParseEnd; rw [e]
  exact ⟨_, rfl, Kd.R_nil _ _ _ _ _⟩
 ·have HL := Lib.hid hlen
  have hl : ¬ (1024 : Int) < (s.length : Int) := by omega
  clear hlen
  have HX := Lib.hid hx
  clear hx
  refine callsIn_of_wp_marks Tryz.func21 rfl trivial ?_ hro
  simp only [Tryz.ntmps21, List.size_toArray, List.length_cons, List.length_nil, Nat.reduceAdd, Nat.reduceSub, Array.replicate_succ, Array.replicate_zero, List.push_toArray, List.append_toArray, List.nil_append, List.cons_append]
  gi_wp2_with fail
  refine ⟨trivial, (seq_in hro hde trivial trivial _ _ _).mono ?_⟩
  rintro e w' ⟨rfl, rfl⟩
  gi_wp2_with fail
  obtain ⟨W0, hW0⟩ : ∃ W0, (((((w.alloc (.cells #[.slice none 0 0] 40)).alloc (.cells #[.int .i64 0] 32)).alloc (.cells #[.slice none 0 0] 40)).alloc (.cells #[.string ⟨s.toArray⟩] 9)).alloc (.cells #[.string ⟨#[10]⟩] 9)).alloc (.cells #[.int .i64 0] 3) = W0 := ⟨_, rfl⟩
  rw [hW0]
  have hs0 : W0.heap.size = w.heap.size + 6 := by rw [← hW0]; simp
  have hbel : Below w.heap.size w W0 := by
   rw [← hW0]; exact ((((((Below.refl _ w).alloc (Nat.le_refl _) _).alloc (by simp) _).alloc (by simp; omega) _).alloc (by simp; omega) _).alloc (by simp; omega) _).alloc (by simp; omega) _
  obtain ⟨q0, q1, q2, q3, q4, q5⟩ : W0.heap[w.heap.size]? = some (.cells #[.slice none 0 0] 40 (0, 0)) ∧ W0.heap[w.heap.size + 1]? = some (.cells #[.int .i64 0] 32 (0, 0)) ∧ W0.heap[w.heap.size + 2]? = some (.cells #[.slice none 0 0] 40 (0, 0)) ∧
    W0.heap[w.heap.size + 3]? = some (.cells #[.string ⟨s.toArray⟩] 9 (0, 0)) ∧ W0.heap[w.heap.size + 4]? = some (.cells #[.string ⟨#[10]⟩] 9 (0, 0)) ∧ W0.heap[w.heap.size + 5]? = some (.cells #[.int .i64 0] 3 (0, 0)) := by
   exact six _ _ _ _ _ _ _ _ hW0
  clear hW0
  have hsz : s.length ≤ 1024 := Nat.le_of_not_lt HL.out
  refine range_known (F := Fence.wide) (P := Tryz.prog) hro hde (gf := 151) rfl trivial (enters_of Tryz.func151 (by kernel_rfl) rfl)
   (iter59 hro hde trivial trivial (fun m r c w => index_in hro hde trivial trivial trivial trivial r c w) (m - 1) (w.heap.size + 4) (w.heap.size + 3) (w.heap.size + 5) (by omega) (by omega) 10 s (by omega) W0 q4 q3 q5)
   (fun A B C h k => ⟨k.1.trans h.1, k.2.1.trans h.2.1, k.2.2.trans h.2.2⟩)
   (fun A o hA => ⟨Below.heap_alloc _ _ _ (by omega), Below.heap_alloc _ _ _ (by omega), Below.heap_alloc _ _ _ (by omega)⟩)
   (fun W l o o' hl _ _ => ⟨World.putObj_heap_other (by omega), World.putObj_heap_other (by omega), World.putObj_heap_other (by omega)⟩)
   (fun W W' k o ⟨v, e⟩ hk h ho => by rw [e]; exact (Below.heap_setCell W _ _ _ (by show k ≠ w.heap.size + 3; omega)).trans h)
   (by simp)
   (fun i W => ∃ v acc, PW w W w.heap.size (.slice none 0 0) 0 v ∧ W.ownsRow (w.heap.size + 6) 96 5 v acc.length (flatS acc) ∧ acc.length ≤ 32 ∧ Hid (linesOf ((splitB 10 s).drop i) acc = linesOf (splitB 10 s) []))
   (fun c W => c = .ret ∧ ∃ v r, PW w W w.heap.size (.slice none 0 0) r v ∧ Hid (linesOf (splitB 10 s) [] = ([], r))) (fun ch W => False) (fun ⟨_, _, h⟩ => h.elim)
   ?turns ?turnsx ?aside ?start
   (fun i => { tmps := #[.string ⟨s.toArray⟩, undef, .pointer (some ⟨w.heap.size, 0, none⟩), .pointer (some ⟨w.heap.size + 1, 0, none⟩), .pointer (some ⟨w.heap.size + 1 + 1, 0, none⟩), .string ⟨((splitB 10 s).getD i []).toArray⟩, undef, undef, undef, .string ⟨s.toArray⟩, .int .i64 s.length, .bool false, .string ⟨s.toArray⟩, .func (.func 151) #[] #[.pointer (some ⟨w.heap.size + 1 + 1 + 1 + 1, 0, none⟩), .pointer (some ⟨w.heap.size + 1 + 1 + 1, 0, none⟩), .pointer (some ⟨w.heap.size + 1 + 1 + 1 + 2, 0, none⟩)], .string ⟨((splitB 10 s).getD i []).toArray⟩, undef, undef, undef, undef, undef, undef, undef, undef, undef, undef, undef, undef, undef, undef, undef, undef, undef, undef, undef, undef, undef, undef, undef, undef, undef, undef, undef, undef, undef], defers := [] })
   ?assign ?body ?done ?stop (fun D c W _ h => h.elim)
  case turns =>
   rintro i W l o o' ⟨v, acc, hp, hr, hl, hh⟩ hlb hlo hno
   exact ⟨v, acc, ⟨(World.putObj_heap_other (by omega)).trans hp.res, (World.putObj_heap_other (by omega)).trans hp.err, (World.putObj_heap_other (by omega)).trans hp.out, hp.b.grown (grownBy_putObj' W l o') (Nat.le_of_lt (Array.getElem?_eq_some_iff.1 hp.res).1) (fun k e => by cases e; omega), Nat.le_trans hp.big (grownBy_putObj' W l o').size⟩, ownsRow_putObj hr o' hlo hno, hl, hh⟩
  case turnsx =>
   rintro c W l o o' ⟨rfl, v, r, hp, hh⟩ hlb hlo hno
   exact ⟨rfl, v, r, ⟨(World.putObj_heap_other (by omega)).trans hp.res, (World.putObj_heap_other (by omega)).trans hp.err, (World.putObj_heap_other (by omega)).trans hp.out, hp.b.grown (grownBy_putObj' W l o') (Nat.le_of_lt (Array.getElem?_eq_some_iff.1 hp.res).1) (fun k e => by cases e; omega), Nat.le_trans hp.big (grownBy_putObj' W l o').size⟩, hh⟩
  case aside =>
   rintro i W W' ⟨v, acc, hp, hr, hl, hh⟩ ⟨u, rfl⟩
   exact ⟨v, acc, ⟨(Below.heap_setCell W _ _ _ (by show w.heap.size ≠ w.heap.size + 3; omega)).trans hp.res, (Below.heap_setCell W _ _ _ (by show w.heap.size + 1 ≠ w.heap.size + 3; omega)).trans hp.err, (Below.heap_setCell W _ _ _ (by show w.heap.size + 2 ≠ w.heap.size + 3; omega)).trans hp.out, hp.b.setCell (by show w.heap.size ≤ w.heap.size + 3; omega) _, Nat.le_trans hp.big (grownBy_setCell' W (w.heap.size + 3) u).size⟩, ownsRow_setCell_below hr (by show w.heap.size + 3 < w.heap.size + 6; omega) u, hl, hh⟩
  case start =>
   intro o o'
   have hb : Below W0.heap.size W0 ((W0.alloc o).alloc o') := ((Below.refl _ W0).alloc (Nat.le_refl _) _).alloc (by simp) _
   exact ⟨_, [], PW.later ⟨q0, q1, q2, hbel, by omega⟩ hb, World.ownsRow_nil _ _ _ _, by simp, Lib.hid (by simp)⟩
  case assign =>
   intro l i x W K hix hK
   have hx : x = #[.string ⟨((splitB 10 s).getD i []).toArray⟩] := by
    rw [List.getElem?_map] at hix
    cases hq : (splitB 10 s)[i]? with
    | none => rw [hq] at hix; cases hix
    | some q => rw [hq] at hix; rw [List.getD_eq_getElem?_getD, hq]; exact (Option.some.inj hix).symm
   rw [hx]
   gi_wp2
   exact hK
  case body =>
   rintro l i W hi ⟨v, acc, hp, hr, hl, hh⟩
   obtain ⟨Av, cv, rfl⟩ := own_slice hr
   have hi' : i < (splitB 10 s).length := by simpa using hi
   obtain ⟨p, hpp⟩ : ∃ p, p = (splitB 10 s).getD i [] := ⟨_, rfl⟩
   rw [← hpp]
   have hdr : (splitB 10 s).drop i = p :: (splitB 10 s).drop (i + 1) := by
    rw [List.drop_eq_getElem_cons hi', hpp, List.getD_eq_getElem?_getD, List.getElem?_eq_getElem hi']; rfl
   have HDR := Lib.hid hdr
   have hpl : p.length ≤ 1024 := by
    have := splitB_len 10 s p (by rw [hpp, List.getD_eq_getElem?_getD, List.getElem?_eq_getElem hi']; exact List.getElem_mem hi')
    omega
   clear hdr hpp hi hi'
   have hNW : w.heap.size + 2 < W.heap.size := (Array.getElem?_eq_some_iff.1 hp.out).1
   have HP := Lib.hid hp; have HRW := Lib.hid hr
   have HX1 := Lib.hid (HX.out.below hp.b)
   clear hp hr q0 q1 q2 q3 q4 q5
   gi_wp2_with fail
   refine ⟨trivial, CallsIn.inRound l (callsIn_wide.2 ((Tryz.strings_FieldsFunc_grows 58 #[] (enters_of Tryz.func58 (by kernel_rfl) rfl) isBlank ⟨p.toArray⟩ W (by simp [ByteArray.size]; omega) (blank_pred W)).mono ?_))⟩
   rintro e W1 ⟨A, rfl, hA, hown, hb1⟩
   obtain ⟨hw1, hA1⟩ := own_words hown
   clear hown
   have hwd : wordsOf p = (goFieldsP isBlank ⟨p.toArray⟩).map fun b => b.data.toList := rfl
   generalize hL : goFieldsP isBlank ⟨p.toArray⟩ = L at hw1 hwd ⊢
   have HWD := Lib.hid hwd; have HW1 := Lib.hid hw1; have HB1 := Lib.hid hb1
   clear hwd hw1 hL hb1
   have hokw : ∀ z ∈ L.map fun b => b.data.toList, z ≠ [] ∧ z.length ≤ p.length := fun z hz => words_ok (by rw [HWD.out]; exact hz)
   have HOKW := Lib.hid hokw
   clear hokw
   cases L with
   | nil =>
    have hsk : skips (wordsOf p) = true := by rw [HWD.out]; rfl
    have HSK := Lib.hid hsk
    have HHN := Lib.hid hh.out
    clear hsk hh
    gi_wp2
    exact ⟨(keepsOthers_below HB1.out).from _, keep_below HP.out.big HB1.out, _, acc, HP.out.later HB1.out, own_below HRW.out HB1.out, hl, Lib.hid (by rw [← lines_skip HSK.out, ← HDR.out]; exact HHN.out)⟩
   | cons b0 L =>
    obtain ⟨c, z, hcz⟩ : ∃ c z, b0.data.toList = c :: z := by
     have := (HOKW.out b0.data.toList (by simp)).1
     cases h : b0.data.toList with
     | nil => exact absurd h this
     | cons c z => exact ⟨c, z, rfl⟩
    have hbz : b0 = ⟨(c :: z).toArray⟩ := by
     rw [← hcz]
    subst hbz
    clear hcz
    have g0 : W1.cell? ⟨A, 0, none⟩ = some (.string ⟨(c :: z).toArray⟩) := HW1.out 0 (by simp)
    have hz : (⟨(c :: z).toArray⟩ : ByteArray)[0]'(by simp [ByteArray.size]) = c := rfl
    have HHN := Lib.hid hh.out
    have hn0 : ((L.length : Int) + 1 == 0) = false := beq_eq_false_iff_ne.2 (by omega)
    by_cases hc : c = 35
    ·have hcb : ((c.toNat : Int) == 35) = true := by rw [hc]; decide
     have hsk : skips (wordsOf p) = true := by rw [HWD.out]; simp [skips, hc]
     have HSK := Lib.hid hsk
     clear hsk hh hc
     gi_wp2
     exact ⟨(keepsOthers_below HB1.out).from _, keep_below HP.out.big HB1.out, _, acc, HP.out.later HB1.out, own_below HRW.out HB1.out, hl, Lib.hid (by rw [← lines_skip HSK.out, ← HDR.out]; exact HHN.out)⟩
    ·have hcb : ((c.toNat : Int) == 35) = false := beq_eq_false_iff_ne.2 (fun e => hc (toNat35 (by omega)))
     have hsk : skips (wordsOf p) = false := by rw [HWD.out]; simp [skips, hc]
     have HSK := Lib.hid hsk
     clear hsk hh hc
     have HX2 := Lib.hid (HX1.out.below HB1.out)
     gi_wp2_with fail
     refine ⟨trivial, CallsIn.inRound l (callsIn_wide.2 ((rule_any A (L.length + 1) (L.length + 1) ((⟨(c :: z).toArray⟩ :: L).map fun b => b.data.toList) (by simp) (fun y hy => Nat.le_trans (HOKW.out y hy).2 (by omega)) W1 HX2.out hA1 HW1.out).mono ?_))⟩
     rintro e W2 ⟨hb2, he⟩
     rw [← HWD.out] at he
     have hb2' : Below W.heap.size W W2 := HB1.out.trans (hb2.mono HB1.out.size)
     have HB2 := Lib.hid hb2'
     have HP2 := Lib.hid (HP.out.later hb2')
     have HR2 := Lib.hid (own_below HRW.out hb2')
     clear hb2 hb2' g0 hz
     obtain ⟨k0, k1, k2, f0, f1, f2⟩ := HP2.out.facts
     have hbig := HP2.out.big
     have m0 : w.heap.size < W2.heap.size := by omega
     have m1 : w.heap.size + 1 < W2.heap.size := by omega
     have m2 : w.heap.size + 1 + 1 < W2.heap.size := by omega
     have n0 : ¬ w.heap.size = W2.heap.size := by omega
     have n1 : ¬ w.heap.size + 1 = W2.heap.size := by omega
     have n2 : ¬ w.heap.size + 1 + 1 = W2.heap.size := by omega
     have o0 : ¬ W2.heap.size = w.heap.size := by omega
     have o1 : ¬ W2.heap.size = w.heap.size + 1 := by omega
     have o2 : ¬ W2.heap.size = w.heap.size + 1 + 1 := by omega
     clear hbig
     unfold RuleEnd at he
     cases hru : ruleOf (wordsOf p) with
     | none =>
      rw [hru] at he
      simp only [ruleV] at he
      subst he
      have HEND := Lib.hid (show linesOf (splitB 10 s) [] = ([], 210) by rw [← HHN.out, HDR.out, lines_bad HSK.out hru])
      clear hru
      gi_wp2
      exact ⟨((((keepsOthers_below HB2.out).trans (KeepsOthers.setCell _ _ _)).trans (KeepsOthers.setCell _ _ _)).trans (KeepsOthers.alloc _ _)).from _, rfl, _, _, ((HP2.out.set0 _).set1 _).alloc _, HEND⟩
     | some r =>
      obtain ⟨x0, x1, x2, x3, x4⟩ := r
      rw [hru] at he
      simp only [ruleV] at he
      subst he
      by_cases h32 : acc.length = 32
      ·have HEND := Lib.hid (show linesOf (splitB 10 s) [] = ([], 5) by rw [← HHN.out, HDR.out, lines_full HSK.out hru h32])
       clear hru
       have h32' : ((acc.length : Int) == 32) = true := by rw [h32]; rfl
       clear h32 hl
       gi_wp2
       exact ⟨((((keepsOthers_below HB2.out).trans (KeepsOthers.setCell _ _ _)).trans (KeepsOthers.setCell _ _ _)).trans (KeepsOthers.alloc _ _)).from _, rfl, _, _, ((HP2.out.set0 _).set1 _).alloc _, HEND⟩
      ·have HEND := Lib.hid (show linesOf ((splitB 10 s).drop (i + 1)) (acc ++ [⟨x0, x1, x2, x3, x4⟩]) = linesOf (splitB 10 s) [] by rw [← HHN.out, HDR.out, lines_add HSK.out hru h32]; rfl)
       have h32' : ((acc.length : Int) == 32) = false := beq_eq_false_iff_ne.2 (by omega)
       have hl2 : acc.length + 1 ≤ 32 := by omega
       have HL2 := Lib.hid hl2
       clear hru h32 hl hl2
       obtain ⟨i0, hi, hzz⟩ := Option.map_eq_some_iff.1 info96
       simp only [Prod.mk.injEq] at hzz
       obtain ⟨hz0, hz1, hz2⟩ := hzz
       have HI := Lib.hid hi; have HZ0 := Lib.hid hz0; have HZ1 := Lib.hid hz1; have HZ2 := Lib.hid hz2
       clear hi hz0 hz1 hz2
       gi_wp2_with (first | (gi_at_builtin; refine wpListIn_append_own _ rfl _ _ 40 rfl (w.heap.size + 6) 96 i0 (.agg #[.bool false, .int .i64 0, .int .i64 0, .int .i64 0, .int .i64 0]) 5 40 Tryz.underlying40 HI.out HZ0.out HZ1.out HZ2.out rfl (by decide) _ _ _ rfl ((HR2.out.alloc _).alloc _) ⟨W2.heap.size + 1, 0, none⟩ 1 1 [.bool x0, .int .i64 x1, .int .i64 x2, .int .i64 x3, .int .i64 x4] rfl rfl ?c1 ?c2 ?c3 ?c4 ?c5 ?_))
       case c1 =>
        intro j u hj
        have hb : ((W2.alloc (.cells #[.bool x0, .int .i64 x1, .int .i64 x2, .int .i64 x3, .int .i64 x4] 96)).alloc (.cells #[.bool x0, .int .i64 x1, .int .i64 x2, .int .i64 x3, .int .i64 x4] 96)).heap[W2.heap.size + 1]? = some (.cells #[.bool x0, .int .i64 x1, .int .i64 x2, .int .i64 x3, .int .i64 x4] 96 (0, 0)) := by
         have h := World.alloc_heap_new (W2.alloc (.cells #[.bool x0, .int .i64 x1, .int .i64 x2, .int .i64 x3, .int .i64 x4] 96)) (.cells #[.bool x0, .int .i64 x1, .int .i64 x2, .int .i64 x3, .int .i64 x4] 96)
         rw [World.size_alloc] at h
         exact h
        match j, hj with
        | 0, hj => exact (cell_in hb 0).trans (by simpa using hj)
        | 1, hj => exact (cell_in hb 1).trans (by simpa using hj)
        | 2, hj => exact (cell_in hb 2).trans (by simpa using hj)
        | 3, hj => exact (cell_in hb 3).trans (by simpa using hj)
        | 4, hj => exact (cell_in hb 4).trans (by simpa using hj)
        | j + 5, hj => simp at hj
       case c2 => intro u hu; simp at hu; rcases hu with rfl | rfl | rfl | rfl | rfl <;> rfl
       case c3 => have := HL2.out; unfold maxLen; omega
       case c4 => have := HL2.out; omega
       case c5 => have := HP2.out.big; simp; omega
       intro v' w' hown' hg _
       have hrow : ∀ k, (Value.slice Av acc.length cv).ownBlock = some k → w.heap.size + 6 ≤ k := own_ge HR2.out
       have hpa := ((HP2.out.alloc (.cells #[.bool x0, .int .i64 x1, .int .i64 x2, .int .i64 x3, .int .i64 x4] 96)).alloc (.cells #[.bool x0, .int .i64 x1, .int .i64 x2, .int .i64 x3, .int .i64 x4] 96))
       have hp' := hpa.grown hg hrow
       have HP' := Lib.hid hp'
       have HK := Lib.hid (keep_trans (keep_trans (keep_below HP.out.big (HB2.out.trans (((Below.refl _ W2).alloc HB2.out.size (.cells #[.bool x0, .int .i64 x1, .int .i64 x2, .int .i64 x3, .int .i64 x4] 96)).alloc (by have := HB2.out.size; simp; omega) (.cells #[.bool x0, .int .i64 x1, .int .i64 x2, .int .i64 x3, .int .i64 x4] 96)))) (keep_grown hpa.big hg hrow)) (keep_set (a := ⟨w.heap.size + 1 + 1, 0, none⟩) v' (by show w.heap.size + 1 + 1 < w.heap.size + 3; omega)))
       have HO := Lib.hid (((((keepsOthers_below HB2.out).trans (KeepsOthers.alloc _ _)).trans (KeepsOthers.alloc _ _)).trans (KeepsOthers.of_grownBy hg (own_cells ((HR2.out.alloc (.cells #[.bool x0, .int .i64 x1, .int .i64 x2, .int .i64 x3, .int .i64 x4] 96)).alloc (.cells #[.bool x0, .int .i64 x1, .int .i64 x2, .int .i64 x3, .int .i64 x4] 96))))).trans (KeepsOthers.setCell w' ⟨w.heap.size + 1 + 1, 0, none⟩ v'))
       have HW' := Lib.hid hown'
       clear k0 k1 k2 f0 f1 f2 m0 m1 m2 n0 n1 n2 o0 o1 o2 hp' hpa hg hown' hrow h32'
       obtain ⟨k0, k1, k2, f0, f1, f2⟩ := HP'.out.facts
       obtain ⟨A', c', rfl⟩ := own_slice HW'.out
       gi_wp2
       refine ⟨HO.out.from _, HK.out, _, acc ++ [⟨x0, x1, x2, x3, x4⟩], HP'.out.set2 _, ?_, ?_, HEND⟩
       ·rw [flatS_snoc, List.length_append]
        exact ownsRow_setCell_below HW'.out (by show w.heap.size + 1 + 1 < w.heap.size + 6; omega) _
       ·have := HL2.out; simp; omega
  case done =>
   rintro D W hD ⟨v, acc, hp, hr, hl, hh⟩ hK
   obtain ⟨Av, cv, rfl⟩ := own_slice hr
   obtain ⟨k0, k1, k2, f0, f1, f2⟩ := hp.facts
   have HP := Lib.hid hp
   have hend : parseOf s = (acc, 0) := by
    have e := hh.out
    rw [List.drop_of_length_le (by simp)] at e
    unfold parseOf; rw [if_neg HL.out, ← e]; rfl
   have HEND := Lib.hid hend
   have HR := Lib.hid hr
   have hD6 : w.heap.size + 6 ≤ D := by omega
   clear hp q0 q1 q2 q3 q4 q5 hend hh hr hl
   gi_wp2
   have hK2 : ((W.setCell ⟨w.heap.size, 0, none⟩ (.slice Av acc.length cv)).setCell ⟨w.heap.size + 1, 0, none⟩ (.int .i64 0)).heap[D]? = some (.deferred (some [])) :=
    (Below.heap_setCell _ _ _ _ (by show D ≠ w.heap.size + 1; omega)).trans ((Below.heap_setCell _ _ _ _ (by show D ≠ w.heap.size; omega)).trans hK)
   have hpp := ((HP.out.set0 (.slice Av acc.length cv)).set1 0).put hD6 (.deferred none)
   have hr2 := ownsRow_putObj (ownsRow_setCell_below (ownsRow_setCell_below HR.out (a := ⟨w.heap.size, 0, none⟩) (by show w.heap.size < w.heap.size + 6; omega) (.slice Av acc.length cv)) (a := ⟨w.heap.size + 1, 0, none⟩) (by show w.heap.size + 1 < w.heap.size + 6; omega) (.int .i64 0)) (.deferred none) hK2 rfl
   refine ⟨by simp, .inl ⟨_, _, rfl, run_takeDeferred hK2, ?_⟩⟩
   refine ⟨_, res22 rfl rfl hpp.facts.1 hpp.facts.2.1, hpp.b, ?_⟩
   unfold ParseEnd; rw [HEND.out]
   exact ⟨_, rfl, own_R hr2 (by omega)⟩
  case stop =>
   rintro D c W hD ⟨rfl, v, r, hp, hh⟩ hK
   obtain ⟨k0, k1, k2, f0, f1, f2⟩ := hp.facts
   have HP := Lib.hid hp
   have hend : parseOf s = ([], r) := by
    unfold parseOf; rw [if_neg HL.out]; exact hh.out
   have HEND := Lib.hid hend
   have hD6 : w.heap.size + 6 ≤ D := by omega
   clear hp q0 q1 q2 q3 q4 q5 hend hh
   gi_wp2
   have hpp := HP.out.put hD6 (.deferred none)
   refine ⟨by simp, .inl ⟨_, _, rfl, run_takeDeferred hK, ?_⟩⟩
   refine ⟨_, res22 rfl rfl hpp.facts.1 hpp.facts.2.1, hpp.b, ?_⟩
   unfold ParseEnd; rw [HEND.out]
   exact ⟨_, rfl, Kd.R_nil _ _ _ _ _⟩
theorem parse_any (s : List UInt8) (w : World) (hx : LaidW w) :
  Calls Tryz.prog 21 #[.string ⟨s.toArray⟩] w fun e w' => Below w.heap.size w w' ∧ ParseEnd s w.heap.size e w' :=
 callsIn_wide.1 (parse_in 0 s w hx)
end Go.Proofs.YtmgbaefgcdglpaaGreatDoor.Acl
end
