/- strings.SplitSeq at a separator of one byte: what the iterator hands over, piece by piece, whatever the loop's body does: it goes on, it leaves, or it panics. -/
import Derived.Test.YthnpiimiimiijaaGreatDoorProg
import Derived.Test.YthnpiimiimiijaaGreatDoorShelf
import Derived.RangeFuncNested
import Derived.RangeFuncBound
import Derived.RangeFuncCalls
import Derived.RangeFuncLeaves
import Derived.Shelf.Abstract
import Derived.Shelf.RegionOpen
import Derived.WalkKit
import Derived.OwnWalkIn
import Derived.TacticsInMore
import Derived.LoopNIn
import Derived.LoopIn
import Derived.WalkLawsBesides
import Derived.KernelRfl
import Derived.Lib.Hide
import Derived.Outline
namespace Go.Proofs.YthnpiimiimiijaaGreatDoor.Acl
open Go.RowKit Go.Shelf Go.Proofs
attribute [local go_sem] Oper.semAt_some

/-- The pieces of a text between bytes c. -/
def splitB (c : UInt8) : List UInt8 → List (List UInt8)
  | [] => [[]]
  | x :: r => if x = c then [] :: splitB c r else (x :: (splitB c r).headD []) :: (splitB c r).tail

theorem splitB_ne (c : UInt8) : ∀ l, splitB c l ≠ []
  | [] => by simp [splitB]
  | x :: r => by unfold splitB; split <;> simp

def keep3 (a b c : Nat) (W W' : World) : Prop := W'.heap[a]? = W.heap[a]? ∧ W'.heap[b]? = W.heap[b]? ∧ W'.heap[c]? = W.heap[c]?

theorem split_makes (s sep : ByteArray) (w : World) :
    Calls Tryz.prog 132 #[.string s, .string sep, .int .i64 0] w fun e w' =>
      e = .returned (.func (.func 158) #[] #[.pointer (some ⟨w.heap.size + 1, 0, none⟩), .pointer (some ⟨w.heap.size, 0, none⟩), .pointer (some ⟨w.heap.size + 2, 0, none⟩)]) ∧
      ((w.alloc (.cells #[.string s] 9)).alloc (.cells #[.string sep] 9)).alloc (.cells #[.int .i64 0] 3) = w' := by
  have hmf : ∀ (fn : Fn) (first cap : Array Value) (w : World), (Instr.makeFunc fn first cap).run Tryz.prog w = .ok (.func fn first cap) w := fun _ _ _ _ => rfl
  go_enter Tryz.func132, Tryz.ntmps132
  go_wp2
  go_ret
  exact ⟨rfl, rfl⟩

theorem seq_makes (s sep : ByteArray) (w : World) :
    Calls Tryz.prog 88 #[.string s, .string sep] w fun e w' =>
      e = .returned (.func (.func 158) #[] #[.pointer (some ⟨w.heap.size + 1, 0, none⟩), .pointer (some ⟨w.heap.size, 0, none⟩), .pointer (some ⟨w.heap.size + 2, 0, none⟩)]) ∧
      ((w.alloc (.cells #[.string s] 9)).alloc (.cells #[.string sep] 9)).alloc (.cells #[.int .i64 0] 3) = w' := by
  go_enter Tryz.func88, Tryz.ntmps88
  go_wp2_with (go_at_call 132; refine (split_makes s sep _).mono ?_; rintro e w' ⟨rfl, rfl⟩)
  go_ret
  exact ⟨rfl, rfl⟩

theorem extract_eq (r : List UInt8) (a b : Nat) : (⟨r.toArray⟩ : ByteArray).extract a b = ⟨((r.take b).drop a).toArray⟩ := by
  ext1
  rw [ByteArray.data_extract]
  simp [List.drop_take]
theorem heap_set_one {W : World} {b : Nat} {x : Value} {t : TypeId} (h : W.heap[b]? = some (.cells #[x] t (0, 0))) (v : Value) : (W.setCell ⟨b, 0, none⟩ v).heap[b]? = some (.cells #[v] t (0, 0)) := by
  simp [World.setCell, Array.getElem?_modify, h]
theorem cell_of_one' {W : World} {b : Nat} {x : Value} {t : TypeId} (h : W.heap[b]? = some (.cells #[x] t (0, 0))) : W.cell? ⟨b, 0, none⟩ = some x := by
  simp [World.cell?, h]

theorem splitB_none' {c : UInt8} : ∀ (l : List UInt8), (∀ k : Nat, l[k]? ≠ some c) → splitB c l = [l]
  | [], _ => rfl
  | x :: r, h => by
    have hx : x ≠ c := fun e => h 0 (by simp [e])
    have ih := splitB_none' r (fun k => by simpa using h (k + 1))
    unfold splitB; rw [if_neg hx, ih]; rfl
theorem splitB_none {c : UInt8} {l : List UInt8} (h : Lib.indexByte l c = -1) : splitB c l = [l] := splitB_none' l (Lib.indexByte_none h)
theorem splitB_some' {c : UInt8} : ∀ (l : List UInt8) (i : Nat), l[i]? = some c → (∀ k : Nat, k < i → l[k]? ≠ some c) → splitB c l = l.take i :: splitB c (l.drop (i + 1))
  | [], i, h, _ => by simp at h
  | x :: r, 0, h, _ => by
    have hx : x = c := by simpa using h
    simp [splitB, hx]
  | x :: r, i + 1, h, hk => by
    have hx : x ≠ c := fun e => hk 0 (by omega) (by simp [e])
    have ih := splitB_some' r i (by simpa using h) (fun k hki => by simpa using hk (k + 1) (by omega))
    conv => lhs; unfold splitB
    rw [if_neg hx, ih]; rfl
theorem splitB_some {c : UInt8} {l : List UInt8} {i : Nat} (h : Lib.indexByte l c = (i : Int)) : i < l.length ∧ splitB c l = l.take i :: splitB c (l.drop (i + 1)) := by
  obtain ⟨h1, h2⟩ := Lib.indexByte_some h
  exact ⟨(List.getElem?_eq_some_iff.1 h1).1, splitB_some' l i h1 h2⟩

set_option maxHeartbeats 2000000 in
set_option maxRecDepth 100000 in
/-- THE ITERATOR, for a separator of one byte. -/
theorem seq59 (F : Fence) (hro : F.round = none) (hde : F.depth = none) (h59 : F.fn 158) (h49 : F.fn 160)
    (hix : ∀ (m : Nat) (r : List UInt8) (c : UInt8) (w : World), CallsIn F m Tryz.prog 160 #[.string ⟨r.toArray⟩, .string ⟨#[c]⟩] w fun e w' => e = .returned (.int .i64 (Lib.indexByte r c)) ∧ w' = w)
    (m l Bsep Bs Bv : Nat) (h12 : Bsep ≠ Bs) (h13 : Bv ≠ Bs) (c : UInt8) (s : ByteArray) (hs : s.size ≤ 140737488355328) (J : Nat → World → Prop) (Jx : World → Prop) (Jp : List PanicEntry → World → Prop)
    (hJ : ∀ i W v, J i W → J i (W.setCell ⟨Bs, 0, none⟩ v))
    (hY : ∀ i x W1, (splitB c s.data.toList)[i]? = some x → J i W1 → YieldAt F (m - 1) Tryz.prog l #[.string ⟨x.toArray⟩] W1 fun e W' =>
      (e = .returned (.bool true) ∧ J (i + 1) W' ∧ keep3 Bsep Bs Bv W1 W') ∨ (e = .returned (.bool false) ∧ Jx W') ∨ (∃ ch, e = .panicked ch ∧ Jp ch W'))
    (W : World) (hc1 : W.heap[Bsep]? = some (.cells #[.string ⟨#[c]⟩] 9 (0, 0))) (hc2 : W.heap[Bs]? = some (.cells #[.string s] 9 (0, 0))) (hc3 : W.heap[Bv]? = some (.cells #[.int .i64 0] 3 (0, 0))) (h0 : J 0 W) :
    CallsIn F m Tryz.prog 158 #[.func (.yield l) #[] #[], .pointer (some ⟨Bsep, 0, none⟩), .pointer (some ⟨Bs, 0, none⟩), .pointer (some ⟨Bv, 0, none⟩)] W fun e W' =>
      (e = .returned (.tuple #[]) ∧ (J (splitB c s.data.toList).length W' ∨ Jx W')) ∨ (∃ ch, e = .panicked ch ∧ Jp ch W') := by
  refine callsIn_of_wp Tryz.func158 rfl h59 ?_ hro
  simp only [Tryz.ntmps158, List.size_toArray, List.length_cons, List.length_nil, Nat.reduceAdd, Nat.reduceSub, Array.replicate_succ, Array.replicate_zero, List.push_toArray, List.append_toArray, List.nil_append, List.cons_append]
  have k1 : W.cell? ⟨Bsep, 0, none⟩ = some (.string ⟨#[c]⟩) := by simp [World.cell?, hc1]
  have HC1 := Lib.hid hc1; have HC2 := Lib.hid hc2; have HC3 := Lib.hid hc3
  clear hc1 hc2 hc3
  gi_wp2_with fail
  clear k1
  gi_loopw [7] (fun _ wr => ∃ (i : Nat) (r : List UInt8), Hid (wr.heap[Bsep]? = some (.cells #[.string ⟨#[c]⟩] 9 (0, 0)) ∧ wr.heap[Bs]? = some (.cells #[.string ⟨r.toArray⟩] 9 (0, 0)) ∧ wr.heap[Bv]? = some (.cells #[.int .i64 0] 3 (0, 0)) ∧
      (splitB c s.data.toList).drop i = splitB c r ∧ r.length ≤ s.size ∧ J i wr)) (fun _ wr => match wr.cell? ⟨Bs, 0, none⟩ with | some (.string z) => z.size | _ => 0)
  case atStart => exact ⟨0, s.data.toList, HC1.out, by simpa using HC2.out, HC3.out, by simp, by simp, h0⟩
  case round =>
    obtain ⟨i, r, H⟩ := hrel
    obtain ⟨d1, d2, d3, hd, hrs, hj⟩ := H.out
    have k1 : wr.cell? ⟨Bsep, 0, none⟩ = some (.string ⟨#[c]⟩) := by simp [World.cell?, d1]
    have k2 : wr.cell? ⟨Bs, 0, none⟩ = some (.string ⟨r.toArray⟩) := by simp [World.cell?, d2]
    have k3 : wr.cell? ⟨Bv, 0, none⟩ = some (.int .i64 0) := by simp [World.cell?, d3]
    have f2 : wr.frozen? ⟨Bs, 0, none⟩ = false := by simp [World.frozen?, d2]
    have D1 := Lib.hid d1; have D2 := Lib.hid d2; have D3 := Lib.hid d3; have HD := Lib.hid hd
    clear d1 d2 d3 hd
    by_cases hn : Lib.indexByte r c < 0
    · have hpart : (splitB c s.data.toList)[i]? = some r := by
        have e := HD.out
        have hm : Lib.indexByte r c = -1 := by have := Lib.indexByte_ge r c; omega
        rw [splitB_none hm] at e
        have := congrArg (fun z : List (List UInt8) => z[0]?) e
        simpa using this
      have hlen : i + 1 = (splitB c s.data.toList).length := by
        have e := HD.out
        have hm : Lib.indexByte r c = -1 := by have := Lib.indexByte_ge r c; omega
        rw [splitB_none hm] at e
        have := congrArg List.length e
        simp at this; omega
      have HL := Lib.hid hlen
      clear hlen
      obtain ⟨fn, tmps, assign, body, hy, hR⟩ := hY i r wr hpart hj
      clear hpart
      gi_wp2_with fail
      refine (hix _ r c _).mono ?_
      rintro e w' ⟨rfl, he⟩
      obtain rfl : wr = w' := he.symm
      clear he
      gi_wp2_with fail
      refine hR.mono ?_
      rintro e W3 (⟨rfl, hJ3, hk3⟩ | ⟨rfl, hJx3⟩ | ⟨ch, rfl, hp⟩)
      · gi_wp2
        go_end0
        exact .inl ⟨rfl, .inl (by rw [← HL.out]; exact hJ3)⟩
      · gi_wp2
        go_end0
        exact .inl ⟨rfl, .inr hJx3⟩
      · gi_wp2
        exact ⟨rfl, .inr ⟨ch, rfl, hp⟩⟩
    · obtain ⟨n, hin⟩ : ∃ n : Nat, Lib.indexByte r c = (n : Int) := ⟨(Lib.indexByte r c).toNat, by omega⟩
      obtain ⟨hnl, hsp⟩ := splitB_some hin
      have hpart : (splitB c s.data.toList)[i]? = some (r.take n) := by
        have e := HD.out
        rw [hsp] at e
        have := congrArg (fun z : List (List UInt8) => z[0]?) e
        simpa using this
      have hdrop : (splitB c s.data.toList).drop (i + 1) = splitB c (r.drop (n + 1)) := by
        have e := HD.out
        rw [hsp] at e
        have := congrArg List.tail e
        simpa [List.tail_drop] using this
      have hex : ∀ a b : Nat, (⟨r.toArray⟩ : ByteArray).extract a b = ⟨((r.take b).drop a).toArray⟩ := fun a b => extract_eq r a b
      have HDR := Lib.hid hdrop
      have HEX := Lib.hid hex
      have HIN := Lib.hid hin
      have HSP := Lib.hid hsp
      clear hdrop hex hsp
      obtain ⟨fn, tmps, assign, body, hy, hR⟩ := hY i (r.take n) wr hpart hj
      clear hpart
      clear hin hn
      have hsz : r.length ≤ 140737488355328 := by omega
      have hszb : (⟨r.toArray⟩ : ByteArray).size = r.length := by simp [ByteArray.size]
      have HSZ := Lib.hid hszb
      clear hszb
      have hn0 : ¬ (n : Int) < 0 := by omega
      gi_wp2_with fail
      refine (hix _ r c _).mono ?_
      rintro e w' ⟨rfl, he⟩
      obtain rfl : wr = w' := he.symm
      clear he
      rw [HIN.out]
      have e0 : (⟨(r.take n).toArray⟩ : ByteArray) = (⟨r.toArray⟩ : ByteArray).extract 0 n := by rw [HEX.out 0 n]; rfl
      rw [e0] at hy
      clear e0
      gi_wp2_with fail
      refine hR.mono ?_
      rintro e W3 (⟨rfl, hJ3, hk3⟩ | ⟨rfl, hJx3⟩ | ⟨ch, rfl, hp⟩)
      · clear k1 k2 k3 f2
        have d1 := hk3.1.trans D1.out
        have d2 := hk3.2.1.trans D2.out
        have d3 := hk3.2.2.trans D3.out
        clear hk3
        have k1 : W3.cell? ⟨Bsep, 0, none⟩ = some (.string ⟨#[c]⟩) := by simp [World.cell?, d1]
        have k2 : W3.cell? ⟨Bs, 0, none⟩ = some (.string ⟨r.toArray⟩) := by simp [World.cell?, d2]
        have f2 : W3.frozen? ⟨Bs, 0, none⟩ = false := by simp [World.frozen?, d2]
        have E1 := Lib.hid d1; have E2 := Lib.hid d2; have E3 := Lib.hid d3
        clear d1 d2 d3
        gi_wp2
        go_roundw
        case rel =>
          have hx : (⟨r.toArray⟩ : ByteArray).extract (n + 1) r.length = ⟨(r.drop (n + 1)).toArray⟩ := by rw [HEX.out]; simp
          refine ⟨i + 1, r.drop (n + 1), ⟨?_, ?_, ?_, HDR.out, ?_, ?_⟩⟩
          · exact (Below.heap_setCell W3 _ _ _ h12).trans E1.out
          · rw [hx]; exact heap_set_one E2.out _
          · exact (Below.heap_setCell W3 _ _ _ h13).trans E3.out
          · simp; omega
          · exact hJ _ _ _ hJ3
        case measure =>
          have hx : (⟨r.toArray⟩ : ByteArray).extract (n + 1) r.length = ⟨(r.drop (n + 1)).toArray⟩ := by rw [HEX.out]; simp
          rw [hx, cell_of_one' (heap_set_one E2.out _), cell_of_one' D2.out]
          simp [ByteArray.size]; omega
      · gi_wp2
        refine bodyPost_ret (results_none rfl _ _ _) rfl ?_
        exact .inl ⟨rfl, .inr hJx3⟩
      · gi_wp2
        exact ⟨rfl, .inr ⟨ch, rfl, hp⟩⟩
end Go.Proofs.YthnpiimiimiijaaGreatDoor.Acl
