/- strings.Index at a separator of one byte, and strings.SplitSeq's making of its iterator, inside a fence of functions. -/
import Derived.Test.YthnpiimiimiijaaGreatDoorAclSplit
import Derived.Test.YthnpiimiimiijaaGreatDoorAclMust
import Derived.Lib.RabinKarpLaws
import Derived.Lib.Strings
namespace Go.Proofs.YthnpiimiimiijaaGreatDoor.Acl
open Go.RowKit Go.Shelf Go.Proofs
attribute [local go_sem] Oper.semAt_some

variable {F : Fence} {m : Nat}

set_option maxRecDepth 100000 in
theorem byte_in (hro : F.round = none) (h74 : F.fn 177) (h81 : F.fn 185) (s : ByteArray) (c : Int) (w : World) :
    CallsIn F m Tryz.prog 177 #[.string s, .int .u8 c] w fun e w' => e = .returned (.int .i64 (Lib.indexByte s.data.toList c.toNat.toUInt8)) ∧ w' = w := by
  refine callsIn_of_wp Tryz.func177 rfl h74 ?_ hro
  simp only [Tryz.ntmps177, List.size_toArray, List.length_cons, List.length_nil, Nat.reduceAdd, Nat.reduceSub, Array.replicate_succ, Array.replicate_zero, List.push_toArray, List.append_toArray, List.nil_append, List.cons_append]
  gi_wp2
  rw [run_callFunc_extern Tryz.func185 (by kernel_rfl) (by kernel_rfl) (by kernel_rfl) (e := Extern.BytealgIndexByte.indexByte) (by kernel_rfl), Lib.run_indexByteString]
  simp only [Result.andThen]
  rw [Oper.uponIn_value]
  gi_wp2
  go_ret
  exact ⟨rfl, rfl⟩

set_option maxHeartbeats 1000000 in
set_option maxRecDepth 100000 in
theorem lite_in (hro : F.round = none) (hde : F.depth = none) (h66 : F.fn 171) (h74 : F.fn 177) (h81 : F.fn 185) (r : List UInt8) (c : UInt8) (w : World) :
    CallsIn F m Tryz.prog 171 #[.string ⟨r.toArray⟩, .string ⟨#[c]⟩] w fun e w' => e = .returned (.int .i64 (Lib.indexByte r c)) ∧ w' = w := by
  refine callsIn_of_wp Tryz.func171 rfl h66 ?_ hro
  simp only [Tryz.ntmps171, List.size_toArray, List.length_cons, List.length_nil, Nat.reduceAdd, Nat.reduceSub, Array.replicate_succ, Array.replicate_zero, List.push_toArray, List.append_toArray, List.nil_append, List.cons_append]
  gi_wp2_with fail
  · have e : [c] = r := by simpa using (by assumption : ([c] == r) = true)
    go_ret
    refine ⟨?_, rfl⟩
    rw [← e]
    simp [Lib.indexByte]
  · refine (byte_in hro h74 h81 _ _ _).mono ?_
    rintro e w' ⟨rfl, he⟩
    obtain rfl : w = w' := he.symm
    gi_wp2
    go_ret
    refine ⟨?_, rfl⟩
    simp
    rfl

theorem index_in (hro : F.round = none) (hde : F.depth = none) (h49 : F.fn 160) (h66 : F.fn 171) (h74 : F.fn 177) (h81 : F.fn 185) (r : List UInt8) (c : UInt8) (w : World) :
    CallsIn F m Tryz.prog 160 #[.string ⟨r.toArray⟩, .string ⟨#[c]⟩] w fun e w' => e = .returned (.int .i64 (Lib.indexByte r c)) ∧ w' = w := by
  refine callsIn_of_wp Tryz.func160 rfl h49 ?_ hro
  simp only [Tryz.ntmps160, List.size_toArray, List.length_cons, List.length_nil, Nat.reduceAdd, Nat.reduceSub, Array.replicate_succ, Array.replicate_zero, List.push_toArray, List.append_toArray, List.nil_append, List.cons_append]
  gi_wp2_with fail
  refine (lite_in hro hde h66 h74 h81 _ _ _).mono ?_
  rintro e w' ⟨rfl, he⟩
  obtain rfl : w = w' := he.symm
  gi_wp2
  go_ret
  exact ⟨rfl, rfl⟩

theorem split_in (hro : F.round = none) (h42 : F.fn 132) (s sep : ByteArray) (w : World) :
    CallsIn F m Tryz.prog 132 #[.string s, .string sep, .int .i64 0] w fun e w' =>
      e = .returned (.func (.func 158) #[] #[.pointer (some ⟨w.heap.size + 1, 0, none⟩), .pointer (some ⟨w.heap.size, 0, none⟩), .pointer (some ⟨w.heap.size + 2, 0, none⟩)]) ∧
      ((w.alloc (.cells #[.string s] 9)).alloc (.cells #[.string sep] 9)).alloc (.cells #[.int .i64 0] 3) = w' := by
  have hmf : ∀ (fn : Fn) (first cap : Array Value) (w : World), (Instr.makeFunc fn first cap).run Tryz.prog w = .ok (.func fn first cap) w := fun _ _ _ _ => rfl
  refine callsIn_of_wp Tryz.func132 rfl h42 ?_ hro
  simp only [Tryz.ntmps132, List.size_toArray, List.length_cons, List.length_nil, Nat.reduceAdd, Nat.reduceSub, Array.replicate_succ, Array.replicate_zero, List.push_toArray, List.append_toArray, List.nil_append, List.cons_append]
  gi_wp2
  go_ret
  exact ⟨rfl, rfl⟩

theorem seq_in (hro : F.round = none) (hde : F.depth = none) (h26 : F.fn 88) (h42 : F.fn 132) (s sep : ByteArray) (w : World) :
    CallsIn F m Tryz.prog 88 #[.string s, .string sep] w fun e w' =>
      e = .returned (.func (.func 158) #[] #[.pointer (some ⟨w.heap.size + 1, 0, none⟩), .pointer (some ⟨w.heap.size, 0, none⟩), .pointer (some ⟨w.heap.size + 2, 0, none⟩)]) ∧
      ((w.alloc (.cells #[.string s] 9)).alloc (.cells #[.string sep] 9)).alloc (.cells #[.int .i64 0] 3) = w' := by
  refine callsIn_of_wp Tryz.func88 rfl h26 ?_ hro
  simp only [Tryz.ntmps88, List.size_toArray, List.length_cons, List.length_nil, Nat.reduceAdd, Nat.reduceSub, Array.replicate_succ, Array.replicate_zero, List.push_toArray, List.append_toArray, List.nil_append, List.cons_append]
  gi_wp2_with fail
  refine (split_in hro h42 s sep _).mono ?_
  rintro e w' ⟨rfl, rfl⟩
  gi_wp2
  go_ret
  exact ⟨rfl, rfl⟩

theorem must_in_yes (hro : F.round = none) (h44 : F.fn 134) (w : World) : CallsIn F m Tryz.prog 134 #[.bool true] w fun e w' => e = .returned (.tuple #[]) ∧ w' = w := by
  refine callsIn_of_wp Tryz.func134 rfl h44 ?_ hro
  simp only [Tryz.ntmps134, List.size_toArray, List.length_cons, List.length_nil, Nat.reduceAdd, Nat.reduceSub, Array.replicate_succ, Array.replicate_zero, List.push_toArray, List.append_toArray, List.nil_append, List.cons_append]
  gi_wp2
  go_end0
  exact ⟨rfl, rfl⟩
theorem must_in_no (hro : F.round = none) (h44 : F.fn 134) (w : World) : CallsIn F m Tryz.prog 134 #[.bool false] w fun e w' => e = .panicked [{ v := wrongV, recovered := false }] ∧ w' = w := by
  have hu := Tryz.underlying189
  refine callsIn_of_wp Tryz.func134 rfl h44 ?_ hro
  simp only [Tryz.ntmps134, List.size_toArray, List.length_cons, List.length_nil, Nat.reduceAdd, Nat.reduceSub, Array.replicate_succ, Array.replicate_zero, List.push_toArray, List.append_toArray, List.nil_append, List.cons_append]
  gi_wp2
  exact ⟨rfl, rfl, rfl⟩
end Go.Proofs.YthnpiimiimiijaaGreatDoor.Acl
