/- '==' at keys and at devices: equality. -/
import Derived.Test.YthnpiimiimiijaaGreatDoorProg
import Derived.Test.YthnpiimiimiijaaGreatDoorDirWords
import Derived.ChangeKeysEq
import Derived.Shelf.SlicesE.Kit
import Derived.KernelRfl
namespace Go.Proofs.YthnpiimiimiijaaGreatDoor.Dir
open Go Go.RowKit Go.Proofs

theorem eqItems_bytes {P : Program} (hu : P.underlying 5 = some (.int .u8)) (hA : ∀ w, (isAgg 5).run P w = .ok false w) (d : Nat) (a b : List UInt8) (w : World) : ∀ is : List Nat, (∀ i ∈ is, i < a.length ∧ i < b.length) →
    (Op.eqItems (d + 1) 5 1 (a.map byteV).toArray (b.map byteV).toArray is).run P w = .ok (decide (∀ i ∈ is, a[i]? = b[i]?)) w
  | [], _ => by simp [Op.eqItems]
  | i :: is, h => by
    obtain ⟨h1, h2⟩ := h i (List.mem_cons_self ..)
    have hp : ∀ (l : List UInt8) (hl : i < l.length), (part 5 (l.map byteV).toArray (i * 1)).run P w = .ok (byteV l[i]) w := fun l hl => by
      simp [part, hA, hl]
    have he : (Op.equalIn (d + 1) 5 (byteV a[i]) (byteV b[i])).run P w = .ok (decide (a[i] = b[i])) w := by
      unfold byteV
      rw [run_equalIn_int w d 5 .u8 .u8 _ _ hu]
      congr 1
      rw [Bool.eq_iff_iff]
      simp only [beq_iff_eq, decide_eq_true_eq]
      exact ⟨fun e => UInt8.toNat_inj.1 (by omega), fun e => by rw [e]⟩
    simp only [Op.eqItems, Sem.run_bind, hp a h1, hp b h2, he, Result.andThen_ok]
    by_cases e : a[i] = b[i]
    · have := eqItems_bytes hu hA d a b w is (fun j hj => h j (List.mem_cons_of_mem _ hj))
      simp only [e, decide_true, Bool.not_true, Bool.false_eq_true, if_false, this]
      congr 2
      simp [List.getElem?_eq_getElem h1, List.getElem?_eq_getElem h2, e]
    · simp only [e, decide_false, Bool.not_false, if_true]
      simp only [Sem.run_pure]
      congr 1
      symm
      refine decide_eq_false fun hc => e ?_
      have := hc i (List.mem_cons_self ..)
      rw [List.getElem?_eq_getElem h1, List.getElem?_eq_getElem h2] at this
      exact Option.some.inj this
theorem equalIn_key (d : Nat) (a b : Key) (w : World) : (Op.equalIn (d + 2) 34 (.agg (encK a).toArray) (.agg (encK b).toArray)).run Tryz.prog w = .ok (decide (a = b)) w := by
  have hs : (Tryz.prog.info? 5).isSome = true := by kernel_rfl
  obtain ⟨i0, hi0⟩ := Option.isSome_iff_exists.1 hs
  rw [run_equalIn_array w (d + 1) _ _ Tryz.underlying34 hi0, show Tryz.prog.cellsOf 5 = 1 from by kernel_rfl]
  rw [show encK a = a.1.map byteV from rfl, show encK b = b.1.map byteV from rfl, eqItems_bytes Tryz.underlying5 Tryz.isAgg5 d a.1 b.1 w _ (fun i hi => by rw [a.2, b.2]; simpa using hi)]
  refine congrArg (fun q => Result.ok q w) ?_
  rw [Bool.eq_iff_iff]
  simp only [decide_eq_true_eq, List.mem_range]
  refine ⟨fun h => Subtype.ext (List.ext_getElem? fun i => ?_), fun h i _ => by rw [h]⟩
  by_cases hi : i < 32
  · exact h i hi
  · rw [List.getElem?_eq_none (by rw [a.2]; omega), List.getElem?_eq_none (by rw [b.2]; omega)]
theorem eqlK (a b : Key) (w : World) : (binOp .eql 34 (.agg (encK a).toArray) (.agg (encK b).toArray)).run Tryz.prog w = .ok (.bool (decide (a = b))) w := by
  rw [run_eql_struct, show (10000 : Nat) = 9998 + 2 from rfl, equalIn_key]
  rfl
theorem neqK (a b : Key) (w : World) : (binOp .neq 34 (.agg (encK a).toArray) (.agg (encK b).toArray)).run Tryz.prog w = .ok (.bool (!decide (a = b))) w := by
  rw [run_neq_struct, show (10000 : Nat) = 9998 + 2 from rfl, equalIn_key]
  rfl
theorem eqlAtK : EqlAt Tryz.prog 34 (fun k : Key => .agg (encK k).toArray) (fun a b => decide (a = b)) := ⟨fun x y w => eqlK x y w, GuardAt.agg _ (by kernel_rfl)⟩
theorem guardK (op : BinOp) (a b : Operand) (x y : Key) (w : World) : (eqGuard op 34 a b (.agg (encK x).toArray) (.agg (encK y).toArray)).run Tryz.prog w = .ok () w := eqlAtK.2 op a b x y w
end Go.Proofs.YthnpiimiimiijaaGreatDoor.Dir
