/- The directory's small functions: number, compare, the two literals. -/
import Derived.Test.YthnpiimiimiijaaGreatDoorDirWide
import Derived.WalkKit
import Derived.WalkLawsBesides
import Derived.KernelRfl
import Derived.BigQuiet
import Derived.Lib.Hide
import Derived.Lib.Bytealg
import Derived.Test.YthnpiimiimiijaaGreatDoorWRest
namespace Go.Proofs.YthnpiimiimiijaaGreatDoor.Dir
open Go Go.RowKit Go.Proofs Go.Proofs.YthnpiimiimiijaaGreatDoorW.PrintWords Go.Proofs.YthnpiimiimiijaaGreatDoorW.PrintLast Go.Proofs.YthnpiimiimiijaaGreatDoorW.PrintMore
set_option linter.unusedVariables false
set_option linter.unusedSimpArgs false
theorem number_any (n : Int) (w : World) : Calls Tryz.prog 47 #[.int .i64 n] w fun e w' => e = .returned (.bool (number n)) ∧ w' = w := by
 have hn : (decide (0 ≤ n) && decide (n ≤ 9007199254740991)) = number n := by unfold number maxN; rw [Bool.decide_and]
 go_enter Tryz.func47, Tryz.ntmps47
 go_wp2
 all_goals (go_ret; refine ⟨?_, rfl⟩; rw [← hn]; first | (simp; omega) | (simp_all; done) | (simp_all; omega))
theorem run_bytesX {P : Program} (w : World) : ∀ (xs : List UInt8) (a : Addr) (acc : ByteArray), (∀ j x, xs[j]? = some x → w.cell? (a.add j) = some (byteV x)) →
  (Extern.Bytes.loadBytes a xs.length acc).run P w = .ok ⟨acc.data ++ xs.toArray⟩ w
 | [], a, acc, _ => by simp [Extern.Bytes.loadBytes]
 | x :: l, a, acc, h => by
  have h0 : w.cell? a = some (.int .u8 (x.toNat : Int)) := by
   have := h 0 x rfl
   simpa [Addr.add, byteV] using this
  have ih := run_bytesX (P := P) w l (a.add 1) (acc.push ((x.toNat : Int)).toNat.toUInt8) (fun j y hy => by
   have := h (j + 1) y (by simpa using hy)
   have e : (a.add 1).add j = a.add (j + 1) := by
    unfold Addr.add
    by_cases hj : j = 0
    ·subst hj; simp
    ·simp [hj]; omega
   rw [e]; exact this)
  simp only [List.length_cons, Extern.Bytes.loadBytes, Sem.run_bind, run_load, h0, Result.andThen]
  rw [ih]
  refine congrArg (fun q => Result.ok q w) ?_
  apply ByteArray.ext
  simp [ByteArray.push]
theorem run_bytesK {P : Program} (w : World) (b : Nat) (k : Key) (T : TypeId) (h : w.heap[b]? = some (.cells (encK k).toArray T (0, 0))) (c : Nat) :
  (Extern.Bytes.bytesOf (.slice (some ⟨b, 0, none⟩) 32 c)).run P w = .ok ⟨k.1.toArray⟩ w := by
 have := run_bytesX (P := P) w k.1 ⟨b, 0, none⟩ .empty (fun j x hj => by
  rw [add_at, Nat.zero_add, cell_of_heap h]
  show (k.1.map byteV)[j]? = _
  rw [List.getElem?_map, hj]; rfl)
 rw [k.2] at this
 simp only [Extern.Bytes.bytesOf, this]
 refine congrArg (fun q => Result.ok q w) ?_
 apply ByteArray.ext
 show (#[] : Array UInt8) ++ _ = _
 simp
theorem run_cmpK {P : Program} (w : World) (p q : Nat) (a b : Key) (T : TypeId) (h1 : w.heap[p]? = some (.cells (encK a).toArray T (0, 0))) (h2 : w.heap[q]? = some (.cells (encK b).toArray T (0, 0))) (c1 c2 : Nat) :
  (Extern.BytealgCompare.compare #[.slice (some ⟨p, 0, none⟩) 32 c1, .slice (some ⟨q, 0, none⟩) 32 c2]).run P w = .ok (.int .i64 (cmpK a b)) w := by
 change Sem.run P (do pure (goInt (Extern.BytealgCompare.cmp (← Extern.Bytes.bytesOf (.slice (some ⟨p, 0, none⟩) 32 c1)) (← Extern.Bytes.bytesOf (.slice (some ⟨q, 0, none⟩) 32 c2))))) w = _
 simp only [Sem.run_bind, Sem.run_pure, run_bytesK w p a T h1, run_bytesK w q b T h2, Result.andThen]
 rw [Lib.cmp_eq]
 rfl
theorem cmp87 (p q : Nat) (a b : Key) (c1 c2 : Nat) (w : World) (h1 : w.heap[p]? = some (.cells (encK a).toArray 34 (0, 0))) (h2 : w.heap[q]? = some (.cells (encK b).toArray 34 (0, 0))) :
  Calls Tryz.prog 87 #[.slice (some ⟨p, 0, none⟩) 32 c1, .slice (some ⟨q, 0, none⟩) 32 c2] w fun e w' => e = .returned (.int .i64 (cmpK a b)) ∧ w' = w := by
 have hr := run_cmpK (P := Tryz.prog) w p q a b 34 h1 h2 c1 c2
 have hc : ∀ w0 : World, w0 = w → (callFunc 131 #[.slice (some ⟨p, 0, none⟩) 32 c1, .slice (some ⟨q, 0, none⟩) 32 c2]).run Tryz.prog w0 = .ok (.value (.int .i64 (cmpK a b))) w := by
  rintro w0 rfl
  rw [run_callFunc_extern Tryz.func131 (by kernel_rfl) (by kernel_rfl) (by kernel_rfl) (e := Extern.BytealgCompare.compare) (by kernel_rfl), hr]
  rfl
 have hc := hc w rfl
 go_enter Tryz.func87, Tryz.ntmps87
 go_wp2
 go_ret
 exact ⟨rfl, rfl⟩
/-- compare, in every world: two blocks of the call's own, and what is drawn. -/
theorem compare_any (a b : Key) (W : World) : Calls Tryz.prog 50 #[.agg (encK a).toArray, .agg (encK b).toArray] W fun e w' => e = .returned (.int .i64 (cmpK a b)) ∧ ∃ n, w' = ((W.alloc (.cells (encK a).toArray 34)).alloc (.cells (encK b).toArray 34)).drewN n := by
 obtain ⟨A, hA⟩ : ∃ A, A = (encK a).toArray := ⟨_, rfl⟩
 obtain ⟨B, hB⟩ : ∃ B, B = (encK b).toArray := ⟨_, rfl⟩
 obtain ⟨W2, hW⟩ : ∃ W2, W2 = ((W.alloc (.cells A 34)).alloc (.cells B 34)) := ⟨_, rfl⟩
 have h1 : ∀ n, (W2.drewN n).heap[W.heap.size]? = some (.cells (encK a).toArray 34 (0, 0)) := fun n => by
  show W2.heap[_]? = _
  rw [hW, hA, Below.heap_alloc _ _ _ (by simp)]; exact heap_alloc_new W _
 have h2 : ∀ n, (W2.drewN n).heap[W.heap.size + 1]? = some (.cells (encK b).toArray 34 (0, 0)) := fun n => by
  show W2.heap[_]? = _
  rw [hW, hB]
  have := heap_alloc_new (W.alloc (.cells A 34)) (.cells (encK b).toArray 34)
  simpa using this
 have hcall : ∀ n, Calls Tryz.prog 87 #[.slice (some ⟨W.heap.size, 0, none⟩) 32 32, .slice (some ⟨W.heap.size + 1, 0, none⟩) 32 32] (W2.drewN n) fun e w' => e = .returned (.int .i64 (cmpK a b)) ∧ w' = W2.drewN n :=
  fun n => cmp87 _ _ a b 32 32 _ (h1 n) (h2 n)
 have HC := Aside0.mk hcall
 clear h1 h2 hcall
 rw [← hA, ← hB, ← hW]
 generalize cmpK a b = r at HC ⊢
 clear hA hB
 go_enter Tryz.func50, Tryz.ntmps50
 go_wp2
 rw [← hW]
 clear hW
 go_quiet (first | (go_at_call 87; exact Calls.quiet_of_same (HC.out _)))
 go_wp2
 go_ret
 exact ⟨rfl, nq, rfl⟩
/-- at's literal: the difference of two nodes. -/
theorem less_any (d : Dev) (node : Int) (W : World) : Calls Tryz.prog 147 #[.agg (encD d).toArray, .int .i64 node] W fun e w' => e = .returned (.int .i64 (wrap64 (d.node - node))) ∧ w' = W.alloc (.cells (encD d).toArray 46) := by
 obtain ⟨A, hA⟩ : ∃ A, A = (encD d).toArray := ⟨_, rfl⟩
 obtain ⟨dn, hdn⟩ : ∃ dn, dn = d.node := ⟨_, rfl⟩
 have h0 : A[0]? = some (.int .i64 dn) := by rw [hA, hdn]; rfl
 rw [← hA, ← hdn]
 clear hA hdn
 go_enter Tryz.func147, Tryz.ntmps147
 go_wp2
 go_ret
 exact ⟨rfl, rfl⟩
theorem keyOfD (d : Dev) (j : Nat) (v : Value) (h : (encK d.key)[j]? = some v) : (encD d)[1 + j]? = some v := by
 have hj : j < 32 := by have := (List.getElem?_eq_some_iff.1 h).1; rw [encK_len] at this; exact this
 show (Value.int .i64 d.node :: (encK d.key ++ _))[1 + j]? = _
 rw [Nat.add_comm, List.getElem?_cons_succ, List.getElem?_append_left (by rw [encK_len]; exact hj), h]
theorem expOfD (d : Dev) : (encD d)[33]? = some (.int .i64 d.exp) := by
 show (Value.int .i64 d.node :: (encK d.key ++ _))[32 + 1]? = _
 rw [List.getElem?_cons_succ, List.getElem?_append_right (by rw [encK_len]; omega), encK_len]
 rfl
theorem revOfD (d : Dev) : (encD d)[34]? = some (.bool d.rev) := by
 show (Value.int .i64 d.node :: (encK d.key ++ _))[33 + 1]? = _
 rw [List.getElem?_cons_succ, List.getElem?_append_right (by rw [encK_len]; omega), encK_len]
 rfl
set_option maxRecDepth 100000 in
/-- Valid's literal: whether a device has the key that was caught. -/
theorem same_any (d : Dev) (k : Key) (c : Nat) (W : World) (hc : W.heap[c]? = some (.cells (encK k).toArray 34 (0, 0))) :
  Calls Tryz.prog 46 #[.agg (encD d).toArray, .pointer (some ⟨c, 0, none⟩)] W fun e w' => e = .returned (.bool (decide (d.key = k))) ∧ w' = W.alloc (.cells (encD d).toArray 46) := by
 have hlt : c < W.heap.size := (Array.getElem?_eq_some_iff.1 hc).1
 obtain ⟨A, hA⟩ : ∃ A, A = (encD d).toArray := ⟨_, rfl⟩
 have hW := heap_alloc_new W (.cells A 46)
 have l1 := Aside0.mk (run_loadAtK Tryz.prog (W.alloc (.cells A 46)) 34 32 Tryz.isAgg34 Tryz.sizeOf34 W.heap.size 1 (encK d.key) (encK_len _) (fun j v hj => by rw [World.cell?_alloc_new, hA]; simpa using keyOfD d j v hj))
 have l2 := Aside0.mk (run_loadAtK Tryz.prog (W.alloc (.cells A 46)) 34 32 Tryz.isAgg34 Tryz.sizeOf34 c 0 (encK k) (encK_len _) (cells_of_heap (T := 34) (fr := (0, 0)) (by rw [Below.heap_alloc _ _ _ hlt]; exact hc)))
 have he := eqlK d.key k
 have hg := fun op x y w => guardK op x y d.key k w
 rw [← hA]
 generalize (encK d.key).toArray = X at l1 he hg
 generalize (encK k).toArray = Y at l2 he hg
 generalize decide (d.key = k) = r at he ⊢
 clear hc hW hA
 go_enter Tryz.func46, Tryz.ntmps46
 go_wp2_with (first | (refine wpList_loadK rfl 34 _ rfl _ rfl _ l1.out ?_) | (refine wpList_loadK rfl 34 _ rfl _ rfl _ l2.out ?_))
 go_ret
 exact ⟨rfl, rfl⟩
end Go.Proofs.YthnpiimiimiijaaGreatDoor.Dir
