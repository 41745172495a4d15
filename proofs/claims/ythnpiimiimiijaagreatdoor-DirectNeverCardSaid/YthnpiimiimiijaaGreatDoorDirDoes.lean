/- The statements' own helpers: does, counts. -/
import Derived.Test.YthnpiimiimiijaaGreatDoorDirAsk
namespace Go.Proofs.YthnpiimiimiijaaGreatDoor.Dir
open Go Go.RowKit Go.Proofs Go.Proofs.YthnpiimiimiijaaGreatDoorW.PrintWords Go.Proofs.YthnpiimiimiijaaGreatDoorW.PrintLast Go.Proofs.YthnpiimiimiijaaGreatDoorW.PrintMore
set_option linter.unusedVariables false
set_option linter.unusedSimpArgs false

/-- A directory that was made since w. -/
structure DirSt (w W : World) (p : Nat) (B : Book) : Prop where
  at_ : DirAt W p B
  fr : Below w.heap.size w W
  new : w.heap.size ≤ p
  wf : WF B
  laid : PA.LaidW w
theorem DirSt.later {w W W' : World} {p : Nat} {B : Book} (h : DirSt w W p B) (hb : Below W.heap.size W W') : DirSt w W' p B :=
  ⟨h.at_.below hb, below_step h.fr hb, h.new, h.wf, h.laid⟩
theorem DirSt.laidW {w W : World} {p : Nat} {B : Book} (h : DirSt w W p B) : PA.LaidW W := h.laid.below h.fr
theorem DirSt.applied {w W W' : World} {p : Nat} {B : Book} (h : DirSt w W p B) (o : Op) (ha : DirAt W' p (applyOf rulesOf B o)) (hg : W.grownBy W' (some p)) : DirSt w W' p (applyOf rulesOf B o) :=
  ⟨ha, h.fr.grown hg h.fr.size (fun k hk => by have : p = k := Option.some.inj hk; have := h.new; omega), h.new, apply_wf rulesOf h.wf o, h.laid⟩
def OpIn (o : Op) : Prop := -9223372036854775808 ≤ o.node ∧ o.node ≤ 9223372036854775807
theorem apply_st (w W : World) (p : Nat) (B : Book) (o : Op) (h : DirSt w W p B) (ho : OpIn o) :
    Calls Tryz.prog 15 #[.pointer (some ⟨p, 0, none⟩), .agg (encO o).toArray] W fun e W' => e = .returned (.tuple #[.agg #[.int .i64 (errOf rulesOf B o), .int .i64 (applyOf rulesOf B o).ver], .int .i64 0]) ∧ DirSt w W' p (applyOf rulesOf B o) ∧ W.grownBy W' (some p) := by
  refine (apply_any W p B o h.at_ h.wf h.laidW ho.1 ho.2).mono ?_
  rintro e W' ⟨he, ha, hg⟩
  exact ⟨he, h.applied o ha hg, hg⟩
theorem book_st (w W : World) (p : Nat) (B : Book) (h : DirSt w W p B) :
    Calls Tryz.prog 17 #[.pointer (some ⟨p, 0, none⟩)] W fun e W' => (∃ A1 c1 A2 c2, e = .returned (.agg (bookCells B A1 c1 A2 c2).toArray) ∧ Lists W' W.heap.size B A1 c1 A2 c2) ∧ DirSt w W' p B ∧ Below W.heap.size W W' := by
  refine (book_any p B W h.at_ h.wf.few).mono ?_
  rintro e W' ⟨⟨v, rfl, A1, c1, A2, c2, rfl, hL⟩, hb⟩
  exact ⟨⟨A1, c1, A2, c2, rfl, hL⟩, h.later hb, hb⟩

theorem eqlR (e v : Int) (w : World) : (binOp .eql 30 (.agg #[.int .i64 e, .int .i64 v]) (.agg #[.int .i64 e, .int .i64 v])).run Tryz.prog w = .ok (.bool true) w := by
  have u3 := Tryz.underlying3
  have u28 := Tryz.underlying28
  have a3 := Tryz.isAgg3
  have a28 := Tryz.isAgg28
  have z3 := Tryz.sizeOf3
  have z28 := Tryz.sizeOf28
  have hS : Tryz.prog.underlying 30 = some (.struct (Tryz.prog.fieldsOf 30)) := by kernel_rfl
  have hp : Tryz.prog.stoodInHeld 30 = false := by kernel_rfl
  rw [run_eql_struct, show (10000 : Nat) = 9999 + 1 from rfl, run_equalIn_agg w 9999 30 _ _ hS hp]
  simp only [Program.fieldsOf, Tryz.underlying30]
  go_simp
theorem guardR (op : BinOp) (a b : Operand) (e v e2 v2 : Int) (w : World) : (eqGuard op 30 a b (.agg #[.int .i64 e, .int .i64 v]) (.agg #[.int .i64 e2, .int .i64 v2])).run Tryz.prog w = .ok () w := run_eqGuard_agg w op 30 a b _ _ (by kernel_rfl)

set_option maxHeartbeats 4000000 in
set_option maxRecDepth 100000 in
theorem does_st (w W : World) (p : Nat) (B : Book) (o : Op) (err ver : Int) (h : DirSt w W p B) (ho : OpIn o) (he : errOf rulesOf B o = err) (hv : (applyOf rulesOf B o).ver = ver) :
    Calls Tryz.prog 37 #[.pointer (some ⟨p, 0, none⟩), .agg (encO o).toArray, .int .i64 err, .int .i64 ver] W fun e W' => e = .returned (.bool true) ∧ DirSt w W' p (applyOf rulesOf B o) := by
  obtain ⟨W0, hW0⟩ : ∃ W0, W0 = W.alloc (.cells (encO o).toArray 36) := ⟨_, rfl⟩
  have hb0 : Below W.heap.size W W0 := by rw [hW0]; exact (Below.refl _ W).alloc (Nat.le_refl _) _
  have hbx : W0.heap[W.heap.size]? = some (.cells (encO o).toArray 36 (0, 0)) := by rw [hW0]; exact heap_alloc_new W _
  have HA := Aside0.mk (apply_st w W0 p B o (h.later hb0) ho)
  rw [he, hv] at HA
  have lo := Aside0.mk (run_loadAtK Tryz.prog W0 36 37 Tryz.isAgg36 Tryz.sizeOf36 W.heap.size 0 (encO o) (encO_len o) (cells_of_heap hbx))
  have heq := eqlR err ver
  have hgd := fun op a b w => guardR op a b err ver err ver w
  clear h ho he hv hb0 hbx
  go_enter Tryz.func37, Tryz.ntmps37
  go_upto_region 1 with fail
  rw [← hW0]
  clear hW0
  go_wp2_with ((with_reducible refine at_load 36 (.tmp 5) ?_); refine wpList_loadK rfl 36 (.tmp 5) rfl _ rfl _ lo.out ?_)
  refine HA.out.mono ?_
  rintro e w1 ⟨rfl, hs, -⟩
  have HS := Aside0.mk hs
  clear hs
  go_wp2_with fail
  go_ret
  refine ⟨rfl, ?_⟩
  exact HS.out.later ((Below.refl _ w1).alloc (Nat.le_refl _) _)

set_option maxHeartbeats 4000000 in
set_option maxRecDepth 100000 in
theorem counts_st (w W : World) (p : Nat) (B : Book) (k : Nat) (hk : k < 256) (now node : Int) (h : DirSt w W p B) (r : Bool) (hr : decide (validOf B (keyN k) now = some node) = r) :
    Calls Tryz.prog 42 #[.pointer (some ⟨p, 0, none⟩), .int .i64 k, .int .i64 now, .int .i64 node] W fun e W' => e = .returned (.bool r) ∧ DirSt w W' p B := by
  have HB := Aside0.mk (book_st w W p B h)
  have HR := Aside0.mk hr
  have HH := Aside0.mk h
  clear h hr
  go_enter Tryz.func42, Tryz.ntmps42
  go_wp2_with fail
  refine HB.out.mono ?_
  rintro e w1 ⟨⟨A1, c1, A2, c2, rfl, hL⟩, hs, hb⟩
  have HS := Aside0.mk (And.intro hL hs)
  have HK := Aside0.mk (key_any k hk w1)
  clear hL hs hb
  go_wp2_with fail
  refine HK.out.mono ?_
  rintro e w2 ⟨rfl, hb2⟩
  have HS2 := Aside0.mk (HS.out.2.later hb2)
  have HV := Aside0.mk (valid_any B (keyN k) now _ W.heap.size w2 ⟨A1, c1, A2, c2, rfl, HS.out.1.below hb2⟩ HH.out.wf.few)
  clear hb2
  cases hv : validOf B (keyN k) now with
  | none =>
    have hf : r = false := by rw [← HR.out, hv]; rfl
    rw [hv] at HV
    subst hf
    clear hv
    go_wp2_with fail
    refine HV.out.mono ?_
    rintro e w3 ⟨rfl, hb3⟩
    have HS3 := Aside0.mk (HS2.out.later hb3)
    clear hb3
    unfold validRes
    go_wp2_with fail
    go_ret
    exact ⟨rfl, HS3.out⟩
  | some m =>
    have hf : r = decide (m = node) := by rw [← HR.out, hv]; simp
    rw [hv] at HV
    clear hv
    have HF := Aside0.mk hf
    clear hf
    go_wp2_with fail
    refine HV.out.mono ?_
    rintro e w3 ⟨rfl, hb3⟩
    have HS3 := Aside0.mk (HS2.out.later hb3)
    clear hb3
    unfold validRes
    go_wp2_with fail
    go_ret
    refine ⟨?_, HS3.out⟩
    rw [HF.out]
    first | rfl | (simp [beq_iff_eq]; done)
end Go.Proofs.YthnpiimiimiijaaGreatDoor.Dir
