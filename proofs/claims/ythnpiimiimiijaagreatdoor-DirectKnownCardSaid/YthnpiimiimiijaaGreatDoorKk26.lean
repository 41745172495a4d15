/- The law DirectKnown: the walk. What the rows' arguments read as: rows of asks; the listed variables; the wrap. -/
import Derived.Test.YthnpiimiimiijaaGreatDoorKk25
import Derived.Test.YthnpiimiimiijaaGreatDoorTie
import Derived.Test.YthnpiimiimiijaaGreatDoorKk9
import Derived.Test.YthnpiimiimiijaaGreatDoorKk14
import Derived.ProofKit
import Derived.OpenShut
import Derived.LaidMore
import Derived.Lay
import Derived.SevenTiedAt
import Derived.Stop.Joined
import Derived.WalkKit
import Derived.ChangeOld
import Derived.SizedLaws
import Derived.Deep.SlicePairs
import Derived.WideKeyArr2
import Derived.HandedShaped
section
namespace Go.Proofs.YthnpiimiimiijaaGreatDoor.Dir
open Go Go.RowKit Go.Proofs Go.Proofs.YthnpiimiimiijaaGreatDoorW.PrintWords Go.Proofs.YthnpiimiimiijaaGreatDoorW.PrintLast Go.Proofs.YthnpiimiimiijaaGreatDoorW.PrintMore
set_option linter.unusedVariables false
set_option linter.unusedSimpArgs false
section
variable {P : Program} {ops : Array Oper} {Q : Exit → Act → World → Prop} {rest : List Oper} {a : Act} {w : World} {dst : Option Tmp} {ty : TypeId} {pos : String} {after : Array Edge} {g : Option (Nat × Bool)}
theorem field_at (n : Nat) (hn : n < 5) (a b c d e : Value) (w : World) : (Instr.field 43 (.agg #[a, b, c, d, e]) n).run Tryz.prog w = .ok (#[a, b, c, d, e].getD n undef) w := by
 match n, hn with
 | 0, _ => simp [Instr.field, run_underlying Tryz.underlying43, part, Tryz.isAgg3, asAgg]
 | 1, _ => simp [Instr.field, run_underlying Tryz.underlying43, part, Tryz.isAgg3, asAgg]
 | 2, _ => simp [Instr.field, run_underlying Tryz.underlying43, part, Tryz.isAgg40, asAgg]
 | 3, _ => simp [Instr.field, run_underlying Tryz.underlying43, part, Tryz.isAgg41, asAgg]
 | 4, _ => simp [Instr.field, run_underlying Tryz.underlying43, part, Tryz.isAgg9, asAgg]
theorem field_a1 (a b c d e : Value) (w : World) : (Instr.field 43 (.agg #[a, b, c, d, e]) 1).run Tryz.prog w = .ok b w := field_at 1 (by decide) a b c d e w
theorem field_a2 (a b c d e : Value) (w : World) : (Instr.field 43 (.agg #[a, b, c, d, e]) 2).run Tryz.prog w = .ok c w := field_at 2 (by decide) a b c d e w
theorem field_a3 (a b c d e : Value) (w : World) : (Instr.field 43 (.agg #[a, b, c, d, e]) 3).run Tryz.prog w = .ok d w := field_at 3 (by decide) a b c d e w
theorem field_a4 (a b c d e : Value) (w : World) : (Instr.field 43 (.agg #[a, b, c, d, e]) 4).run Tryz.prog w = .ok e w := field_at 4 (by decide) a b c d e w
theorem range_lit : List.range' 293 48 = [293, 294, 295, 296, 297, 298, 299, 300, 301, 302, 303, 304, 305, 306, 307, 308, 309, 310, 311, 312, 313, 314, 315, 316, 317, 318, 319, 320, 321, 322, 323, 324, 325, 326, 327, 328, 329, 330, 331, 332, 333, 334, 335, 336, 337, 338, 339, 340] := rfl
theorem he46 {a : Act} {v : Value} (h : a.eval (.tmp 291) = v) : ((#[(0, .const (.int .i64 1)), (1, .tmp 291), (2, .const (.int .i64 1))] : Array (Nat × Operand)).map fun (i, x) => (i, a.eval x)) = #[(0, .int .i64 1), (1, v), (2, .int .i64 1)] := by
 simp only [List.map_toArray, List.map_cons, List.map_nil]
 rw [h]
 rfl
theorem klb0_wf : WF klb0 := by constructor <;> simp [klb0, maxN, takenB]
theorem klb0_ok : OkB klb0 := ok_of klb0_wf (by kernel_rfl)
theorem neqR3 (e v : Int) (w : World) : (binOp .neq 30 (.agg #[.int .i64 e, .int .i64 v]) (.agg #[.int .i64 e, .int .i64 v])).run Tryz.prog w = .ok (.bool false) w := by
 have u3 := Tryz.underlying3
 have u28 := Tryz.underlying28
 have a3 := Tryz.isAgg3
 have a28 := Tryz.isAgg28
 have z3 := Tryz.sizeOf3
 have z28 := Tryz.sizeOf28
 have hS : Tryz.prog.underlying 30 = some (.struct (Tryz.prog.fieldsOf 30)) := by kernel_rfl
 have hp : Tryz.prog.stoodInHeld 30 = false := by kernel_rfl
 rw [run_neq_struct, show (10000 : Nat) = 9999 + 1 from rfl, run_equalIn_agg w 9999 30 _ _ hS hp]
 simp only [Program.fieldsOf, Tryz.underlying30]
 go_simp
theorem src_zany (W : World) (A1 A2 : Option Addr) : SrcB W book0 A1 A2 :=
 ⟨⟨rfl, fun _ => rfl, fun a _ j u hj => (by cases hj)⟩, ⟨rfl, fun _ => rfl, fun a _ j u hj => (by cases hj)⟩, by simp [book0], by simp [book0]⟩
theorem build83z (w : World) : (Instr.build 83 #[]).run Tryz.prog w = .ok (.agg (.bool false :: bookCells book0 none 0 none 0).toArray) w := by
 have hz := Tryz.zeroValue83 w
 simp only [Instr.build, Sem.run_bind, hz, Result.andThen_ok, run_underlying Tryz.underlying83, Value.cells]
 simp only [List.mapM_toArray, List.mapM_cons, List.mapM_nil, Sem.run_bind, Sem.run_map, Sem.run_pure, Result.andThen_ok, Functor.map]
 have hb : ∀ {α β : Type} (x : Sem α) (f : α → Sem β), Sem.bind x f = x >>= f := fun _ _ => rfl
 simp only [hb, Sem.run_bind, Sem.run_pure, Result.andThen_ok, Tryz.sizeOf4, Tryz.sizeOf43, Function.comp]
 rfl
def NoneAt (kk : Nat) (v : Value) (W : World) : Prop := (kk = 0 ∧ v = .pointer none) ∨ (kk ≠ 0 ∧ ∃ p, v = .pointer (some ⟨p, 0, none⟩) ∧ W.heap[p]? = some (.cells (.bool false :: bookCells book0 none 0 none 0).toArray 83 (0, 0)))
theorem keep_blk {w W : World} {p : Nat} {b : Obj} (h : w.heap[p]? = some b) (hb : Below w.heap.size w W) : W.heap[p]? = some b := (hb.block _ (Array.getElem?_eq_some_iff.1 h).1).trans h
end
set_option maxHeartbeats 16000000 in
set_option maxRecDepth 100000 in
theorem known_any (w : World) (hx : PA.LaidW w) : Calls Tryz.prog 12 #[] w fun e w' => e = .returned (.bool true) ∧ Below w.heap.size w w' := by
 have HX := Aside0.mk hx
 clear hx
 go_enter Tryz.func12, Tryz.ntmps12
 go_wp2_with fail
 refine (new_dir w).mono ?_
 rintro e w0 ⟨rfl, ha, hb⟩
 obtain ⟨p, hp⟩ : ∃ p, p = w.heap.size := ⟨_, rfl⟩
 rw [← hp] at ha ⊢
 have HS : Aside0 (DirSt w w0 p kdb0) := ⟨⟨ha, hb, by omega, book0_wf, HX.out⟩⟩
 clear ha hb hp
 go_wp2_with fail
 refine (reg_law 0 1 (by decide) 9 _).mono ?_
 rintro e x1a ⟨rfl, hb⟩
 replace HS := Aside0.mk (HS.out.later hb)
 clear hb
 go_wp2_with fail
 refine (does_st w _ p kdb0 kdo0 220 0 HS.out (by unfold OpIn kdo0 regOp; simp) kde0 kdv0).mono ?_
 rintro e x1 ⟨rfl, hs⟩
 replace HS := Aside0.mk (show DirSt w x1 p kdb0 from by rw [← kds0]; exact hs)
 clear hs
 go_wp2_with fail
 refine (reg_law 9 1 (by decide) 9 _).mono ?_
 rintro e x2a ⟨rfl, hb⟩
 replace HS := Aside0.mk (HS.out.later hb)
 clear hb
 go_wp2_with fail
 refine (does_st w _ p kdb0 kdo1 220 0 HS.out (by unfold OpIn kdo1 regOp; simp) kde1 kdv1).mono ?_
 rintro e x2 ⟨rfl, hs⟩
 replace HS := Aside0.mk (show DirSt w x2 p kdb0 from by rw [← kds1]; exact hs)
 clear hs
 go_wp2_with ((with_reducible refine at_build 36 #[(0, .const (.int .i64 1)), (1, .const (.int .i64 1)), (3, .const (.int .i64 9))] ?_); refine wpList_valueW (by rfl) _ _ (exec_build 36 _ _ rfl _ #[(0, (.int .i64 1)), (1, (.int .i64 1)), (3, (.int .i64 9))] (by rfl) _ (buildOe _ 1 1 9)) ?_)
 refine (does_st w _ p kdb0 kdo2 221 0 HS.out (by unfold OpIn kdo2 rawE; simp) kde2 kdv2).mono ?_
 rintro e x3 ⟨rfl, hs⟩
 replace HS := Aside0.mk (show DirSt w x3 p kdb0 from by rw [← kds2]; exact hs)
 clear hs
 go_wp2_with fail
 refine (reg_law 1 1 (by decide) 9007199254740992 _).mono ?_
 rintro e x4a ⟨rfl, hb⟩
 replace HS := Aside0.mk (HS.out.later hb)
 clear hb
 go_wp2_with fail
 refine (does_st w _ p kdb0 kdo3 9 0 HS.out (by unfold OpIn kdo3 regOp; simp) kde3 kdv3).mono ?_
 rintro e x4 ⟨rfl, hs⟩
 replace HS := Aside0.mk (show DirSt w x4 p kdb0 from by rw [← kds3]; exact hs)
 clear hs
 go_wp2_with fail
 refine (reg_law 1 1 (by decide) (-1) _).mono ?_
 rintro e x5a ⟨rfl, hb⟩
 replace HS := Aside0.mk (HS.out.later hb)
 clear hb
 go_wp2_with fail
 refine (does_st w _ p kdb0 kdo4 9 0 HS.out (by unfold OpIn kdo4 regOp; simp) kde4 kdv4).mono ?_
 rintro e x5 ⟨rfl, hs⟩
 replace HS := Aside0.mk (show DirSt w x5 p kdb0 from by rw [← kds4]; exact hs)
 clear hs
 go_wp2_with fail
 refine (rot_law 1 1 (by decide) 9 _).mono ?_
 rintro e x6a ⟨rfl, hb⟩
 replace HS := Aside0.mk (HS.out.later hb)
 clear hb
 go_wp2_with fail
 refine (does_st w _ p kdb0 kdo5 220 0 HS.out (by unfold OpIn kdo5 rotOp; simp) kde5 kdv5).mono ?_
 rintro e x6 ⟨rfl, hs⟩
 replace HS := Aside0.mk (show DirSt w x6 p kdb0 from by rw [← kds5]; exact hs)
 clear hs
 go_wp2_with fail
 refine (rev_law 1 _).mono ?_
 rintro e x7a ⟨rfl, hb⟩
 replace HS := Aside0.mk (HS.out.later hb)
 clear hb
 go_wp2_with fail
 refine (does_st w _ p kdb0 kdo6 220 0 HS.out (by unfold OpIn kdo6 revOp; simp) kde6 kdv6).mono ?_
 rintro e x7 ⟨rfl, hs⟩
 replace HS := Aside0.mk (show DirSt w x7 p kdb0 from by rw [← kds6]; exact hs)
 clear hs
 go_wp2_with ((with_reducible refine at_build 36 #[] ?_); refine wpList_valueW (by rfl) _ _ (exec_build 36 _ _ rfl _ #[] (by rfl) _ (buildOz _)) ?_)
 refine (does_st w _ p kdb0 kdo7 2 0 HS.out (by unfold OpIn kdo7 rawZ; simp) kde7 kdv7).mono ?_
 rintro e x8 ⟨rfl, hs⟩
 replace HS := Aside0.mk (show DirSt w x8 p kdb0 from by rw [← kds7]; exact hs)
 clear hs
 go_wp2_with ((with_reducible refine at_build 36 #[(0, .const (.int .i64 6))] ?_); refine wpList_valueW (by rfl) _ _ (exec_build 36 _ _ rfl _ #[(0, (.int .i64 6))] (by rfl) _ (buildOk _ 6)) ?_)
 refine (does_st w _ p kdb0 kdo8 2 0 HS.out (by unfold OpIn kdo8 rawK; simp) kde8 kdv8).mono ?_
 rintro e x9 ⟨rfl, hs⟩
 replace HS := Aside0.mk (show DirSt w x9 p kdb0 from by rw [← kds8]; exact hs)
 clear hs
 go_wp2_with fail
 refine (adv_law 0 _).mono ?_
 rintro e x10a ⟨rfl, hb⟩
 replace HS := Aside0.mk (HS.out.later hb)
 clear hb
 go_wp2_with fail
 refine (does_st w _ p kdb0 kdo9 9 0 HS.out (by unfold OpIn kdo9 advOp; simp) kde9 kdv9).mono ?_
 rintro e x10 ⟨rfl, hs⟩
 replace HS := Aside0.mk (show DirSt w x10 p kdb0 from by rw [← kds9]; exact hs)
 clear hs
 go_wp2_with fail
 refine (adv_law 9007199254740992 _).mono ?_
 rintro e x11a ⟨rfl, hb⟩
 replace HS := Aside0.mk (HS.out.later hb)
 clear hb
 go_wp2_with fail
 refine (does_st w _ p kdb0 kdo10 9 0 HS.out (by unfold OpIn kdo10 advOp; simp) kde10 kdv10).mono ?_
 rintro e x11 ⟨rfl, hs⟩
 replace HS := Aside0.mk (show DirSt w x11 p kdb0 from by rw [← kds10]; exact hs)
 clear hs
 go_wp2_with ((with_reducible refine at_build 36 #[(0, .const (.int .i64 4)), (4, .const (.string { data := #[120] }))] ?_); refine wpList_valueW (by rfl) _ _ (exec_build 36 _ _ rfl _ #[(0, (.int .i64 4)), (4, (.string { data := #[120] }))] (by rfl) _ (buildOt _ 4 ktx)) ?_)
 refine (does_st w _ p kdb0 kdo11 210 0 HS.out (by unfold OpIn kdo11 rawX; simp) kde11 kdv11).mono ?_
 rintro e x12 ⟨rfl, hs⟩
 replace HS := Aside0.mk (show DirSt w x12 p kdb0 from by rw [← kds11]; exact hs)
 clear hs
 obtain ⟨xm, hmk, hmo, hmb⟩ := made_bytes x12 1025 (by decide)
 replace HS := Aside0.mk (HS.out.later hmb)
 have hmk2 : (Instr.makeSlice 67 (.int .i64 1025) (.int .i64 1025)).run Tryz.prog x12 = .ok (.slice (some ⟨(x12).heap.size, 0, none⟩) 1025 1025) xm := hmk
 have hcv : (convert 67 9 (.slice (some ⟨(x12).heap.size, 0, none⟩) 1025 1025)).run Tryz.prog xm = .ok (.string (str kt2)) xm := by have := conv_back (w := xm) (c := 1025) hmo.src; rw [List.length_replicate] at this; exact this
 clear hmo hmb hmk
 go_wp2_with ((with_reducible refine at_build 36 #[(0, .const (.int .i64 4)), (4, .tmp 101)] ?_); refine wpList_valueW (by rfl) _ _ (exec_build 36 _ _ rfl _ #[(0, .int .i64 4), (4, .string (str kt2))] (by rfl) _ (buildOt _ 4 kt2)) ?_)
 clear hmk2 hcv
 refine (does_st w _ p kdb0 kdo12 5 0 HS.out (by unfold OpIn kdo12 rawL; simp) kde12 kdv12).mono ?_
 rintro e x13 ⟨rfl, hs⟩
 replace HS := Aside0.mk (show DirSt w x13 p kdb0 from by rw [← kds12]; exact hs)
 clear hs
 go_wp2_with fail
 refine (reg_law 8 1 (by decide) 9007199254740991 _).mono ?_
 rintro e x14a ⟨rfl, hb⟩
 replace HS := Aside0.mk (HS.out.later hb)
 clear hb
 go_wp2_with fail
 refine (does_st w _ p kdb0 kdo13 0 1 HS.out (by unfold OpIn kdo13 regOp; simp) kde13 kdv13).mono ?_
 rintro e x14 ⟨rfl, hs⟩
 replace HS := Aside0.mk (show DirSt w x14 p kdb1 from hs)
 clear hs
 go_wp2_with fail
 refine (reg_law 2 2 (by decide) 9 _).mono ?_
 rintro e x15a ⟨rfl, hb⟩
 replace HS := Aside0.mk (HS.out.later hb)
 clear hb
 go_wp2_with fail
 refine (does_st w _ p kdb1 kdo14 0 2 HS.out (by unfold OpIn kdo14 regOp; simp) kde14 kdv14).mono ?_
 rintro e x15 ⟨rfl, hs⟩
 replace HS := Aside0.mk (show DirSt w x15 p kdb2 from hs)
 clear hs
 go_wp2_with ((with_reducible refine at_build 36 #[(0, .const (.int .i64 4)), (4, .const (.string { data := #[97, 108, 108, 111, 119, 32, 49, 32, 62, 32, 50, 32, 42] }))] ?_); refine wpList_valueW (by rfl) _ _ (exec_build 36 _ _ rfl _ #[(0, (.int .i64 4)), (4, (.string { data := #[97, 108, 108, 111, 119, 32, 49, 32, 62, 32, 50, 32, 42] }))] (by rfl) _ (buildOt _ 4 kt1)) ?_)
 refine (does_st w _ p kdb2 kdo15 0 3 HS.out (by unfold OpIn kdo15 rawT; simp) kde15 kdv15).mono ?_
 rintro e x16 ⟨rfl, hs⟩
 replace HS := Aside0.mk (show DirSt w x16 p kdb3 from hs)
 clear hs
 go_wp2_with fail
 refine (adv_law 8 _).mono ?_
 rintro e x17a ⟨rfl, hb⟩
 replace HS := Aside0.mk (HS.out.later hb)
 clear hb
 go_wp2_with fail
 refine (does_st w _ p kdb3 kdo16 0 4 HS.out (by unfold OpIn kdo16 advOp; simp) kde16 kdv16).mono ?_
 rintro e x17 ⟨rfl, hs⟩
 replace HS := Aside0.mk (show DirSt w x17 p kdb4 from hs)
 clear hs
 go_wp2_with fail
 refine (adv_law 8 _).mono ?_
 rintro e x18a ⟨rfl, hb⟩
 replace HS := Aside0.mk (HS.out.later hb)
 clear hb
 go_wp2_with fail
 refine (does_st w _ p kdb4 kdo17 9 4 HS.out (by unfold OpIn kdo17 advOp; simp) kde17 kdv17).mono ?_
 rintro e x18 ⟨rfl, hs⟩
 replace HS := Aside0.mk (show DirSt w x18 p kdb4 from by rw [← kds17]; exact hs)
 clear hs
 go_wp2_with fail
 refine (reg_law 3 3 (by decide) 8 _).mono ?_
 rintro e x19a ⟨rfl, hb⟩
 replace HS := Aside0.mk (HS.out.later hb)
 clear hb
 go_wp2_with fail
 refine (does_st w _ p kdb4 kdo18 9 4 HS.out (by unfold OpIn kdo18 regOp; simp) kde18 kdv18).mono ?_
 rintro e x19 ⟨rfl, hs⟩
 replace HS := Aside0.mk (show DirSt w x19 p kdb4 from by rw [← kds18]; exact hs)
 clear hs
 go_wp2_with fail
 refine (reg_law 3 3 (by decide) 9 _).mono ?_
 rintro e x20a ⟨rfl, hb⟩
 replace HS := Aside0.mk (HS.out.later hb)
 clear hb
 go_wp2_with fail
 refine (does_st w _ p kdb4 kdo19 0 5 HS.out (by unfold OpIn kdo19 regOp; simp) kde19 kdv19).mono ?_
 rintro e x20 ⟨rfl, hs⟩
 replace HS := Aside0.mk (show DirSt w x20 p kdb5 from hs)
 clear hs
 go_wp2_with fail
 refine (rot_law 2 2 (by decide) 10 _).mono ?_
 rintro e x21a ⟨rfl, hb⟩
 replace HS := Aside0.mk (HS.out.later hb)
 clear hb
 go_wp2_with fail
 refine (does_st w _ p kdb5 kdo20 221 5 HS.out (by unfold OpIn kdo20 rotOp; simp) kde20 kdv20).mono ?_
 rintro e x21 ⟨rfl, hs⟩
 replace HS := Aside0.mk (show DirSt w x21 p kdb5 from by rw [← kds20]; exact hs)
 clear hs
 go_wp2_with fail
 refine (rot_law 2 3 (by decide) 10 _).mono ?_
 rintro e x22a ⟨rfl, hb⟩
 replace HS := Aside0.mk (HS.out.later hb)
 clear hb
 go_wp2_with fail
 refine (does_st w _ p kdb5 kdo21 221 5 HS.out (by unfold OpIn kdo21 rotOp; simp) kde21 kdv21).mono ?_
 rintro e x22 ⟨rfl, hs⟩
 replace HS := Aside0.mk (show DirSt w x22 p kdb5 from by rw [← kds21]; exact hs)
 clear hs
 go_wp2_with fail
 refine (rot_law 2 9 (by decide) 8 _).mono ?_
 rintro e x23a ⟨rfl, hb⟩
 replace HS := Aside0.mk (HS.out.later hb)
 clear hb
 go_wp2_with fail
 refine (does_st w _ p kdb5 kdo22 9 5 HS.out (by unfold OpIn kdo22 rotOp; simp) kde22 kdv22).mono ?_
 rintro e x23 ⟨rfl, hs⟩
 replace HS := Aside0.mk (show DirSt w x23 p kdb5 from by rw [← kds22]; exact hs)
 clear hs
 go_wp2_with fail
 refine (rev_law 2 _).mono ?_
 rintro e x24a ⟨rfl, hb⟩
 replace HS := Aside0.mk (HS.out.later hb)
 clear hb
 go_wp2_with fail
 refine (does_st w _ p kdb5 kdo23 0 6 HS.out (by unfold OpIn kdo23 revOp; simp) kde23 kdv23).mono ?_
 rintro e x24 ⟨rfl, hs⟩
 replace HS := Aside0.mk (show DirSt w x24 p kdb6 from hs)
 clear hs
 go_wp2_with fail
 refine (rev_law 2 _).mono ?_
 rintro e x25a ⟨rfl, hb⟩
 replace HS := Aside0.mk (HS.out.later hb)
 clear hb
 go_wp2_with fail
 refine (does_st w _ p kdb6 kdo24 222 6 HS.out (by unfold OpIn kdo24 revOp; simp) kde24 kdv24).mono ?_
 rintro e x25 ⟨rfl, hs⟩
 replace HS := Aside0.mk (show DirSt w x25 p kdb6 from by rw [← kds24]; exact hs)
 clear hs
 go_wp2_with fail
 refine (reg_law 2 2 (by decide) 10 _).mono ?_
 rintro e x26a ⟨rfl, hb⟩
 replace HS := Aside0.mk (HS.out.later hb)
 clear hb
 go_wp2_with fail
 refine (does_st w _ p kdb6 kdo25 221 6 HS.out (by unfold OpIn kdo25 regOp; simp) kde25 kdv25).mono ?_
 rintro e x26 ⟨rfl, hs⟩
 replace HS := Aside0.mk (show DirSt w x26 p kdb6 from by rw [← kds25]; exact hs)
 clear hs
 go_wp2_with fail
 refine (book_st w _ p kdb6 HS.out).mono ?_
 rintro e xa1 ⟨⟨A1, c1, A2, c2, rfl, hL⟩, hs, hb⟩
 replace HS := Aside0.mk hs
 clear hs hb hL
 unfold bookCells
 rw [kd_acl, show str kt1 = (⟨#[97, 108, 108, 111, 119, 32, 49, 32, 62, 32, 50, 32, 42]⟩ : ByteArray) from rfl]
 have hfl := field_a4
 go_wp2_with fail
 refine (book_st w _ p kdb6 HS.out).mono ?_
 rintro e xa2 ⟨⟨A1, c1, A2, c2, rfl, hL⟩, hs, hb⟩
 replace HS := Aside0.mk hs
 clear hs hb hL
 unfold bookCells
 rw [kd_clock]
 have hfm := field_a1
 go_wp2_with fail
 clear hfl hfm
 refine (counts_st w _ p kdb6 3 (by decide) 8 3 HS.out true kc0).mono ?_
 rintro e xc0 ⟨rfl, hs⟩
 replace HS := Aside0.mk hs
 clear hs
 go_wp2_with fail
 refine (counts_st w _ p kdb6 2 (by decide) 0 2 HS.out false kc1).mono ?_
 rintro e xc1 ⟨rfl, hs⟩
 replace HS := Aside0.mk hs
 clear hs
 go_wp2_with fail
 refine (counts_st w _ p kdb6 1 (by decide) 9007199254740990 8 HS.out true kc2).mono ?_
 rintro e xc2 ⟨rfl, hs⟩
 replace HS := Aside0.mk hs
 clear hs
 go_wp2_with fail
 refine (counts_st w _ p kdb6 1 (by decide) 9007199254740991 8 HS.out false kc3).mono ?_
 rintro e xc3 ⟨rfl, hs⟩
 replace HS := Aside0.mk hs
 clear hs
 go_wp2_with fail
 refine (new_dir xc3).mono ?_
 rintro e xn1 ⟨rfl, ha, hb⟩
 obtain ⟨pe, hpe⟩ : ∃ pe, pe = (xc3).heap.size := ⟨_, rfl⟩
 rw [← hpe] at ha ⊢
 replace HS : Aside0 (DirSt w xn1 pe keb0) := ⟨⟨ha, below_step HS.out.fr hb, by rw [hpe]; exact HS.out.fr.size, book0_wf, HX.out⟩⟩
 clear ha hb hpe
 go_wp2_with fail
 refine (reg_law 1 1 (by decide) 9 _).mono ?_
 rintro e x27a ⟨rfl, hb⟩
 replace HS := Aside0.mk (HS.out.later hb)
 clear hb
 go_wp2_with fail
 refine (does_st w _ pe keb0 keo0 0 1 HS.out (by unfold OpIn keo0 regOp; simp) kee0 kev0).mono ?_
 rintro e x27 ⟨rfl, hs⟩
 replace HS := Aside0.mk (show DirSt w x27 pe keb1 from hs)
 clear hs
 go_wp2_with fail
 refine (adv_law 9 _).mono ?_
 rintro e x28a ⟨rfl, hb⟩
 replace HS := Aside0.mk (HS.out.later hb)
 clear hb
 go_wp2_with fail
 refine (does_st w _ pe keb1 keo1 0 2 HS.out (by unfold OpIn keo1 advOp; simp) kee1 kev1).mono ?_
 rintro e x28 ⟨rfl, hs⟩
 replace HS := Aside0.mk (show DirSt w x28 pe keb2 from hs)
 clear hs
 go_wp2_with fail
 refine (reg_law 1 2 (by decide) 20 _).mono ?_
 rintro e x29a ⟨rfl, hb⟩
 replace HS := Aside0.mk (HS.out.later hb)
 clear hb
 go_wp2_with fail
 refine (does_st w _ pe keb2 keo2 220 2 HS.out (by unfold OpIn keo2 regOp; simp) kee2 kev2).mono ?_
 rintro e x29 ⟨rfl, hs⟩
 replace HS := Aside0.mk (show DirSt w x29 pe keb2 from by rw [← kes2]; exact hs)
 clear hs
 go_wp2_with fail
 refine (new_dir x29).mono ?_
 rintro e xn2 ⟨rfl, ha, hb⟩
 obtain ⟨pf, hpe⟩ : ∃ pf, pf = (x29).heap.size := ⟨_, rfl⟩
 rw [← hpe] at ha ⊢
 replace HS : Aside0 (DirSt w xn2 pf kfb0) := ⟨⟨ha, below_step HS.out.fr hb, by rw [hpe]; exact HS.out.fr.size, book0_wf, HX.out⟩⟩
 clear ha hb hpe
 go_wp2_with fail
 refine (reg_law 1 100 (by decide) 9 _).mono ?_
 rintro e x30a ⟨rfl, hb⟩
 replace HS := Aside0.mk (HS.out.later hb)
 clear hb
 go_wp2_with fail
 refine (does_st w _ pf kfb0 kfo0 0 1 HS.out (by unfold OpIn kfo0 regOp; simp) kfe0 kfv0).mono ?_
 rintro e x30 ⟨rfl, hs⟩
 replace HS := Aside0.mk (show DirSt w x30 pf kfb1 from hs)
 clear hs
 replace HS := Aside0.mk (show DirSt w x30 pf (fullC 0) by rw [← full_zero]; exact HS.out)
 go_upto_region 12 with fail
 go_loopg [6, 7] 64 (fun kx s6 s7 wr => ∃ kk : Nat, s6 = .bool true ∧ s7 = .int .i64 kk ∧ kk + kx = 64 ∧ Aside0 (DirSt w wr pf (fullC kk)))
 case atStart => exact ⟨0, rfl, rfl, by omega, HS⟩
 case round =>
  obtain ⟨kk, rfl, rfl, hkk, HT⟩ := hrel
  by_cases hlt : kk < 64
  ·have hltz : (kk : Int) < 64 := by omega
   obtain ⟨ko, rfl⟩ : ∃ ko, gk = ko + 1 := ⟨gk - 1, by omega⟩
   have HKK := Aside0.mk (And.intro hkk hlt)
   have HRL := Aside0.mk (show Calls Tryz.prog 39 #[.int .i64 1, .int .i64 (101 + (kk : Int)), .int .i64 9] wr fun e' w' => e' = .returned (.agg (encO (rotOp 1 (101 + kk) 9)).toArray) ∧ Below wr.heap.size wr w' by
    have := rot_law 1 (101 + kk) (by omega) 9 wr
    rw [Int.natCast_add] at this
    exact this)
   have hlo : (0 : Int) ≤ kk := by omega
   clear hkk
   go_wp2_with fail
   refine HRL.out.mono ?_
   rintro e y1 ⟨rfl, hb⟩
   have HT1 := Aside0.mk (HT.out.later hb)
   clear hb
   go_wp2_with fail
   refine (does_st w _ pf (fullC kk) (rotOp 1 (101 + kk) 9) 0 (2 + (kk : Int)) HT1.out (by unfold OpIn rotOp; simp) (full_step kk HKK.out.2).1 (by rw [(full_step kk HKK.out.2).2]; show ((kk + 1 + 1 : Nat) : Int) = _; omega)).mono ?_
   rintro e y2 ⟨rfl, hs⟩
   have HT2 := Aside0.mk (show DirSt w y2 pf (fullC (kk + 1)) by rw [← (full_step kk HKK.out.2).2]; exact hs)
   clear hs
   go_wp2_with fail
   go_roundg ko
   case measure => have := HKK.out; omega
   case rel => exact ⟨kk + 1, rfl, by go_num, by have := HKK.out; omega, HT2⟩
  ·have hltz : ¬ (kk : Int) < 64 := by omega
   have hk64 : kk = 64 := by omega
   subst hk64
   clear hlt hkk HS
   have HS := Aside0.mk (show DirSt w wr pf kgb0 from HT.out)
   clear HT
   go_wp2_with fail
   refine (book_st w _ pf kgb0 HS.out).mono ?_
   rintro e xa3 ⟨⟨A1, c1, A2, c2, rfl, hL⟩, hs, hb⟩
   replace HS := Aside0.mk hs
   clear hs hb hL
   unfold bookCells
   rw [show kgb0.spent.length = 64 from full_spent]
   have hfl := field_a3
   go_wp2_with fail
   clear hfl
   refine (rot_law 1 1 (by decide) 9 _).mono ?_
   rintro e x31a ⟨rfl, hb⟩
   replace HS := Aside0.mk (HS.out.later hb)
   clear hb
   go_wp2_with fail
   refine (does_st w _ pf kgb0 kgo0 5 65 HS.out (by unfold OpIn kgo0 rotOp; simp) kge0 kgv0).mono ?_
   rintro e x31 ⟨rfl, hs⟩
   replace HS := Aside0.mk (show DirSt w x31 pf kgb0 from by rw [← kgs0]; exact hs)
   clear hs
   go_wp2_with fail
   refine (rot_law 1 100 (by decide) 9 _).mono ?_
   rintro e x32a ⟨rfl, hb⟩
   replace HS := Aside0.mk (HS.out.later hb)
   clear hb
   go_wp2_with fail
   refine (does_st w _ pf kgb0 kgo1 221 65 HS.out (by unfold OpIn kgo1 rotOp; simp) kge1 kgv1).mono ?_
   rintro e x32 ⟨rfl, hs⟩
   replace HS := Aside0.mk (show DirSt w x32 pf kgb0 from by rw [← kgs1]; exact hs)
   clear hs
   go_wp2_with fail
   refine (reg_law 2 1 (by decide) 9 _).mono ?_
   rintro e x33a ⟨rfl, hb⟩
   replace HS := Aside0.mk (HS.out.later hb)
   clear hb
   go_wp2_with fail
   refine (does_st w _ pf kgb0 kgo2 0 66 HS.out (by unfold OpIn kgo2 regOp; simp) kge2 kgv2).mono ?_
   rintro e x33 ⟨rfl, hs⟩
   replace HS := Aside0.mk (show DirSt w x33 pf kgb1 from hs)
   clear hs
   go_wp2_with fail
   refine (rev_law 2 _).mono ?_
   rintro e x34a ⟨rfl, hb⟩
   replace HS := Aside0.mk (HS.out.later hb)
   clear hb
   go_wp2_with fail
   refine (does_st w _ pf kgb1 kgo3 0 67 HS.out (by unfold OpIn kgo3 revOp; simp) kge3 kgv3).mono ?_
   rintro e x34 ⟨rfl, hs⟩
   replace HS := Aside0.mk (show DirSt w x34 pf kgb2 from hs)
   clear hs
   go_wp2_with fail
   refine (reg_law 2 2 (by decide) 9 _).mono ?_
   rintro e x35a ⟨rfl, hb⟩
   replace HS := Aside0.mk (HS.out.later hb)
   clear hb
   go_wp2_with fail
   refine (does_st w _ pf kgb2 kgo4 5 67 HS.out (by unfold OpIn kgo4 regOp; simp) kge4 kgv4).mono ?_
   rintro e x35 ⟨rfl, hs⟩
   replace HS := Aside0.mk (show DirSt w x35 pf kgb2 from by rw [← kgs4]; exact hs)
   clear hs
   go_wp2_with fail
   refine (reg_law 3 2 (by decide) 9 _).mono ?_
   rintro e x36a ⟨rfl, hb⟩
   replace HS := Aside0.mk (HS.out.later hb)
   clear hb
   go_wp2_with fail
   refine (does_st w _ pf kgb2 kgo5 0 68 HS.out (by unfold OpIn kgo5 regOp; simp) kge5 kgv5).mono ?_
   rintro e x36 ⟨rfl, hs⟩
   replace HS := Aside0.mk (show DirSt w x36 pf kgb3 from hs)
   clear hs
   go_wp2_with ((with_reducible refine at_build 43 #[(0, .const (.int .i64 9007199254740991))] ?_); refine wpList_valueW (by rfl) _ _ (exec_build 43 _ _ rfl _ #[(0, .int .i64 9007199254740991)] (by rfl) _ (book_b0 _ 9007199254740991)) ?_)
   refine (load_any klb0 none 0 none 0 _ (src_zb klb0 rfl rfl) bare_none HS.out.laidW).mono ?_
   rintro e xl ⟨hle, hb⟩
   rcases hle with ⟨pl, rfl, -, hat, hlo⟩ | ⟨rfl, hno⟩
   case inr => exact absurd klb0_ok hno
   replace HS : Aside0 (DirSt w xl pl klb0) := ⟨⟨hat, below_step HS.out.fr hb, Nat.le_trans HS.out.fr.size hlo, klb0_wf, HX.out⟩⟩
   clear hat hb hlo
   go_wp2_with fail
   refine (reg_law 1 1 (by decide) 9 _).mono ?_
   rintro e x37a ⟨rfl, hb⟩
   replace HS := Aside0.mk (HS.out.later hb)
   clear hb
   go_wp2_with fail
   refine (does_st w _ pl klb0 klo0 5 9007199254740991 HS.out (by unfold OpIn klo0 regOp; simp) kle0 klv0).mono ?_
   rintro e x37 ⟨rfl, hs⟩
   replace HS := Aside0.mk (show DirSt w x37 pl klb0 from by rw [← kls0]; exact hs)
   clear hs
   go_wp2_with fail
   refine (reg_law 0 1 (by decide) 9 _).mono ?_
   rintro e x38a ⟨rfl, hb⟩
   replace HS := Aside0.mk (HS.out.later hb)
   clear hb
   go_wp2_with fail
   refine (does_st w _ pl klb0 klo1 220 9007199254740991 HS.out (by unfold OpIn klo1 regOp; simp) kle1 klv1).mono ?_
   rintro e x38 ⟨rfl, hs⟩
   replace HS := Aside0.mk (show DirSt w x38 pl klb0 from by rw [← kls1]; exact hs)
   clear hs
   go_wp2_with fail
   refine (book_st w _ pl klb0 HS.out).mono ?_
   rintro e xa4 ⟨⟨A1, c1, A2, c2, rfl, hL⟩, hs, hb⟩
   replace HS := Aside0.mk hs
   clear hs hb hL
   unfold bookCells
   rw [show klb0.devs.length = 0 from rfl]
   have hfl := field_a2
   go_upto_region 18 with fail
   clear hfl
   go_upto_region 19 with fail
   go_wp2_with fail
   refine (key_any 1 (by decide) _).mono ?_
   rintro e xk ⟨rfl, hb⟩
   replace HS := Aside0.mk (HS.out.later hb)
   clear hb
   obtain ⟨tp, htp⟩ : ∃ tp, tp = xk.heap.size := ⟨_, rfl⟩
   obtain ⟨XT, hXT⟩ : ∃ XT, XT = xk.alloc (.cells (encD devOne).toArray 46) := ⟨_, rfl⟩
   have hone : XT.heap[tp]? = some (.cells (encD devOne).toArray 46 (0, 0)) := by rw [hXT, htp]; exact heap_alloc_new xk _
   have HBT := Aside0.mk (show Below w.heap.size w XT by rw [hXT]; exact HS.out.fr.alloc HS.out.fr.size _)
   have HONE := Aside0.mk hone
   have st := Aside0.mk (fun (c : Array Value) (hc : c.size = 35) => run_storeNew Tryz.prog xk 46 35 sizeD c (encD devOne).toArray hc (by simpa using encD_len devOne) (by simpa using encD_one devOne))
   have HBD := Aside0.mk (fun (W : World) => (show (Instr.build 46 #[(0, .int .i64 1), (1, .agg (encK (keyN 1)).toArray), (2, .int .i64 1)]).run Tryz.prog W = .ok (.agg (encD devOne).toArray) W from run_buildDev W 1 1 (keyN 1)))
   obtain ⟨DX, hDX⟩ : ∃ DX, DX = (encD devOne).toArray := ⟨_, rfl⟩
   rw [← hDX] at hXT st HBD
   clear hone hDX
   go_upto_region 20 with (first | ((with_reducible refine at_build 46 #[(0, .const (.int .i64 1)), (1, .tmp 291), (2, .const (.int .i64 1))] ?_); refine wpList_valueW (by rfl) _ _ (exec_build 46 _ _ rfl _ #[(0, .int .i64 1), (1, .agg (encK (keyN 1)).toArray), (2, .int .i64 1)] (he46 rfl) _ (HBD.out _)) ?_) | ((with_reducible refine at_store 46 (.tmp 13) (.tmp 292) ?_); refine wpList_storeK rfl 46 (.tmp 13) (.tmp 292) rfl rfl _ _ rfl rfl _ (st.out _ rfl) ?_))
   rw [← hXT, ← htp]
   clear hXT htp st HBD HS
   refine region_swap (ops' := ops20) (by kernel_rfl) ?_
   refine region20 tp _ _ (by rfl) (by rfl) HONE.out ?_
   intro v W hall h16 h0 hb
   obtain ⟨g, hv, hall⟩ := hall
   have HALL := Aside0.mk hall
   have HBW := Aside0.mk (below_step HBT.out hb)
   rw [range_lit]
   simp only [List.map_cons, List.map_nil, putAll, hv, h16, h0]
   simp only [Act.put, List.setIfInBounds_toArray, List.set_cons_zero, List.set_cons_succ]
   clear hall hb hv h16 h0
   go_upto_region 21 with fail
   go_loopg [12, 340] 16 (fun kx s12 s340 wr => ∃ kk : Nat, s12 = .int .i64 kk ∧ s340 = .int .i64 kk ∧ kk + kx = 16 ∧ Aside0 (Below w.heap.size w wr ∧ Below W.heap.size W wr))
   case atStart => exact ⟨0, rfl, rfl, by omega, ⟨HBW.out, Below.refl _ _⟩⟩
   case round =>
    obtain ⟨kk, rfl, rfl, hkk, HT⟩ := hrel
    by_cases hlt : kk < 16
    ·have hltz : (kk : Int) < 16 := by omega
     obtain ⟨ko, rfl⟩ : ∃ ko, gk = ko + 1 := ⟨gk - 1, by omega⟩
     have HKK := Aside0.mk (And.intro hkk hlt)
     obtain ⟨A1, c1, A2, c2, hc, hs, hbr⟩ := HALL.out kk hlt
     have HNO := Aside0.mk (bad_ok kk hlt)
     obtain ⟨BB, hBB⟩ : ∃ BB, BB = badB kk := ⟨_, rfl⟩
     rw [← hBB] at hc hs HNO
     have DL := Aside0.mk (run_loadAtK Tryz.prog wr 43 5 Tryz.isAgg43 Tryz.sizeOf43 g (kk * 5) (bookCells BB A1 c1 A2 c2) rfl (fun j u hj => (HT.out.2.cell (World.block_lt_of_cell? W _ (hc j u hj))).trans (hc j u hj)))
     obtain ⟨nb, hnb⟩ : ∃ nb, nb = wr.heap.size := ⟨_, rfl⟩
     obtain ⟨W6, hW6⟩ : ∃ W6, W6 = wr.alloc (.cells (bookCells BB A1 c1 A2 c2).toArray 43) := ⟨_, rfl⟩
     have hb6 : Below wr.heap.size wr W6 := by rw [hW6]; exact (Below.refl _ wr).alloc (Nat.le_refl _) _
     have H6 := Aside0.mk (show W6.heap[nb]? = some (.cells (bookCells BB A1 c1 A2 c2).toArray 43 (0, 0)) by rw [hW6, hnb]; exact heap_alloc_new wr _)
     have st := Aside0.mk (fun (c : Array Value) (hc : c.size = 5) => run_storeNew Tryz.prog wr 43 5 size43 c (bookCells BB A1 c1 A2 c2).toArray hc rfl (by simpa using book_one BB A1 A2 c1 c2))
     have HS6 := Aside0.mk (And.intro ((hs.later HT.out.2).later hb6) hbr)
     have HB6 := Aside0.mk (And.intro (below_step HT.out.1 hb6) (below_step HT.out.2 hb6))
     have LB := Aside0.mk (fun (W' : World) (hb : Below W6.heap.size W6 W') => run_loadAtK Tryz.prog W' 43 5 Tryz.isAgg43 Tryz.sizeOf43 nb 0 (bookCells BB A1 c1 A2 c2) rfl (cells_of_heap (room_at H6.out hb)))
     have HLD := Aside0.mk (load_any BB A1 c1 A2 c2 W6 HS6.out.1 HS6.out.2 (HX.out.below HB6.out.1))
     have HBY := Aside0.mk (fun (W' : World) (hb : Below W6.heap.size W6 W') => bytes_src BB A1 c1 A2 c2 W' (HS6.out.1.later hb) (HX.out.below (below_step HB6.out.1 hb)))
     have HCK := Aside0.mk (fun (W' : World) (hb : Below W6.heap.size W6 W') => check_src BB A1 c1 A2 c2 W' (HS6.out.1.later hb).devs (HS6.out.1.later hb).spent HS6.out.1.few HS6.out.1.len (HX.out.below (below_step HB6.out.1 hb)))
     have L6 := Aside0.mk (LB.out W6 (Below.refl _ _))
     obtain ⟨BX, hBX⟩ : ∃ BX, BX = (bookCells BB A1 c1 A2 c2).toArray := ⟨_, rfl⟩
     rw [← hBX] at DL hW6 st LB HLD HBY HCK L6
     clear hc hs hbr hBB hb6 hBX hkk
     go_upto_region 23 with (first | ((with_reducible refine at_load 43 (.tmp 342) ?_); refine wpList_loadK rfl 43 (.tmp 342) rfl _ rfl _ DL.out ?_) | ((with_reducible refine at_store 43 (.tmp 15) (.tmp 343) ?_); refine wpList_storeK rfl 43 (.tmp 15) (.tmp 343) rfl rfl _ _ rfl rfl _ (st.out _ rfl) ?_))
     rw [← hW6, ← hnb]
     clear hW6 hnb st DL
     go_wp2_with ((with_reducible refine at_load 43 (.tmp 15) ?_); refine wpList_loadK rfl 43 (.tmp 15) rfl _ rfl _ L6.out ?_)
     refine HLD.out.mono ?_
     rintro e y1 ⟨hle, hb1⟩
     have HB7 := Aside0.mk hb1
     rcases hle with ⟨pl2, rfl, hok, -, -⟩ | ⟨rfl, -⟩
     ·exact absurd hok HNO.out
     have L7 := Aside0.mk (LB.out y1 hb1)
     have HBY7 := Aside0.mk (HBY.out y1 hb1)
     clear hb1
     go_upto_region 24 with fail
     go_wp2_with ((with_reducible refine at_load 43 (.tmp 15) ?_); refine wpList_loadK rfl 43 (.tmp 15) rfl _ rfl _ L7.out ?_)
     refine HBY7.out.mono ?_
     rintro e y2 ⟨hle, hb2⟩
     have hb27 := below_step HB7.out hb2
     have HB8 := Aside0.mk hb27
     rcases hle with ⟨A8, c8, rfl, -, hm⟩ | ⟨rfl, -⟩
     ·exact absurd ((may_ok _).2 hm) HNO.out
     have L8 := Aside0.mk (LB.out y2 hb27)
     have HCK8 := Aside0.mk (HCK.out y2 hb27)
     clear hb2 hb27
     go_upto_region 25 with fail
     go_wp2_with ((with_reducible refine at_load 43 (.tmp 15) ?_); refine wpList_loadW (by rfl) 43 (.tmp 15) rfl _ rfl _ L8.out ?_)
     refine HCK8.out.mono ?_
     rintro e y3 ⟨hle, hb3⟩
     have HB9 := Aside0.mk (below_step HB8.out hb3)
     rcases hle with ⟨rfl, hok⟩ | ⟨rfl, -⟩
     ·exact absurd hok HNO.out
     clear hb3
     go_wp2_with fail
     go_roundg ko
     case measure => have := HKK.out; omega
     case rel => exact ⟨kk + 1, by go_num, by go_num, by have := HKK.out; omega, ⟨below_step HB6.out.1 HB9.out, below_step HB6.out.2 HB9.out⟩⟩
    ·have hltz : ¬ (kk : Int) < 16 := by omega
     have hk16 : kk = 16 := by omega
     subst hk16
     have HBE := Aside0.mk HT.out.1
     clear hlt hkk HT
     go_upto_region 28 with fail
     obtain ⟨BZ, hBZ⟩ : ∃ BZ, BZ = (bookCells book0 none 0 none 0).toArray := ⟨_, rfl⟩
     have HBZ := Aside0.mk (fun (W : World) => (show (Instr.build 43 #[]).run Tryz.prog W = .ok (.agg BZ) W by rw [hBZ]; exact run_build43 W))
     have HZB := Aside0.mk (show Calls Tryz.prog 29 #[.agg BZ] wr fun e w' => BytesEnd wr w' book0 e ∧ Below wr.heap.size wr w' by rw [hBZ]; exact bytes_src book0 none 0 none 0 wr (src_zb book0 rfl rfl) (HX.out.below HBE.out))
     have HBZE := Aside0.mk hBZ
     clear hBZ
     go_wp2_with ((with_reducible refine at_build 43 #[] ?_); refine wpList_build0 rfl 43 rfl _ _ (HBZ.out _) ?_)
     refine HZB.out.mono ?_
     rintro e z0 ⟨hle, hb⟩
     have HB0 := Aside0.mk (below_step HBE.out hb)
     have HBS := Aside0.mk hb.size
     rcases hle with ⟨A0, c0, rfl, ho, -⟩ | ⟨rfl, hno⟩
     case inr => exact absurd may_zero hno
     rw [zero_bytes] at ho ⊢
     rw [List.length_replicate]
     have HO := Aside0.mk ho
     have hc18 : 18 ≤ c0 := by have := own_cap ho; simpa using this
     have hsl : ∀ W, (Instr.slice 67 (.slice A0 18 c0) none (some (.int .i64 17)) none).run Tryz.prog W = .ok (.slice A0 17 c0) W := slice67h A0 18 c0 17 (by omega)
     clear ho hb hc18
     go_wp2_with fail
     clear hsl
     refine (parse_err ((List.replicate 18 (0 : UInt8)).take 17) 17 (by simp) A0 c0 z0 (src_take HO.out.src 17 (by decide) (by decide)) (by simp) (HX.out.below HB0.out) 3 (by decide) parse_17).mono ?_
     rintro e z1 ⟨⟨pv1, rfl, hp5, hp1⟩, hb⟩
     have st := Aside0.mk (fun (c : Array Value) (hc : c.size = 5) => run_storeNew Tryz.prog z1 43 5 size43 c pv1 hc hp5 (by simpa using hp1))
     obtain ⟨Z1, hZ⟩ : ∃ Z1, Z1 = z1.alloc (.cells pv1 43) := ⟨_, rfl⟩
     have hbz : Below z1.heap.size z1 Z1 := by rw [hZ]; exact (Below.refl _ _).alloc (Nat.le_refl _) _
     have HBL1 := Aside0.mk (below_step hb hbz)
     have HBZ1 := Aside0.mk (below_step HB0.out HBL1.out)
     clear hp5 hp1 hb hbz
     go_upto_region 32 with ((with_reducible refine at_store 43 (.tmp 22) (.tmp 384) ?_); refine wpList_storeK rfl 43 (.tmp 22) (.tmp 384) rfl rfl _ _ rfl rfl _ (st.out _ rfl) ?_)
     rw [← hZ]
     clear hZ st
     obtain ⟨r2, hr2⟩ : ∃ W', W' = (Z1).alloc (.cells #[.int .u8 0] 5) := ⟨_, rfl⟩
     have q2 : Below (Z1).heap.size Z1 r2 := by rw [hr2]; exact (Below.refl _ _).alloc (Nat.le_refl _) _
     have q3 : SrcAt r2 (some ⟨(Z1).heap.size, 0, none⟩) 1 1 (([0] : List UInt8).map byteV) := by rw [hr2]; exact src_row (cs := ([0] : List UInt8).map byteV) (heap_alloc_new (Z1) _) (by simp) (by decide)
     obtain ⟨A2, c2, s2, hap, ho, hb2, hk2⟩ := add_keep r2 67 wr.heap.size 18 c0 1 1 A0 ⟨(Z1).heap.size, 0, none⟩ (List.replicate 18 (0 : UInt8)) [0] (by simp) rfl (HO.out.below (below_step HBL1.out q2)) q3 (by decide) (Nat.le_trans HBS.out (below_step HBL1.out q2).size)
     have hap2 : (Builtin.append_ #[67, 67] 67 #[.slice A0 18 c0, .slice (some ⟨(Z1).heap.size, 0, none⟩) 1 1]).run Tryz.prog r2 = .ok (.slice A2 19 c2) s2 := hap
     have HOW2 := Aside0.mk ho
     have HKP2 := Aside0.mk hk2
     have HBQ2 := Aside0.mk q2
     have HBR2 := Aside0.mk hb2
     have HBT2 := Aside0.mk ((below_step HBZ1.out q2).trans (hb2.mono HBE.out.size))
     clear q2 q3 hap ho hb2 hk2
     go_wp2_with (at_builtin; rw [← hr2]; refine wpList_valueW (by rfl) _ _ (runs_append 67 (.tmp 387) (.tmp 388) _ rfl _ (.slice A0 18 c0) (.slice (some ⟨Z1.heap.size, 0, none⟩) 1 1) _ rfl rfl hap2) ?_)
     clear hr2 hap2
     refine (parse_err (List.replicate 18 (0 : UInt8) ++ [0]) 19 (by simp) A2 c2 s2 (HOW2.out.src) (by simp) (HX.out.below HBT2.out) 4 (by decide) parse_19).mono ?_
     rintro e z2 ⟨⟨pv2, rfl, hp5, hp1⟩, hb⟩
     have st := Aside0.mk (fun (c : Array Value) (hc : c.size = 5) => run_storeNew Tryz.prog z2 43 5 size43 c pv2 hc hp5 (by simpa using hp1))
     obtain ⟨Z2, hZ⟩ : ∃ Z2, Z2 = z2.alloc (.cells pv2 43) := ⟨_, rfl⟩
     have hbz : Below z2.heap.size z2 Z2 := by rw [hZ]; exact (Below.refl _ _).alloc (Nat.le_refl _) _
     have HBL2 := Aside0.mk (below_step hb hbz)
     have HBZ2 := Aside0.mk (below_step HBT2.out HBL2.out)
     clear hp5 hp1 hb hbz
     go_upto_region 33 with ((with_reducible refine at_store 43 (.tmp 24) (.tmp 391) ?_); refine wpList_storeK rfl 43 (.tmp 24) (.tmp 391) rfl rfl _ _ rfl rfl _ (st.out _ rfl) ?_)
     rw [← hZ]
     clear hZ st
     go_wp2_with fail
     refine (parse_err (([] : List UInt8)) 0 (by simp) none 0 Z2 (src_none) (by simp) (HX.out.below HBZ2.out) 3 (by decide) parse_none).mono ?_
     rintro e z3 ⟨⟨pv3, rfl, hp5, hp1⟩, hb⟩
     have st := Aside0.mk (fun (c : Array Value) (hc : c.size = 5) => run_storeNew Tryz.prog z3 43 5 size43 c pv3 hc hp5 (by simpa using hp1))
     obtain ⟨Z3, hZ⟩ : ∃ Z3, Z3 = z3.alloc (.cells pv3 43) := ⟨_, rfl⟩
     have hbz : Below z3.heap.size z3 Z3 := by rw [hZ]; exact (Below.refl _ _).alloc (Nat.le_refl _) _
     have HBL3 := Aside0.mk (below_step hb hbz)
     have HBZ3 := Aside0.mk (below_step HBZ2.out HBL3.out)
     clear hp5 hp1 hb hbz
     go_upto_region 34 with ((with_reducible refine at_store 43 (.tmp 26) (.tmp 395) ?_); refine wpList_storeK rfl 43 (.tmp 26) (.tmp 395) rfl rfl _ _ rfl rfl _ (st.out _ rfl) ?_)
     rw [← hZ]
     clear hZ st
     obtain ⟨mk4, hmk, hmo, hmb⟩ := made_bytes Z3 14 (by decide)
     have hmk2 : (Instr.makeSlice 67 (.int .i64 14) (.int .i64 14)).run Tryz.prog Z3 = .ok (.slice (some ⟨(Z3).heap.size, 0, none⟩) 14 14) mk4 := hmk
     have HMB4 := Aside0.mk (below_step HBZ3.out hmb)
     obtain ⟨r4, hr4⟩ : ∃ W', W' = (mk4).alloc (.cells #[.int .u8 9] 5) := ⟨_, rfl⟩
     have q2 : Below (mk4).heap.size mk4 r4 := by rw [hr4]; exact (Below.refl _ _).alloc (Nat.le_refl _) _
     have q3 : SrcAt r4 (some ⟨(mk4).heap.size, 0, none⟩) 1 1 (([9] : List UInt8).map byteV) := by rw [hr4]; exact src_row (cs := ([9] : List UInt8).map byteV) (heap_alloc_new (mk4) _) (by simp) (by decide)
     obtain ⟨A4, c4, s4, hap, ho, hb2, hk2⟩ := add_keep r4 67 (Z3).heap.size 14 14 1 1 (some ⟨(Z3).heap.size, 0, none⟩) ⟨(mk4).heap.size, 0, none⟩ (List.replicate 14 (0 : UInt8)) [9] (by simp) rfl (hmo.below q2) q3 (by decide) (Nat.le_trans hmb.size q2.size)
     have hap2 : (Builtin.append_ #[67, 67] 67 #[.slice (some ⟨(Z3).heap.size, 0, none⟩) 14 14, .slice (some ⟨(mk4).heap.size, 0, none⟩) 1 1]).run Tryz.prog r4 = .ok (.slice A4 15 c4) s4 := hap
     have HOW4 := Aside0.mk ho
     have HKP4 := Aside0.mk hk2
     have HBQ4 := Aside0.mk q2
     have HBR4 := Aside0.mk hb2
     have HBT4 := Aside0.mk ((below_step HMB4.out q2).trans (hb2.mono HBZ3.out.size))
     have HLD4 := Aside0.mk ((below_step hmb q2).trans hb2)
     clear hmk hmo hmb q2 q3 hap ho hb2 hk2
     go_wp2_with (at_builtin; rw [← hr4]; refine wpList_valueW (by rfl) _ _ (runs_append 67 (.tmp 398) (.tmp 399) _ rfl _ (.slice (some ⟨(Z3).heap.size, 0, none⟩) 14 14) (.slice (some ⟨mk4.heap.size, 0, none⟩) 1 1) _ rfl rfl hap2) ?_)
     clear hmk2 hr4 hap2
     refine (parse_err (List.replicate 14 (0 : UInt8) ++ [9]) 15 (by simp) A4 c4 s4 (HOW4.out.src) (by simp) (HX.out.below HBT4.out) 4 (by decide) parse_dev).mono ?_
     rintro e z4 ⟨⟨pv4, rfl, hp5, hp1⟩, hb⟩
     have st := Aside0.mk (fun (c : Array Value) (hc : c.size = 5) => run_storeNew Tryz.prog z4 43 5 size43 c pv4 hc hp5 (by simpa using hp1))
     obtain ⟨Z4, hZ⟩ : ∃ Z4, Z4 = z4.alloc (.cells pv4 43) := ⟨_, rfl⟩
     have hbz : Below z4.heap.size z4 Z4 := by rw [hZ]; exact (Below.refl _ _).alloc (Nat.le_refl _) _
     have HBL4 := Aside0.mk (below_step hb hbz)
     have HBZ4 := Aside0.mk (below_step HBT4.out HBL4.out)
     clear hp5 hp1 hb hbz
     go_upto_region 35 with ((with_reducible refine at_store 43 (.tmp 28) (.tmp 402) ?_); refine wpList_storeK rfl 43 (.tmp 28) (.tmp 402) rfl rfl _ _ rfl rfl _ (st.out _ rfl) ?_)
     rw [← hZ]
     clear hZ st
     obtain ⟨mk5, hmk, hmo, hmb⟩ := made_bytes Z4 15 (by decide)
     have hmk2 : (Instr.makeSlice 67 (.int .i64 15) (.int .i64 15)).run Tryz.prog Z4 = .ok (.slice (some ⟨(Z4).heap.size, 0, none⟩) 15 15) mk5 := hmk
     have HMB5 := Aside0.mk (below_step HBZ4.out hmb)
     obtain ⟨r5, hr5⟩ : ∃ W', W' = (mk5).alloc (.cells #[.int .u8 65] 5) := ⟨_, rfl⟩
     have q2 : Below (mk5).heap.size mk5 r5 := by rw [hr5]; exact (Below.refl _ _).alloc (Nat.le_refl _) _
     have q3 : SrcAt r5 (some ⟨(mk5).heap.size, 0, none⟩) 1 1 (([65] : List UInt8).map byteV) := by rw [hr5]; exact src_row (cs := ([65] : List UInt8).map byteV) (heap_alloc_new (mk5) _) (by simp) (by decide)
     obtain ⟨A5, c5, s5, hap, ho, hb2, hk2⟩ := add_keep r5 67 (Z4).heap.size 15 15 1 1 (some ⟨(Z4).heap.size, 0, none⟩) ⟨(mk5).heap.size, 0, none⟩ (List.replicate 15 (0 : UInt8)) [65] (by simp) rfl (hmo.below q2) q3 (by decide) (Nat.le_trans hmb.size q2.size)
     have hap2 : (Builtin.append_ #[67, 67] 67 #[.slice (some ⟨(Z4).heap.size, 0, none⟩) 15 15, .slice (some ⟨(mk5).heap.size, 0, none⟩) 1 1]).run Tryz.prog r5 = .ok (.slice A5 16 c5) s5 := hap
     have HOW5 := Aside0.mk ho
     have HKP5 := Aside0.mk hk2
     have HBQ5 := Aside0.mk q2
     have HBR5 := Aside0.mk hb2
     have HBT5 := Aside0.mk ((below_step HMB5.out q2).trans (hb2.mono HBZ4.out.size))
     have HLD5 := Aside0.mk ((below_step hmb q2).trans hb2)
     clear hmk hmo hmb q2 q3 hap ho hb2 hk2
     go_wp2_with (at_builtin; rw [← hr5]; refine wpList_valueW (by rfl) _ _ (runs_append 67 (.tmp 405) (.tmp 406) _ rfl _ (.slice (some ⟨(Z4).heap.size, 0, none⟩) 15 15) (.slice (some ⟨mk5.heap.size, 0, none⟩) 1 1) _ rfl rfl hap2) ?_)
     clear hmk2 hr5 hap2
     refine (parse_err (List.replicate 15 (0 : UInt8) ++ [65]) 16 (by simp) A5 c5 s5 (HOW5.out.src) (by simp) (HX.out.below HBT5.out) 4 (by decide) parse_spent).mono ?_
     rintro e z5 ⟨⟨pv5, rfl, hp5, hp1⟩, hb⟩
     have st := Aside0.mk (fun (c : Array Value) (hc : c.size = 5) => run_storeNew Tryz.prog z5 43 5 size43 c pv5 hc hp5 (by simpa using hp1))
     obtain ⟨Z5, hZ⟩ : ∃ Z5, Z5 = z5.alloc (.cells pv5 43) := ⟨_, rfl⟩
     have hbz : Below z5.heap.size z5 Z5 := by rw [hZ]; exact (Below.refl _ _).alloc (Nat.le_refl _) _
     have HBL5 := Aside0.mk (below_step hb hbz)
     have HBZ5 := Aside0.mk (below_step HBT5.out HBL5.out)
     clear hp5 hp1 hb hbz
     go_upto_region 36 with ((with_reducible refine at_store 43 (.tmp 30) (.tmp 409) ?_); refine wpList_storeK rfl 43 (.tmp 30) (.tmp 409) rfl rfl _ _ rfl rfl _ (st.out _ rfl) ?_)
     rw [← hZ]
     clear hZ st
     obtain ⟨mk6, hmk, hmo, hmb⟩ := made_bytes Z5 16 (by decide)
     have hmk2 : (Instr.makeSlice 67 (.int .i64 16) (.int .i64 16)).run Tryz.prog Z5 = .ok (.slice (some ⟨(Z5).heap.size, 0, none⟩) 16 16) mk6 := hmk
     have HMB6 := Aside0.mk (below_step HBZ5.out hmb)
     obtain ⟨r6, hr6⟩ : ∃ W', W' = (mk6).alloc (.cells #[.int .u8 4, .int .u8 1] 5) := ⟨_, rfl⟩
     have q2 : Below (mk6).heap.size mk6 r6 := by rw [hr6]; exact (Below.refl _ _).alloc (Nat.le_refl _) _
     have q3 : SrcAt r6 (some ⟨(mk6).heap.size, 0, none⟩) 2 1 (([4, 1] : List UInt8).map byteV) := by rw [hr6]; exact src_row (cs := ([4, 1] : List UInt8).map byteV) (heap_alloc_new (mk6) _) (by simp) (by decide)
     obtain ⟨A6, c6, s6, hap, ho, hb2, hk2⟩ := add_keep r6 67 (Z5).heap.size 16 16 2 2 (some ⟨(Z5).heap.size, 0, none⟩) ⟨(mk6).heap.size, 0, none⟩ (List.replicate 16 (0 : UInt8)) [4, 1] (by simp) rfl (hmo.below q2) q3 (by decide) (Nat.le_trans hmb.size q2.size)
     have hap2 : (Builtin.append_ #[67, 67] 67 #[.slice (some ⟨(Z5).heap.size, 0, none⟩) 16 16, .slice (some ⟨(mk6).heap.size, 0, none⟩) 2 2]).run Tryz.prog r6 = .ok (.slice A6 18 c6) s6 := hap
     have HOW6 := Aside0.mk ho
     have HKP6 := Aside0.mk hk2
     have HBQ6 := Aside0.mk q2
     have HBR6 := Aside0.mk hb2
     have HBT6 := Aside0.mk ((below_step HMB6.out q2).trans (hb2.mono HBZ5.out.size))
     have HLD6 := Aside0.mk ((below_step hmb q2).trans hb2)
     clear hmk hmo hmb q2 q3 hap ho hb2 hk2
     go_wp2_with (at_builtin; rw [← hr6]; refine wpList_valueW (by rfl) _ _ (runs_append 67 (.tmp 412) (.tmp 413) _ rfl _ (.slice (some ⟨(Z5).heap.size, 0, none⟩) 16 16) (.slice (some ⟨mk6.heap.size, 0, none⟩) 2 2) _ rfl rfl hap2) ?_)
     clear hmk2 hr6 hap2
     refine (parse_err (List.replicate 16 (0 : UInt8) ++ [4, 1]) 18 (by simp) A6 c6 s6 (HOW6.out.src) (by simp) (HX.out.below HBT6.out) 5 (by decide) parse_text).mono ?_
     rintro e z6 ⟨⟨pv6, rfl, hp5, hp1⟩, hb⟩
     have st := Aside0.mk (fun (c : Array Value) (hc : c.size = 5) => run_storeNew Tryz.prog z6 43 5 size43 c pv6 hc hp5 (by simpa using hp1))
     obtain ⟨Z6, hZ⟩ : ∃ Z6, Z6 = z6.alloc (.cells pv6 43) := ⟨_, rfl⟩
     have hbz : Below z6.heap.size z6 Z6 := by rw [hZ]; exact (Below.refl _ _).alloc (Nat.le_refl _) _
     have HBL6 := Aside0.mk (below_step hb hbz)
     have HBZ6 := Aside0.mk (below_step HBT6.out HBL6.out)
     clear hp5 hp1 hb hbz
     go_upto_region 37 with ((with_reducible refine at_store 43 (.tmp 32) (.tmp 416) ?_); refine wpList_storeK rfl 43 (.tmp 32) (.tmp 416) rfl rfl _ _ rfl rfl _ (st.out _ rfl) ?_)
     rw [← hZ]
     clear hZ st
     have HSE := Aside0.mk (((((HKP2.out.grown HBL2.out).grown HBL3.out).grown (below_step HLD4.out HBL4.out)).grown (below_step HLD5.out HBL5.out)).grown (below_step HLD6.out HBL6.out))
     obtain ⟨mk7, hmk, hmo, hmb⟩ := made_bytes Z6 18 (by decide)
     have hmk2 : (Instr.makeSlice 67 (.int .i64 18) (.int .i64 18)).run Tryz.prog Z6 = .ok (.slice (some ⟨Z6.heap.size, 0, none⟩) 18 18) mk7 := hmk
     have HEQ := Aside0.mk (eqb_same (List.replicate 18 (0 : UInt8)) 18 (by simp) A0 c0 (some ⟨Z6.heap.size, 0, none⟩) 18 mk7 (HSE.out.grown hmb) hmo.src (by simp))
     have HB7 := Aside0.mk (below_step HBZ6.out hmb)
     clear hmk hmo hmb
     go_wp2_with fail
     refine HEQ.out.mono ?_
     rintro e z7 ⟨rfl, hb⟩
     have HB8 := Aside0.mk (below_step HB7.out hb)
     clear hb hmk2 HSE HEQ HB7 HO HOW2 HOW4 HOW5 HOW6 HKP2 HBL2 HBL3 HBL4 HBL5 HBL6 HLD4 HLD5 HLD6
     go_upto_region 40 with fail
     obtain ⟨ZB, hZB⟩ : ∃ ZB : Array Value, ZB = (.bool false :: bookCells book0 none 0 none 0).toArray := ⟨_, rfl⟩
     have H83 := Aside0.mk (fun (W : World) => show (Instr.build 83 #[]).run Tryz.prog W = .ok (.agg ZB) W by rw [hZB]; exact build83z W)
     have HZB := Aside0.mk hZB
     clear hZB
     have HBN := Aside0.mk (fun (W : World) => show Calls Tryz.prog 17 #[.pointer none] W fun e w' => e = .returned (.agg BZ) ∧ Below W.heap.size W w' by rw [HBZE.out]; exact book_nil W)
     have HBA := Aside0.mk (fun (W : World) (A1 : Option Addr) (c1 : Nat) (A2 : Option Addr) (c2 : Nat) => show Calls Tryz.prog 20 #[.agg (bookCells book0 A1 c1 A2 c2).toArray, .agg BZ] W fun e w' => e = .returned (.bool true) ∧ Below W.heap.size W w' by rw [HBZE.out]; exact same_eq book0 A1 c1 A2 c2 none 0 none 0 W (src_zany W A1 A2) (src_zany W none none))
     have HBS2 := Aside0.mk (fun (W : World) => show Calls Tryz.prog 20 #[.agg BZ, .agg BZ] W fun e w' => e = .returned (.bool true) ∧ Below W.heap.size W w' by rw [HBZE.out]; exact same_eq book0 none 0 none 0 none 0 none 0 W (src_zany W none none) (src_zany W none none))
     have hne := neqR3 0 0
     have hgd := fun op a b w => guardR op a b 0 0 0 0 w
     go_loopg [35, 36] 2 (fun kx s35 s36 wr => ∃ kk : Nat, s36 = .int .i64 kk ∧ kk + kx = 2 ∧ Aside0 (Below w.heap.size w wr) ∧ Aside0 (NoneAt kk s35 wr))
     case atStart => exact ⟨0, rfl, by omega, ⟨HB8.out⟩, ⟨.inl ⟨rfl, rfl⟩⟩⟩
     case round =>
      obtain ⟨kk, rfl, hkk, HW, HN⟩ := hrel
      by_cases hlt : kk < 2
      ·have hltz : (kk : Int) < 2 := by omega
       obtain ⟨ko, rfl⟩ : ∃ ko, gk = ko + 1 := ⟨gk - 1, by omega⟩
       have HKK := Aside0.mk (And.intro hkk hlt)
       clear hkk
       rcases HN.out with ⟨rfl, rfl⟩ | ⟨hk1, pn, rfl, hpn⟩
       ·clear HN
        go_wp2_with fail
        refine (adv_law 1 _).mono ?_
        rintro e y1 ⟨rfl, hb1⟩
        have H1 := Aside0.mk (below_step HW.out hb1)
        clear hb1
        go_wp2_with fail
        refine (apply_nil ⟨5, 0, key0, 0, [], 1⟩ y1).mono ?_
        rintro e y2 ⟨rfl, hb2⟩
        have H2 := Aside0.mk (below_step (below_step H1.out hb2) ((Below.refl _ y2).alloc (Nat.le_refl _) (.cells #[.int .i64 0, .int .i64 0] 30)))
        clear hb2
        go_wp2_with ((with_reducible refine at_build 43 #[] ?_); refine wpList_valueW (by rfl) (.agg BZ) _ (exec_build 43 _ _ rfl _ #[] (by simp) _ (HBZ.out _)) ?_)
        refine (HBN.out _).mono ?_
        rintro e y3 ⟨rfl, hb3⟩
        have H3 := Aside0.mk (below_step H2.out hb3)
        clear hb3
        go_wp2_with ((with_reducible refine at_build 43 #[] ?_); refine wpList_valueW (by rfl) (.agg BZ) _ (exec_build 43 _ _ rfl _ #[] (by simp) _ (HBZ.out _)) ?_)
        refine (HBS2.out _).mono ?_
        rintro e y4 ⟨rfl, hb4⟩
        have H4 := Aside0.mk (below_step H3.out hb4)
        clear hb4
        go_wp2_with ((with_reducible refine at_build 83 #[] ?_); refine wpList_build0 rfl 83 rfl _ _ (H83.out _) ?_)
        go_roundg ko
        case measure => have := HKK.out; omega
        case rel => exact ⟨1, by go_num, by have := HKK.out; omega, ⟨below_step H4.out ((Below.refl _ y4).alloc (Nat.le_refl _) _)⟩, ⟨.inr ⟨by decide, _, rfl, by rw [← HZB.out]; exact heap_alloc_new y4 _⟩⟩⟩
       ·have HPN := Aside0.mk hpn
        have hk1' : kk = 1 := by omega
        subst hk1'
        clear HN hpn hk1
        go_wp2_with fail
        refine (adv_law 1 _).mono ?_
        rintro e y1 ⟨rfl, hb1⟩
        have H1 := Aside0.mk (below_step HW.out hb1)
        have HP1 := Aside0.mk (keep_blk HPN.out hb1)
        clear hb1
        go_wp2_with fail
        refine (apply_off pn ⟨5, 0, key0, 0, [], 1⟩ y1 (by rw [cell_of_heap HP1.out]; rfl)).mono ?_
        rintro e y2 ⟨rfl, hb2⟩
        have H2 := Aside0.mk (below_step (below_step H1.out hb2) ((Below.refl _ y2).alloc (Nat.le_refl _) (.cells #[.int .i64 0, .int .i64 0] 30)))
        have HP2 := Aside0.mk (keep_blk (keep_blk HP1.out hb2) ((Below.refl _ y2).alloc (Nat.le_refl _) (.cells #[.int .i64 0, .int .i64 0] 30)))
        clear hb2
        go_wp2_with ((with_reducible refine at_build 43 #[] ?_); refine wpList_valueW (by rfl) (.agg BZ) _ (exec_build 43 _ _ rfl _ #[] (by simp) _ (HBZ.out _)) ?_)
        refine (book_none pn _ HP2.out).mono ?_
        rintro e y3 ⟨⟨v, rfl, A1, c1, A2, c2, rfl, -⟩, hb3⟩
        have H3 := Aside0.mk (below_step H2.out hb3)
        clear hb3
        go_wp2_with ((with_reducible refine at_build 43 #[] ?_); refine wpList_valueW (by rfl) (.agg BZ) _ (exec_build 43 _ _ rfl _ #[] (by simp) _ (HBZ.out _)) ?_)
        refine (HBA.out _ A1 c1 A2 c2).mono ?_
        rintro e y4 ⟨rfl, hb4⟩
        have H4 := Aside0.mk (below_step H3.out hb4)
        clear hb4
        go_wp2_with ((with_reducible refine at_build 83 #[] ?_); refine wpList_build0 rfl 83 rfl _ _ (H83.out _) ?_)
        go_roundg ko
        case measure => have := HKK.out; omega
        case rel => exact ⟨2, by go_num, by have := HKK.out; omega, ⟨below_step H4.out ((Below.refl _ y4).alloc (Nat.le_refl _) _)⟩, ⟨.inr ⟨by decide, _, rfl, by rw [← HZB.out]; exact heap_alloc_new y4 _⟩⟩⟩
      ·have hltz : ¬ (kk : Int) < 2 := by omega
       clear hkk
       go_wp2_with fail
       refine (works_any _ (HX.out.below HW.out)).mono ?_
       rintro e y1 ⟨rfl, hb1⟩
       have H1 := Aside0.mk (below_step HW.out hb1)
       clear hb1
       go_wp2_with fail
       go_ret
       exact ⟨rfl, H1.out⟩
end Go.Proofs.YthnpiimiimiijaaGreatDoor.Dir
end
section
namespace Go.Proofs.YthnpiimiimiijaaGreatDoor.PA
open Go.ChangeShapes Go.WideShapes Go.ChangeAt Go.RowKit Go.Deep
open Go.Proofs.YthnpiimiimiijaaGreatDoorW.PrintWords Go.Proofs.YthnpiimiimiijaaGreatDoorW.PrintLast Go.Proofs.YthnpiimiimiijaaGreatDoorW.PrintMore
set_option linter.unusedVariables false
set_option maxRecDepth 100000
instance : Inhabited Dir.AskV := ⟨⟨0, 0, 0, 0⟩⟩
theorem own : ownKnob Tryz.prog.godebug = none := by kernel_rfl
section
variable {H : Type} {enc : TypeId × Value → H} {W : World} {base : Nat} {sp : Nat → Bool} {held : Bool}
end
theorem iface_of_trod {W : World} {base fuel : Nat} {sp : Nat → Bool} {t : TypeId} {ms : Array (String × TypeId)} {cs : List Value} {nm : String} {d : DataW Unit} {p : List MemPlace} (ht : Tryz.prog.underlying t = some (.interface ms))
  (h : DataW.trod (fun _ => ()) Tryz.prog W base sp false fuel t cs = some (.iface nm d, p)) : ∃ tp v, cs = [.iface tp v] := by
 cases fuel with
 | zero => simp [DataW.trod] at h
 | succ n =>
  unfold DataW.trod at h
  rw [ht] at h
  split at h <;> simp_all
theorem laidW_of {W : World} (hs : W.ShapedOpen Tryz.prog) (h : laidMetH Tryz.prog Rows.directLaterRow.laid W) : LaidW W := by
 rw [MakeChecks.laidMetH_plain _ _ _ (by kernel_rfl)] at h
 obtain ⟨ps, ⟨_, _, _, _, _, _, _, _, _, _, ⟨_, _, _, _, _, _, _, _, _, _, ⟨g3, t3, cs3, fu3, p3, q3, hg3, ht3, hv3, hd3, ⟨_, _, _, _, _, _, _, _, _, _, ⟨g5, t5, cs5, fu5, p5, q5, hg5, ht5, hv5, hd5, ⟨g6, t6, cs6, fu6, p6, q6, hg6, ht6, hv6, hd6, _⟩, _⟩, _⟩, _⟩, _⟩, _⟩, _, _⟩ := h
 have ty : ∀ (nm : String) (T g t : Nat), ((Tryz.prog.globalNamed nm).bind fun g => (Tryz.prog.globals[g]?).map (·.type)) = some T → Tryz.prog.globalNamed nm = some g → (Tryz.prog.globals[g]?).map (·.type) = some t → t = T := by
  intro nm T g t h1 h2 h3
  rw [h2, Option.bind_some, h3] at h1
  exact Option.some.inj h1
 obtain rfl := ty _ 261 _ _ (by kernel_rfl) hg3 ht3
 obtain rfl := ty _ 224 _ _ (by kernel_rfl) hg5 ht5
 obtain rfl := ty _ 224 _ _ (by kernel_rfl) hg6 ht6
 refine ⟨hs, ?_, ?_, ?_⟩
 ·have e : Rows.laid_internal_strconv_uint64pow10 = Lib.tabData (H := Unit) .u64 Lib.pow10Tab := by kernel_rfl
  rw [e] at hd3
  have := Lib.cells_of_tab Tryz.underlying261 (e := 183) (by kernel_rfl) (by kernel_rfl) (by kernel_rfl) hd3
  rw [hv3, ← this]
 ·obtain ⟨tp, v, e⟩ := iface_of_trod Tryz.underlying224 hd6
  refine ⟨tp, v, ?_⟩
  rw [hv6]
  congr 1
  rw [← e]
 ·obtain ⟨tp, v, e⟩ := iface_of_trod Tryz.underlying224 hd5
  refine ⟨tp, v, ?_⟩
  rw [hv5]
  congr 1
  rw [← e]
theorem returnsInHanded_both {H : Type} {enc : TypeId × Value → H} {a : Assume} {C : Checked} {os : Os} {f : FuncId} {fn : Func} {s : ChangeSpec} {conds : List PathCond} {apart fresh handsOn again : Bool} {X : World → Array Value → Prop}
  (hX : ∀ (w w' : World) (args : Array Value), w.heap = w'.heap → X w args → X w' args)
  (own : ownKnob C.prog.godebug = none) (started : os.Started) (noInit : C.prog.inits.idxOf? f = none) (hfn : C.prog.funcs[f]? = some fn)
  (witness : ∃ (w : World) (tape : Tape) (i : Input), w.os = os ∧ (w.forCall tape i).Shaped C.prog ∧ i.vars = [] ∧ Input.okWide C.prog (w.forCall tape i) .any w.heap.size f i ∧
   ((s.pre enc C.prog fn conds apart (w.forCall tape i).memory i.args ∧ X (w.forCall tape i).memory i.args) ∧ sizedMet enc C.prog fn (OpenSpec.ofChange s) apart (w.forCall tape i).memory i.args) ∧ a.holds C.prog (lone (Frame.enter C.prog f i.args .normal) [] (w.forCall tape i)))
  (contract : ∀ (W : World) (base : Nat) (args : Array Value) (ds gs : List (DataW H)) (before : List MemPlace),
   (∀ (j : Nat) t v, fn.params[j]? = some t → args[j]? = some v → Value.okWide C.prog W .any base t v) →
   DataW.Whole enc C.prog fn.params.toList s.vars apart W args.toList ds gs before →
   (DataW.weightsEach C.prog (fn.params.toList ++ s.plain.varTypes C.prog) (ds ++ gs)).all (· ≤ reachBytes) = true → X W args →
   W.ShapedOpen C.prog →
   Calls C.prog f args W fun e W' => ∃ v, e = .returned v ∧ s.post enc C.prog fn apart fresh handsOn again W args v W') :
  ReturnsInHanded a C os f .any (fun w args => (s.pre enc C.prog fn conds apart w args ∧ X w args) ∧ sizedMet enc C.prog fn (OpenSpec.ofChange s) apart w args) (s.post enc C.prog fn apart fresh handsOn again) := by
 refine returnsInHanded_of_calls own started noInit witness ?_
 intro w tape i _ hsh _ hok hpre hholds
 obtain ⟨_, _, _, fn', hfn', _, _, _, _, hval⟩ := hok
 have e : fn' = fn := Option.some.inj (hfn'.symm.trans hfn)
 subst e
 obtain ⟨⟨⟨ds, gs, before, hw, hc⟩, hx⟩, hz⟩ := hpre
 have hw' := DataW.Whole.of_heap (w' := w.forCall tape i) (by rfl) hw
 refine (contract (w.forCall tape i) w.heap.size i.args ds gs before hval hw' (hz.weights hw) (hX _ _ _ (by rfl) hx) hsh).mono fun e W' ⟨v, he, hp⟩ => ?_
 subst he
 exact ChangeSpec.post_blind hp
end Go.Proofs.YthnpiimiimiijaaGreatDoor.PA
end
