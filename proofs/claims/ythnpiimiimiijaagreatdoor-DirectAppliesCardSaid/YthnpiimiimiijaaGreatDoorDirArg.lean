/- works: the chapter's directory. -/
import Derived.Test.YthnpiimiimiijaaGreatDoorDirDoes
namespace Go.Proofs.YthnpiimiimiijaaGreatDoor.Dir
open Go Go.RowKit Go.Proofs Go.Proofs.YthnpiimiimiijaaGreatDoorW.PrintWords Go.Proofs.YthnpiimiimiijaaGreatDoorW.PrintLast Go.Proofs.YthnpiimiimiijaaGreatDoorW.PrintMore
set_option linter.unusedVariables false
set_option linter.unusedSimpArgs false
def wb0 : Book := book0
def wo0 : Op := regOp 1 1 50
def wb1 : Book := applyOf rulesOf wb0 wo0
theorem we0 : errOf rulesOf wb0 wo0 = 0 := by kernel_rfl
theorem wv0 : (applyOf rulesOf wb0 wo0).ver = 1 := by kernel_rfl
def wo1 : Op := regOp 1 9 50
def wb2 : Book := applyOf rulesOf wb1 wo1
theorem we1 : errOf rulesOf wb1 wo1 = 220 := by kernel_rfl
theorem wv1 : (applyOf rulesOf wb1 wo1).ver = 1 := by kernel_rfl
def wo2 : Op := regOp 2 1 50
def wb3 : Book := applyOf rulesOf wb2 wo2
theorem we2 : errOf rulesOf wb2 wo2 = 221 := by kernel_rfl
theorem wv2 : (applyOf rulesOf wb2 wo2).ver = 1 := by kernel_rfl
def wo3 : Op := regOp 2 2 0
def wb4 : Book := applyOf rulesOf wb3 wo3
theorem we3 : errOf rulesOf wb3 wo3 = 9 := by kernel_rfl
theorem wv3 : (applyOf rulesOf wb3 wo3).ver = 1 := by kernel_rfl
theorem wc4 : decide (validOf wb4 (keyN 1) 49 = some 1) = true := by kernel_rfl
theorem wc5 : decide (validOf wb4 (keyN 1) 50 = some 1) = false := by kernel_rfl
def wo6 : Op := rotOp 1 3 60
def wb5 : Book := applyOf rulesOf wb4 wo6
theorem we6 : errOf rulesOf wb4 wo6 = 0 := by kernel_rfl
theorem wv6 : (applyOf rulesOf wb4 wo6).ver = 2 := by kernel_rfl
def wo7 : Op := regOp 2 1 9
def wb6 : Book := applyOf rulesOf wb5 wo7
theorem we7 : errOf rulesOf wb5 wo7 = 221 := by kernel_rfl
theorem wv7 : (applyOf rulesOf wb5 wo7).ver = 2 := by kernel_rfl
theorem wc8 : decide (validOf wb6 (keyN 1) 0 = some 1) = false := by kernel_rfl
theorem wc9 : decide (validOf wb6 (keyN 3) 0 = some 1) = true := by kernel_rfl
def wo10 : Op := revOp 1
def wb7 : Book := applyOf rulesOf wb6 wo10
theorem we10 : errOf rulesOf wb6 wo10 = 0 := by kernel_rfl
theorem wv10 : (applyOf rulesOf wb6 wo10).ver = 3 := by kernel_rfl
def wo11 : Op := rotOp 1 4 70
def wb8 : Book := applyOf rulesOf wb7 wo11
theorem we11 : errOf rulesOf wb7 wo11 = 222 := by kernel_rfl
theorem wv11 : (applyOf rulesOf wb7 wo11).ver = 3 := by kernel_rfl
theorem wc12 : decide (validOf wb8 (keyN 3) 0 = some 1) = false := by kernel_rfl
def wo13 : Op := regOp 1 4 70
def wb9 : Book := applyOf rulesOf wb8 wo13
theorem we13 : errOf rulesOf wb8 wo13 = 0 := by kernel_rfl
theorem wv13 : (applyOf rulesOf wb8 wo13).ver = 4 := by kernel_rfl
theorem wc14 : decide (validOf wb9 (keyN 4) 69 = some 1) = true := by kernel_rfl
def wo15 : Op := advOp 70
def wb10 : Book := applyOf rulesOf wb9 wo15
theorem we15 : errOf rulesOf wb9 wo15 = 0 := by kernel_rfl
theorem wv15 : (applyOf rulesOf wb9 wo15).ver = 5 := by kernel_rfl
theorem wc16 : decide (validOf wb10 (keyN 4) 0 = some 1) = false := by kernel_rfl
theorem field_spent (a b c d e : Value) (w : World) : (Instr.field 43 (.agg #[a, b, c, d, e]) 3).run Tryz.prog w = .ok d w := by
 simp [Instr.field, run_underlying Tryz.underlying43, part, Tryz.isAgg41, asAgg]
theorem ws : wb10.spent.length = 2 := by kernel_rfl
set_option maxHeartbeats 8000000 in
set_option maxRecDepth 100000 in
theorem works_any (w : World) (hx : PA.LaidW w) : Calls Tryz.prog 13 #[] w fun e w' => e = .returned (.bool true) ∧ Below w.heap.size w w' := by
 have HX := Aside0.mk hx
 clear hx
 go_enter Tryz.func13, Tryz.ntmps13
 go_wp2_with fail
 refine (new_dir w).mono ?_
 rintro e w0 ⟨rfl, ha, hb⟩
 obtain ⟨p, hp⟩ : ∃ p, p = w.heap.size := ⟨_, rfl⟩
 rw [← hp] at ha ⊢
 have HS : Aside0 (DirSt w w0 p wb0) := ⟨⟨ha, hb, by omega, book0_wf, HX.out⟩⟩
 clear ha hb hp
 go_wp2_with fail
 refine (reg_law 1 1 (by decide) 50 _).mono ?_
 rintro e w0a ⟨rfl, hb⟩
 replace HS := Aside0.mk (HS.out.later hb)
 clear hb
 go_wp2_with fail
 refine (does_st w w0a p wb0 wo0 0 1 HS.out (by unfold OpIn wo0 regOp; simp) we0 wv0).mono ?_
 rintro e w0 ⟨rfl, hs⟩
 replace HS := Aside0.mk (show DirSt w w0 p wb1 from hs)
 clear hs
 go_wp2_with fail
 refine (reg_law 1 9 (by decide) 50 _).mono ?_
 rintro e w1a ⟨rfl, hb⟩
 replace HS := Aside0.mk (HS.out.later hb)
 clear hb
 go_wp2_with fail
 refine (does_st w w1a p wb1 wo1 220 1 HS.out (by unfold OpIn wo1 regOp; simp) we1 wv1).mono ?_
 rintro e w1 ⟨rfl, hs⟩
 replace HS := Aside0.mk (show DirSt w w1 p wb2 from hs)
 clear hs
 go_wp2_with fail
 refine (reg_law 2 1 (by decide) 50 _).mono ?_
 rintro e w2a ⟨rfl, hb⟩
 replace HS := Aside0.mk (HS.out.later hb)
 clear hb
 go_wp2_with fail
 refine (does_st w w2a p wb2 wo2 221 1 HS.out (by unfold OpIn wo2 regOp; simp) we2 wv2).mono ?_
 rintro e w2 ⟨rfl, hs⟩
 replace HS := Aside0.mk (show DirSt w w2 p wb3 from hs)
 clear hs
 go_wp2_with fail
 refine (reg_law 2 2 (by decide) 0 _).mono ?_
 rintro e w3a ⟨rfl, hb⟩
 replace HS := Aside0.mk (HS.out.later hb)
 clear hb
 go_wp2_with fail
 refine (does_st w w3a p wb3 wo3 9 1 HS.out (by unfold OpIn wo3 regOp; simp) we3 wv3).mono ?_
 rintro e w3 ⟨rfl, hs⟩
 replace HS := Aside0.mk (show DirSt w w3 p wb4 from hs)
 clear hs
 go_wp2_with fail
 refine (counts_st w _ p wb4 1 (by decide) 49 1 HS.out true wc4).mono ?_
 rintro e w4 ⟨rfl, hs⟩
 replace HS := Aside0.mk hs
 clear hs
 go_wp2_with fail
 refine (counts_st w _ p wb4 1 (by decide) 50 1 HS.out false wc5).mono ?_
 rintro e w5 ⟨rfl, hs⟩
 replace HS := Aside0.mk hs
 clear hs
 go_wp2_with fail
 refine (rot_law 1 3 (by decide) 60 _).mono ?_
 rintro e w6a ⟨rfl, hb⟩
 replace HS := Aside0.mk (HS.out.later hb)
 clear hb
 go_wp2_with fail
 refine (does_st w w6a p wb4 wo6 0 2 HS.out (by unfold OpIn wo6 rotOp; simp) we6 wv6).mono ?_
 rintro e w6 ⟨rfl, hs⟩
 replace HS := Aside0.mk (show DirSt w w6 p wb5 from hs)
 clear hs
 go_wp2_with fail
 refine (reg_law 2 1 (by decide) 9 _).mono ?_
 rintro e w7a ⟨rfl, hb⟩
 replace HS := Aside0.mk (HS.out.later hb)
 clear hb
 go_wp2_with fail
 refine (does_st w w7a p wb5 wo7 221 2 HS.out (by unfold OpIn wo7 regOp; simp) we7 wv7).mono ?_
 rintro e w7 ⟨rfl, hs⟩
 replace HS := Aside0.mk (show DirSt w w7 p wb6 from hs)
 clear hs
 go_wp2_with fail
 refine (counts_st w _ p wb6 1 (by decide) 0 1 HS.out false wc8).mono ?_
 rintro e w8 ⟨rfl, hs⟩
 replace HS := Aside0.mk hs
 clear hs
 go_wp2_with fail
 refine (counts_st w _ p wb6 3 (by decide) 0 1 HS.out true wc9).mono ?_
 rintro e w9 ⟨rfl, hs⟩
 replace HS := Aside0.mk hs
 clear hs
 go_wp2_with fail
 refine (rev_law 1 _).mono ?_
 rintro e w10a ⟨rfl, hb⟩
 replace HS := Aside0.mk (HS.out.later hb)
 clear hb
 go_wp2_with fail
 refine (does_st w w10a p wb6 wo10 0 3 HS.out (by unfold OpIn wo10 revOp; simp) we10 wv10).mono ?_
 rintro e w10 ⟨rfl, hs⟩
 replace HS := Aside0.mk (show DirSt w w10 p wb7 from hs)
 clear hs
 go_wp2_with fail
 refine (rot_law 1 4 (by decide) 70 _).mono ?_
 rintro e w11a ⟨rfl, hb⟩
 replace HS := Aside0.mk (HS.out.later hb)
 clear hb
 go_wp2_with fail
 refine (does_st w w11a p wb7 wo11 222 3 HS.out (by unfold OpIn wo11 rotOp; simp) we11 wv11).mono ?_
 rintro e w11 ⟨rfl, hs⟩
 replace HS := Aside0.mk (show DirSt w w11 p wb8 from hs)
 clear hs
 go_wp2_with fail
 refine (counts_st w _ p wb8 3 (by decide) 0 1 HS.out false wc12).mono ?_
 rintro e w12 ⟨rfl, hs⟩
 replace HS := Aside0.mk hs
 clear hs
 go_wp2_with fail
 refine (reg_law 1 4 (by decide) 70 _).mono ?_
 rintro e w13a ⟨rfl, hb⟩
 replace HS := Aside0.mk (HS.out.later hb)
 clear hb
 go_wp2_with fail
 refine (does_st w w13a p wb8 wo13 0 4 HS.out (by unfold OpIn wo13 regOp; simp) we13 wv13).mono ?_
 rintro e w13 ⟨rfl, hs⟩
 replace HS := Aside0.mk (show DirSt w w13 p wb9 from hs)
 clear hs
 go_wp2_with fail
 refine (counts_st w _ p wb9 4 (by decide) 69 1 HS.out true wc14).mono ?_
 rintro e w14 ⟨rfl, hs⟩
 replace HS := Aside0.mk hs
 clear hs
 go_wp2_with fail
 refine (adv_law 70 _).mono ?_
 rintro e w15a ⟨rfl, hb⟩
 replace HS := Aside0.mk (HS.out.later hb)
 clear hb
 go_wp2_with fail
 refine (does_st w w15a p wb9 wo15 0 5 HS.out (by unfold OpIn wo15 advOp; simp) we15 wv15).mono ?_
 rintro e w15 ⟨rfl, hs⟩
 replace HS := Aside0.mk (show DirSt w w15 p wb10 from hs)
 clear hs
 go_wp2_with fail
 refine (counts_st w _ p wb10 4 (by decide) 0 1 HS.out false wc16).mono ?_
 rintro e w16 ⟨rfl, hs⟩
 replace HS := Aside0.mk hs
 clear hs
 go_wp2_with fail
 refine (book_st w _ p wb10 HS.out).mono ?_
 rintro e wz ⟨⟨A1, c1, A2, c2, rfl, hL⟩, hs, hb⟩
 replace HS := Aside0.mk hs
 clear hs hb hL
 have hl : ((wb10.spent.length : Int) == 2) = true := by rw [ws]; rfl
 unfold bookCells
 rw [ws]
 have hfl := fun a b c d w => field_spent a b c (.slice A2 2 c2) d w
 go_wp2_with fail
 go_ret
 exact ⟨rfl, HS.out.fr⟩
end Go.Proofs.YthnpiimiimiijaaGreatDoor.Dir
/- Rows of asks, as the walks read them. -/
namespace Go.Proofs.YthnpiimiimiijaaGreatDoor.Dir
open Go Go.RowKit Go.Proofs Go.Proofs.YthnpiimiimiijaaGreatDoorW.PrintWords Go.Proofs.YthnpiimiimiijaaGreatDoorW.PrintLast Go.Proofs.YthnpiimiimiijaaGreatDoorW.PrintMore
set_option linter.unusedVariables false
set_option linter.unusedSimpArgs false
end Go.Proofs.YthnpiimiimiijaaGreatDoor.Dir
