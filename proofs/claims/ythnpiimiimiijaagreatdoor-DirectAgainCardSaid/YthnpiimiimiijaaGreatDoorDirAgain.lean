/- DirectAgain: the same ops make the same book; one that is loaded goes on as the one it was taken of. -/
import Derived.Test.YthnpiimiimiijaaGreatDoorDirLoad
namespace Go.Proofs.YthnpiimiimiijaaGreatDoor.Dir
open Go Go.RowKit Go.Proofs Go.Proofs.YthnpiimiimiijaaGreatDoorW.PrintWords Go.Proofs.YthnpiimiimiijaaGreatDoorW.PrintLast Go.Proofs.YthnpiimiimiijaaGreatDoorW.PrintMore
set_option linter.unusedVariables false
set_option linter.unusedSimpArgs false

theorem neqR (e v : Int) (w : World) : (binOp .neq 30 (.agg #[.int .i64 e, .int .i64 v]) (.agg #[.int .i64 e, .int .i64 v])).run Tryz.prog w = .ok (.bool false) w := by
  have u3 := Tryz.underlying3
  have u28 := Tryz.underlying28
  have a3 := Tryz.isAgg3
  have a28 := Tryz.isAgg28
  have z3 := Tryz.sizeOf3
  have z28 := Tryz.sizeOf28
  have hS : Tryz.prog.underlying 30 = some (.struct (Tryz.prog.fieldsOf 30)) := by kernel_rfl
  have hp : Tryz.prog.stoodInHeld 30 = false := by kernel_rfl
  rw [run_neq_struct, show (10000 : Nat) = 9999 + 1 from rfl, run_equalIn_agg w 9999 30 _ _ hS hp]
  simp only [Program.fieldsOf, Tryz.underlying30]
  go_simp
set_option maxHeartbeats 8000000 in
set_option maxRecDepth 100000 in
theorem again_law (A0 : Option Addr) (c0 : Nat) (l : List AskV) (at_ : Int) (w : World) (hr : Kd.C k38 w A0 l.length l) (hl : (l.length : Int) ≤ 9223372036854775807) (hx : PA.LaidW w) :
    Calls Tryz.prog 8 #[.slice A0 l.length c0, .int .i64 at_] w fun e w' => e = .returned (.bool true) ∧ Below w.heap.size w w' := by
  have HR := Aside0.mk hr
  have HX := Aside0.mk hx
  have HL := Aside0.mk hl
  clear hr hx hl
  go_enter Tryz.func8, Tryz.ntmps8
  go_wp2_with fail
  refine (works_any w HX.out).mono ?_
  rintro e w1 ⟨rfl, hb1⟩
  have HB1 := Aside0.mk hb1
  clear hb1
  go_wp2_with fail
  refine (new_dir w1).mono ?_
  rintro e w2 ⟨rfl, ha, hb⟩
  obtain ⟨p, hp⟩ : ∃ p, p = w1.heap.size := ⟨_, rfl⟩
  rw [← hp] at ha ⊢
  have HS0 : Aside0 (DirSt w1 w2 p book0) := ⟨⟨ha, hb, by omega, book0_wf, HX.out.below HB1.out⟩⟩
  clear ha hb hp
  go_wp2_with fail
  refine (new_dir w2).mono ?_
  rintro e w3 ⟨rfl, ha, hb⟩
  obtain ⟨q, hq⟩ : ∃ q, q = w2.heap.size := ⟨_, rfl⟩
  rw [← hq] at ha ⊢
  have HS : Aside0 (DirSt w1 w3 p book0 ∧ DirSt w1 w3 q book0 ∧ q ≠ p) := ⟨⟨HS0.out.later hb, ⟨ha, below_step HS0.out.fr hb, by rw [hq]; exact HS0.out.fr.size, book0_wf, HX.out.below HB1.out⟩, by rw [hq]; exact (Nat.ne_of_lt HS0.out.at_.lt).symm⟩⟩
  clear ha hb hq HS0
  go_wp2_with fail
  refine (bring_any at_ 101 (by omega) (by omega) w3).mono ?_
  rintro e w3' ⟨rfl, hw⟩
  obtain rfl := hw.symm
  clear hw
  obtain ⟨rr, hrr⟩ : ∃ rr, rr = at_ % 101 := ⟨_, rfl⟩
  rw [← hrr]
  clear hrr
  go_wp2
  go_loopg [6, 7] 101 (fun kx s6 s7 wr => ∃ (i : Nat) (B : Book) (q : Nat), s6 = .pointer (some ⟨q, 0, none⟩) ∧ s7 = .int .i64 i ∧ i + kx = 101 ∧ Aside0 (i ≤ l.length ∧ i ≤ 100) ∧ Aside0 (DirSt w1 wr p B ∧ DirSt w1 wr q B ∧ q ≠ p ∧ rulesOf B.acl = 0))
  case atStart => exact ⟨0, book0, q, rfl, rfl, by omega, ⟨by omega⟩, ⟨HS.out.1, HS.out.2.1, HS.out.2.2, rules_none⟩⟩
  case round =>
    obtain ⟨i, B, q, rfl, rfl, hik, HI, HD⟩ := hrel
    have hll := HL.out
    have hi2 := HI.out
    by_cases hlt : i < l.length ∧ i < 100
    · have HLT := Aside0.mk hlt
      obtain ⟨ko, rfl⟩ : ∃ ko, gk = ko + 1 := ⟨gk - 1, by omega⟩
      have HIK := Aside0.mk hik
      have d1 : ((i : Int) < (l.length : Int)) = True := eq_true (by omega)
      have d2 : ((i : Int) < 100) = True := eq_true (by omega)
      have d3 : decide ((i : Int) < (l.length : Int)) = true := decide_eq_true (by omega)
      have d4 : decide ((i : Int) < 100) = true := decide_eq_true (by omega)
      have HACL := Aside0.mk HD.out.2.2.2
      by_cases hat : (i : Int) = rr
      · subst hat
        have HQ0 := Aside0.mk HD.out.2.1
        go_wp2_with fail
        refine (book_st w1 wr q B HD.out.2.1).mono ?_
        rintro e u1 ⟨⟨A1, c1, A2, c2, rfl, hL⟩, hs, hb⟩
        have HL1 := Aside0.mk hL
        have HS1 := Aside0.mk hs
        have HP1 := Aside0.mk (HD.out.1.later hb)
        clear hL hs hb
        go_wp2_with fail
        refine (load_any B A1 c1 A2 c2 u1 (SrcB.of_lists HL1.out HS1.out.wf.few) (bare_own HL1.out.1) HS1.out.laidW).mono ?_
        rintro e u2 ⟨hle, hb⟩
        rcases hle with ⟨q', rfl, hok, hdir, hq'⟩ | ⟨-, hno⟩
        rotate_left
        · exact absurd (ok_of HS1.out.wf HACL.out) hno
        have HP := Aside0.mk (HP1.out.later hb)
        have HQ : Aside0 (DirSt w1 u2 q' B) := ⟨⟨hdir, below_step HS1.out.fr hb, Nat.le_trans HS1.out.fr.size hq', HS1.out.wf, HS1.out.laid⟩⟩
        have HNE : Aside0 (q' ≠ p) := ⟨by have := HP1.out.at_.lt; omega⟩
        clear hok hdir hq' hb
        go_upto_region 13 with fail
        obtain ⟨ad, rfl, q0, q1, q2, q3⟩ := ask_later HR.out (below_step HB1.out HP.out.fr) i HLT.out.1
        generalize haa9 : rd_T38 l (i : Int) = aa at q0 q1 q2 q3
        obtain ⟨x0, x1, x2, x3⟩ := aa
        have HAA := Aside0.mk haa9
        clear haa9
        simp only at q0 q1 q2 q3
        have HO := Aside0.mk (op_any x0 x1 x2 x3 u2)
        go_wp2_with fail
        refine HO.out.mono ?_
        rintro e y1 ⟨rfl, hb3⟩
        have HP1 := Aside0.mk (HP.out.later hb3)
        have HQ1 := Aside0.mk (HQ.out.later hb3)
        clear hb3 q0 q1 q2 q3
        go_wp2_with fail
        refine (apply_st w1 y1 p B (askOp ⟨x0, x1, x2, x3⟩) HP1.out (askOp_in _)).mono ?_
        rintro e y2 ⟨rfl, hs4, hgr⟩
        have HP2 := Aside0.mk hs4
        have HQ2 := Aside0.mk (HQ1.out.beside HP1.out HNE.out hgr)
        have HAP := Aside0.mk (apply_st w1)
        have HACL2 := Aside0.mk (apply_acl rulesOf (askOp ⟨x0, x1, x2, x3⟩) HACL.out)
        obtain ⟨o, ho⟩ : ∃ o, o = askOp ⟨x0, x1, x2, x3⟩ := ⟨_, rfl⟩
        obtain ⟨B2, hB2⟩ : ∃ B2, B2 = applyOf rulesOf B o := ⟨_, rfl⟩
        obtain ⟨er, her⟩ : ∃ er, er = errOf rulesOf B o := ⟨_, rfl⟩
        have HOIN := Aside0.mk (show OpIn o by rw [ho]; exact askOp_in _)
        rw [← ho] at HP2 HACL2 ⊢
        rw [← hB2] at HP2 HACL2 ⊢
        rw [← her]
        have HOO := Aside0.mk (And.intro ho (And.intro hB2 her))
        clear hs4 hgr ho hB2 her HP1 HQ1
        go_upto_region 14 with fail
        obtain ⟨y3, hy3⟩ : ∃ y3, y3 = y2.alloc (.cells #[.int .i64 er, .int .i64 B2.ver] 30) := ⟨_, rfl⟩
        obtain ⟨rs, hrs⟩ : ∃ rs, rs = y2.heap.size := ⟨_, rfl⟩
        have hb9 : Below y2.heap.size y2 y3 := by rw [hy3]; exact (Below.refl _ y2).alloc (Nat.le_refl _) _
        have HRS := Aside0.mk (show y3.heap[rs]? = some (.cells #[.int .i64 er, .int .i64 B2.ver] 30 (0, 0)) by rw [hy3, hrs]; exact heap_alloc_new y2 _)
        have HP3 := Aside0.mk (HP2.out.later hb9)
        have HQ3 := Aside0.mk (HQ2.out.later hb9)
        rw [← hy3, ← hrs]
        clear hy3 hrs hb9 HP2 HQ2
        obtain ⟨ad', had, q0, q1, q2, q3⟩ := ask_later HR.out (below_step HB1.out HP3.out.fr) i HLT.out.1
        cases had
        have hagn : askOp (rd_T38 l (i : Int)) = o := by
          rw [HOO.out.1]
          exact congrArg askOp HAA.out
        generalize hrd : rd_T38 l (i : Int) = aa at q0 q1 q2 q3 hagn
        obtain ⟨z0, z1, z2, z3⟩ := aa
        simp only at q0 q1 q2 q3
        have HO2 := Aside0.mk (op_any z0 z1 z2 z3 y3)
        rw [hagn] at HO2
        clear hagn hrd
        go_wp2_with fail
        refine HO2.out.mono ?_
        rintro e y4 ⟨rfl, hb3⟩
        have HP4 := Aside0.mk (HP3.out.later hb3)
        have HQ4 := Aside0.mk (HQ3.out.later hb3)
        have HRS4 := Aside0.mk ((hb3.block _ (Array.getElem?_eq_some_iff.1 HRS.out).1).trans HRS.out)
        clear hb3 q0 q1 q2 q3
        go_wp2_with fail
        refine (HAP.out y4 q' B o HQ4.out HOIN.out).mono ?_
        rintro e y5 ⟨rfl, hs4, hgr⟩
        rw [← HOO.out.2.1] at hs4 ⊢
        rw [← HOO.out.2.2]
        have HP5 := Aside0.mk (HP4.out.beside HQ4.out (Ne.symm HNE.out) hgr)
        have HQ5 := Aside0.mk hs4
        have HRS5 := Aside0.mk (show y5.heap[rs]? = some (.cells #[.int .i64 er, .int .i64 B2.ver] 30 (0, 0)) from by
          obtain ⟨cs, fr, hq⟩ := HQ4.out.at_.block
          exact (hgr.block _ (Array.getElem?_eq_some_iff.1 HRS4.out).1 (fun e => block_ne HRS4.out hq (by decide) (Option.some.inj e))).trans HRS4.out)
        clear hs4 hgr
        go_upto_region 15 with fail
        obtain ⟨y6, hy6⟩ : ∃ y6, y6 = y5.alloc (.cells #[.int .i64 er, .int .i64 B2.ver] 30) := ⟨_, rfl⟩
        obtain ⟨ru, hru⟩ : ∃ ru, ru = y5.heap.size := ⟨_, rfl⟩
        have hb9 : Below y5.heap.size y5 y6 := by rw [hy6]; exact (Below.refl _ y5).alloc (Nat.le_refl _) _
        have hr2 : y6.heap[ru]? = some (.cells #[.int .i64 er, .int .i64 B2.ver] 30 (0, 0)) := by rw [hy6, hru]; exact heap_alloc_new y5 _
        have hr1 : y6.heap[rs]? = some (.cells #[.int .i64 er, .int .i64 B2.ver] 30 (0, 0)) := (hb9.block _ (Array.getElem?_eq_some_iff.1 HRS5.out).1).trans HRS5.out
        have a0 : y6.cell? ⟨rs, 0, none⟩ = some (.int .i64 er) := by rw [cell_of_heap hr1]; rfl
        have a1 : y6.cell? ⟨rs, 1, none⟩ = some (.int .i64 B2.ver) := by rw [cell_of_heap hr1]; rfl
        have a2 : y6.cell? ⟨ru, 0, none⟩ = some (.int .i64 er) := by rw [cell_of_heap hr2]; rfl
        have a3 : y6.cell? ⟨ru, 1, none⟩ = some (.int .i64 B2.ver) := by rw [cell_of_heap hr2]; rfl
        have HP6 := Aside0.mk (HP5.out.later hb9)
        have HQ6 := Aside0.mk (HQ5.out.later hb9)
        have hne := neqR er B2.ver
        have hgd := fun op a b w => guardR op a b er B2.ver er B2.ver w
        rw [← hy6, ← hru]
        clear hy6 hru hb9 hr1 hr2 HP5 HQ5
        go_wp2_with fail
        go_roundg ko
        case measure => have := HIK.out; omega
        case rel => exact ⟨i + 1, B2, q', rfl, by go_num, by have := HIK.out; omega, ⟨by have := HLT.out; omega⟩, ⟨HP6.out, HQ6.out, HNE.out, HACL2.out⟩⟩
      · have hat2 : ((i : Int) == rr) = false := beq_eq_false_iff_ne.2 hat
        have HP := Aside0.mk HD.out.1
        have HQ := Aside0.mk HD.out.2.1
        have HNE := Aside0.mk HD.out.2.2.1
        go_upto_region 13 with fail
        obtain ⟨ad, rfl, q0, q1, q2, q3⟩ := ask_later HR.out (below_step HB1.out HP.out.fr) i HLT.out.1
        generalize haa9 : rd_T38 l (i : Int) = aa at q0 q1 q2 q3
        obtain ⟨x0, x1, x2, x3⟩ := aa
        have HAA := Aside0.mk haa9
        clear haa9
        simp only at q0 q1 q2 q3
        have HO := Aside0.mk (op_any x0 x1 x2 x3 wr)
        go_wp2_with fail
        refine HO.out.mono ?_
        rintro e y1 ⟨rfl, hb3⟩
        have HP1 := Aside0.mk (HP.out.later hb3)
        have HQ1 := Aside0.mk (HQ.out.later hb3)
        clear hb3 q0 q1 q2 q3
        go_wp2_with fail
        refine (apply_st w1 y1 p B (askOp ⟨x0, x1, x2, x3⟩) HP1.out (askOp_in _)).mono ?_
        rintro e y2 ⟨rfl, hs4, hgr⟩
        have HP2 := Aside0.mk hs4
        have HQ2 := Aside0.mk (HQ1.out.beside HP1.out HNE.out hgr)
        have HAP := Aside0.mk (apply_st w1)
        have HACL2 := Aside0.mk (apply_acl rulesOf (askOp ⟨x0, x1, x2, x3⟩) HACL.out)
        obtain ⟨o, ho⟩ : ∃ o, o = askOp ⟨x0, x1, x2, x3⟩ := ⟨_, rfl⟩
        obtain ⟨B2, hB2⟩ : ∃ B2, B2 = applyOf rulesOf B o := ⟨_, rfl⟩
        obtain ⟨er, her⟩ : ∃ er, er = errOf rulesOf B o := ⟨_, rfl⟩
        have HOIN := Aside0.mk (show OpIn o by rw [ho]; exact askOp_in _)
        rw [← ho] at HP2 HACL2 ⊢
        rw [← hB2] at HP2 HACL2 ⊢
        rw [← her]
        have HOO := Aside0.mk (And.intro ho (And.intro hB2 her))
        clear hs4 hgr ho hB2 her HP1 HQ1
        go_upto_region 14 with fail
        obtain ⟨y3, hy3⟩ : ∃ y3, y3 = y2.alloc (.cells #[.int .i64 er, .int .i64 B2.ver] 30) := ⟨_, rfl⟩
        obtain ⟨rs, hrs⟩ : ∃ rs, rs = y2.heap.size := ⟨_, rfl⟩
        have hb9 : Below y2.heap.size y2 y3 := by rw [hy3]; exact (Below.refl _ y2).alloc (Nat.le_refl _) _
        have HRS := Aside0.mk (show y3.heap[rs]? = some (.cells #[.int .i64 er, .int .i64 B2.ver] 30 (0, 0)) by rw [hy3, hrs]; exact heap_alloc_new y2 _)
        have HP3 := Aside0.mk (HP2.out.later hb9)
        have HQ3 := Aside0.mk (HQ2.out.later hb9)
        rw [← hy3, ← hrs]
        clear hy3 hrs hb9 HP2 HQ2
        obtain ⟨ad', had, q0, q1, q2, q3⟩ := ask_later HR.out (below_step HB1.out HP3.out.fr) i HLT.out.1
        cases had
        have hagn : askOp (rd_T38 l (i : Int)) = o := by
          rw [HOO.out.1]
          exact congrArg askOp HAA.out
        generalize hrd : rd_T38 l (i : Int) = aa at q0 q1 q2 q3 hagn
        obtain ⟨z0, z1, z2, z3⟩ := aa
        simp only at q0 q1 q2 q3
        have HO2 := Aside0.mk (op_any z0 z1 z2 z3 y3)
        rw [hagn] at HO2
        clear hagn hrd
        go_wp2_with fail
        refine HO2.out.mono ?_
        rintro e y4 ⟨rfl, hb3⟩
        have HP4 := Aside0.mk (HP3.out.later hb3)
        have HQ4 := Aside0.mk (HQ3.out.later hb3)
        have HRS4 := Aside0.mk ((hb3.block _ (Array.getElem?_eq_some_iff.1 HRS.out).1).trans HRS.out)
        clear hb3 q0 q1 q2 q3
        go_wp2_with fail
        refine (HAP.out y4 q B o HQ4.out HOIN.out).mono ?_
        rintro e y5 ⟨rfl, hs4, hgr⟩
        rw [← HOO.out.2.1] at hs4 ⊢
        rw [← HOO.out.2.2]
        have HP5 := Aside0.mk (HP4.out.beside HQ4.out (Ne.symm HNE.out) hgr)
        have HQ5 := Aside0.mk hs4
        have HRS5 := Aside0.mk (show y5.heap[rs]? = some (.cells #[.int .i64 er, .int .i64 B2.ver] 30 (0, 0)) from by
          obtain ⟨cs, fr, hq⟩ := HQ4.out.at_.block
          exact (hgr.block _ (Array.getElem?_eq_some_iff.1 HRS4.out).1 (fun e => block_ne HRS4.out hq (by decide) (Option.some.inj e))).trans HRS4.out)
        clear hs4 hgr
        go_upto_region 15 with fail
        obtain ⟨y6, hy6⟩ : ∃ y6, y6 = y5.alloc (.cells #[.int .i64 er, .int .i64 B2.ver] 30) := ⟨_, rfl⟩
        obtain ⟨ru, hru⟩ : ∃ ru, ru = y5.heap.size := ⟨_, rfl⟩
        have hb9 : Below y5.heap.size y5 y6 := by rw [hy6]; exact (Below.refl _ y5).alloc (Nat.le_refl _) _
        have hr2 : y6.heap[ru]? = some (.cells #[.int .i64 er, .int .i64 B2.ver] 30 (0, 0)) := by rw [hy6, hru]; exact heap_alloc_new y5 _
        have hr1 : y6.heap[rs]? = some (.cells #[.int .i64 er, .int .i64 B2.ver] 30 (0, 0)) := (hb9.block _ (Array.getElem?_eq_some_iff.1 HRS5.out).1).trans HRS5.out
        have a0 : y6.cell? ⟨rs, 0, none⟩ = some (.int .i64 er) := by rw [cell_of_heap hr1]; rfl
        have a1 : y6.cell? ⟨rs, 1, none⟩ = some (.int .i64 B2.ver) := by rw [cell_of_heap hr1]; rfl
        have a2 : y6.cell? ⟨ru, 0, none⟩ = some (.int .i64 er) := by rw [cell_of_heap hr2]; rfl
        have a3 : y6.cell? ⟨ru, 1, none⟩ = some (.int .i64 B2.ver) := by rw [cell_of_heap hr2]; rfl
        have HP6 := Aside0.mk (HP5.out.later hb9)
        have HQ6 := Aside0.mk (HQ5.out.later hb9)
        have hne := neqR er B2.ver
        have hgd := fun op a b w => guardR op a b er B2.ver er B2.ver w
        rw [← hy6, ← hru]
        clear hy6 hru hb9 hr1 hr2 HP5 HQ5
        go_wp2_with fail
        go_roundg ko
        case measure => have := HIK.out; omega
        case rel => exact ⟨i + 1, B2, q, rfl, by go_num, by have := HIK.out; omega, ⟨by have := HLT.out; omega⟩, ⟨HP6.out, HQ6.out, HNE.out, HACL2.out⟩⟩
    · rcases (show l.length ≤ i ∨ (i < l.length ∧ 100 ≤ i) by omega) with hA | hA
      · have d3 : decide ((i : Int) < (l.length : Int)) = false := decide_eq_false (by omega)
        have d1 : ((i : Int) < (l.length : Int)) = False := eq_false (by omega)
        clear hlt hA
        go_wp2_with fail
        refine (book_st w1 wr p B HD.out.1).mono ?_
        rintro e x1 ⟨⟨A1, c1, A2, c2, rfl, hL⟩, -, hb⟩
        have HL1 := Aside0.mk hL
        have HQ1 := Aside0.mk (HD.out.2.1.later hb)
        clear hL hb
        go_wp2_with fail
        refine (book_st w1 x1 q B HQ1.out).mono ?_
        rintro e x2 ⟨⟨A3, c3, A4, c4, rfl, hL⟩, hs, hb⟩
        have HL2 := Aside0.mk (And.intro hL (HL1.out.below hb))
        have HS2 := Aside0.mk hs
        clear hL hs hb
        go_wp2_with fail
        refine (same_eq B A1 c1 A2 c2 A3 c3 A4 c4 x2 (SrcB.of_lists HL2.out.2 HS2.out.wf.few) (SrcB.of_lists HL2.out.1 HS2.out.wf.few)).mono ?_
        rintro e x3 ⟨rfl, hb⟩
        have HB3 := Aside0.mk (below_step HS2.out.fr hb)
        clear hb
        go_wp2_with fail
        go_ret
        exact ⟨rfl, below_step HB1.out HB3.out⟩
      · have d3 : decide ((i : Int) < (l.length : Int)) = true := decide_eq_true (by omega)
        have d4 : decide ((i : Int) < 100) = false := decide_eq_false (by omega)
        have d1 : ((i : Int) < (l.length : Int)) = True := eq_true (by omega)
        have d2 : ((i : Int) < 100) = False := eq_false (by omega)
        clear hlt hA
        go_wp2_with fail
        refine (book_st w1 wr p B HD.out.1).mono ?_
        rintro e x1 ⟨⟨A1, c1, A2, c2, rfl, hL⟩, -, hb⟩
        have HL1 := Aside0.mk hL
        have HQ1 := Aside0.mk (HD.out.2.1.later hb)
        clear hL hb
        go_wp2_with fail
        refine (book_st w1 x1 q B HQ1.out).mono ?_
        rintro e x2 ⟨⟨A3, c3, A4, c4, rfl, hL⟩, hs, hb⟩
        have HL2 := Aside0.mk (And.intro hL (HL1.out.below hb))
        have HS2 := Aside0.mk hs
        clear hL hs hb
        go_wp2_with fail
        refine (same_eq B A1 c1 A2 c2 A3 c3 A4 c4 x2 (SrcB.of_lists HL2.out.2 HS2.out.wf.few) (SrcB.of_lists HL2.out.1 HS2.out.wf.few)).mono ?_
        rintro e x3 ⟨rfl, hb⟩
        have HB3 := Aside0.mk (below_step HS2.out.fr hb)
        clear hb
        go_wp2_with fail
        go_ret
        exact ⟨rfl, below_step HB1.out HB3.out⟩
end Go.Proofs.YthnpiimiimiijaaGreatDoor.Dir
