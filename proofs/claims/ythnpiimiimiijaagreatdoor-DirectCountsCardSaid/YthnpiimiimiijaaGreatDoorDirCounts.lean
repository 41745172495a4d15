/- DirectCounts: the version is how many ops were accepted; what is refused changes nothing. -/
import Derived.Test.YthnpiimiimiijaaGreatDoorDirOk
import Derived.Test.YthnpiimiimiijaaGreatDoorDirArr
namespace Go.Proofs.YthnpiimiimiijaaGreatDoor.Dir
open Go Go.RowKit Go.Proofs Go.Proofs.YthnpiimiimiijaaGreatDoorW.PrintWords Go.Proofs.YthnpiimiimiijaaGreatDoorW.PrintLast Go.Proofs.YthnpiimiimiijaaGreatDoorW.PrintMore
set_option linter.unusedVariables false
set_option linter.unusedSimpArgs false

theorem field_ver (a b c d e : Value) (w : World) : (Instr.field 43 (.agg #[a, b, c, d, e]) 0).run Tryz.prog w = .ok a w := by
  simp [Instr.field, run_underlying Tryz.underlying43, part, Tryz.isAgg3, asAgg]
set_option maxHeartbeats 8000000 in
set_option maxRecDepth 100000 in
theorem counts_law (A0 : Option Addr) (c0 : Nat) (l : List AskV) (w : World) (hr : Kd.C k38 w A0 l.length l) (hl : (l.length : Int) ≤ 9223372036854775807) (hx : PA.LaidW w) :
    Calls Tryz.prog 6 #[.slice A0 l.length c0] w fun e w' => e = .returned (.bool true) ∧ Below w.heap.size w w' := by
  have HR := Aside0.mk hr
  have HX := Aside0.mk hx
  have HL := Aside0.mk hl
  clear hr hx hl
  go_enter Tryz.func6, Tryz.ntmps6
  go_wp2_with fail
  refine (works_any w HX.out).mono ?_
  rintro e w1 ⟨rfl, hb1⟩
  have HB1 := Aside0.mk hb1
  clear hb1
  go_wp2_with fail
  refine (new_dir w1).mono ?_
  rintro e w2 ⟨rfl, ha, hb⟩
  obtain ⟨p, hp⟩ : ∃ p, p = w1.heap.size := ⟨_, rfl⟩
  rw [← hp] at ha ⊢
  have HS : Aside0 (DirSt w1 w2 p book0) := ⟨⟨ha, hb, by omega, book0_wf, HX.out.below HB1.out⟩⟩
  clear ha hb hp
  go_wp2
  go_loopg [4, 5] 101 (fun kx s4 s5 wr => ∃ (i : Nat) (B : Book), s5 = .int .i64 i ∧ s4 = .int .i64 B.ver ∧ i + kx = 101 ∧ Aside0 (i ≤ l.length ∧ i ≤ 100) ∧ Aside0 (DirSt w1 wr p B ∧ rulesOf B.acl = 0))
  case atStart => exact ⟨0, book0, rfl, rfl, by omega, ⟨by omega⟩, ⟨HS.out, rules_none⟩⟩
  case round =>
    obtain ⟨i, B, rfl, rfl, hik, HI, HD⟩ := hrel
    have hll := HL.out
    have hi2 := HI.out
    by_cases hlt : i < l.length ∧ i < 100
    · have HLT := Aside0.mk hlt
      obtain ⟨ko, rfl⟩ : ∃ ko, gk = ko + 1 := ⟨gk - 1, by omega⟩
      have HIK := Aside0.mk hik
      have d1 : ((i : Int) < (l.length : Int)) = True := eq_true (by omega)
      have d2 : ((i : Int) < 100) = True := eq_true (by omega)
      have d3 : decide ((i : Int) < (l.length : Int)) = true := decide_eq_true (by omega)
      have d4 : decide ((i : Int) < 100) = true := decide_eq_true (by omega)
      have HWF := Aside0.mk HD.out.1.wf
      go_wp2_with fail
      refine (book_st w1 wr p B HD.out.1).mono ?_
      rintro e w5 ⟨⟨A1, c1, A2, c2, rfl, hL⟩, hs5, hb5⟩
      have st := Aside0.mk (run_storeNew Tryz.prog w5 43 5 size43 #[.int .i64 0, .int .i64 0, .slice none 0 0, .slice none 0 0, .string ⟨#[]⟩] (bookCells B A1 c1 A2 c2).toArray rfl rfl (by simpa using book_one B A1 A2 c1 c2))
      have HL5 := Aside0.mk (And.intro hL hs5)
      clear hL hs5 hb5 d3
      go_upto_region 9 with ((with_reducible refine at_store 43 (.tmp 6) (.tmp 23) ?_); refine wpList_storeK rfl 43 (.tmp 6) (.tmp 23) rfl rfl _ _ rfl rfl _ st.out ?_)
      obtain ⟨w6, hw6⟩ : ∃ w6, w6 = w5.alloc (.cells (bookCells B A1 c1 A2 c2).toArray 43) := ⟨_, rfl⟩
      obtain ⟨bk, hbk⟩ : ∃ bk, bk = w5.heap.size := ⟨_, rfl⟩
      have HD6 : Aside0 (BkSt w6 bk B A1 c1 A2 c2 ∧ DirSt w1 w6 p B) := ⟨by
        rw [hw6, hbk]
        have hb := (Below.refl _ w5).alloc (Nat.le_refl _) (.cells (bookCells B A1 c1 A2 c2).toArray 43)
        exact ⟨⟨heap_alloc_new w5 _, (HL5.out.1.lower (Nat.zero_le _)).below hb⟩, HL5.out.2.later hb⟩⟩
      rw [← hw6, ← hbk]
      clear hw6 hbk st HL5
      obtain ⟨ad, rfl, q0, q1, q2, q3⟩ := ask_later HR.out (below_step HB1.out HD6.out.2.fr) i hlt.1
      generalize rd_T38 l (i : Int) = aa at q0 q1 q2 q3
      obtain ⟨x0, x1, x2, x3⟩ := aa
      simp only at q0 q1 q2 q3
      have HO := Aside0.mk (op_any x0 x1 x2 x3 w6)
      go_wp2_with fail
      refine HO.out.mono ?_
      rintro e w7 ⟨rfl, hb3⟩
      have HD7 := Aside0.mk (And.intro (HD6.out.1.later hb3) (HD6.out.2.later hb3))
      clear hb3 q0 q1 q2 q3
      go_wp2_with fail
      refine (apply_st w1 w7 p B (askOp ⟨x0, x1, x2, x3⟩) HD7.out.2 (askOp_in _)).mono ?_
      rintro e w8 ⟨rfl, hs4, hgr⟩
      have HAV := Aside0.mk (apply_ver rulesOf B (askOp ⟨x0, x1, x2, x3⟩))
      have HAR := Aside0.mk (apply_refused rulesOf B (askOp ⟨x0, x1, x2, x3⟩))
      have HACL := Aside0.mk (apply_acl rulesOf (askOp ⟨x0, x1, x2, x3⟩) HD.out.2)
      have HD8 := Aside0.mk (And.intro hs4 (show BkSt w8 bk B A1 c1 A2 c2 by
        obtain ⟨cs, fr, hq⟩ := HD7.out.2.at_.block
        exact HD7.out.1.other hq (by decide) (by decide) (by decide) hgr))
      obtain ⟨B2, hB2⟩ : ∃ B2, B2 = applyOf rulesOf B (askOp ⟨x0, x1, x2, x3⟩) := ⟨_, rfl⟩
      obtain ⟨er, her⟩ : ∃ er, er = errOf rulesOf B (askOp ⟨x0, x1, x2, x3⟩) := ⟨_, rfl⟩
      rw [← hB2] at HAV HAR HACL HD8 ⊢
      rw [← her] at HAV HAR ⊢
      clear hs4 hgr hB2 her HD7 HD6
      go_upto_region 10 with fail
      obtain ⟨w9, hw9⟩ : ∃ w9, w9 = w8.alloc (.cells #[.int .i64 er, .int .i64 B2.ver] 30) := ⟨_, rfl⟩
      obtain ⟨rs, hrs⟩ : ∃ rs, rs = w8.heap.size := ⟨_, rfl⟩
      have hb9 : Below w8.heap.size w8 w9 := by rw [hw9]; exact (Below.refl _ w8).alloc (Nat.le_refl _) _
      have HRS := Aside0.mk (show w9.heap[rs]? = some (.cells #[.int .i64 er, .int .i64 B2.ver] 30 (0, 0)) by rw [hw9, hrs]; exact heap_alloc_new w8 _)
      have HX9 := Aside0.mk (HD8.out.1.later hb9)
      have HBK9 := Aside0.mk (HD8.out.2.later hb9)
      rw [← hw9, ← hrs]
      clear hw9 hrs hb9 HD8
      have er0 : w9.cell? ⟨rs, 0, none⟩ = some (.int .i64 er) := by rw [cell_of_heap HRS.out]; rfl
      have er1 : w9.cell? ⟨rs, 1, none⟩ = some (.int .i64 B2.ver) := by rw [cell_of_heap HRS.out]; rfl
      by_cases hz : er = 0
      · subst hz
        have hv2 : B2.ver = B.ver + 1 := by have := HAV.out; rwa [if_pos rfl] at this
        have hvb : 0 ≤ B.ver ∧ B.ver ≤ 9007199254740991 := HWF.out.ver
        have hw64 : wrap64 (B.ver + 1) = B2.ver := by rw [hv2]; exact IntWalk.wrap64_in _ ⟨by omega, by omega⟩
        have hw65 : IntKind.i64.wrap (B.ver + 1) = B2.ver := by rw [IntWalk.i64_left]; exact hw64
        have HX := HX9
        clear HWF
        have HVV := Aside0.mk hv2
        clear hv2 hvb
        have hfl := field_ver
        go_wp2_with fail
        refine (book_st w1 w9 p B2 HX.out).mono ?_
        rintro e x1 ⟨⟨A5, c5, A6, c6, rfl, -⟩, hs, hb⟩
        have HX1 := Aside0.mk hs
        rw [show (bookCells B2 A5 c5 A6 c6).toArray = #[.int .i64 B2.ver, .int .i64 B2.clock, .slice A5 B2.devs.length c5, .slice A6 B2.spent.length c6, .string (str B2.acl)] from rfl]
        clear hs hb
        go_wp2_with fail
        refine (book_st w1 x1 p B2 HX1.out).mono ?_
        rintro e x2 ⟨⟨A7, c7, A8, c8, rfl, hL⟩, hs, hb⟩
        have HX2 := Aside0.mk hs
        have HL2 := Aside0.mk hL
        clear hs hb hL
        go_wp2_with fail
        refine (check_any B2 A7 c7 A8 c8 x2 HL2.out.src.1 HL2.out.src.2 (by have := HX2.out.wf.few.1; omega) (by have := HX2.out.wf.few.2; omega) (bare_own HL2.out.1) HX2.out.laidW).mono ?_
        rintro e x3 ⟨hce, hb⟩
        have HX3 := Aside0.mk (HX2.out.later hb)
        clear hb
        rcases hce with ⟨rfl, -⟩ | ⟨-, hno⟩
        rotate_left
        · exact absurd (ok_of HX2.out.wf HACL.out) hno
        go_wp2_with fail
        go_roundg ko
        case measure => have := HIK.out; omega
        case rel => exact ⟨i + 1, B2, by go_num, rfl, by have := HIK.out; omega, ⟨by have := HLT.out; omega⟩, ⟨HX3.out, HACL.out⟩⟩
      · have hz2 : (er == 0) = false := beq_eq_false_iff_ne.2 hz
        have hBB : B2 = B := HAR.out hz
        subst hBB
        have HD9 := HX9
        have LB := Aside0.mk (fun W (hb : Below w9.heap.size w9 W) => run_loadAtK Tryz.prog W 43 5 Tryz.isAgg43 Tryz.sizeOf43 bk 0 (bookCells B2 A1 c1 A2 c2) rfl (cells_of_heap (HBK9.out.later hb).at_))
        clear hz
        go_upto_region 14 with fail
        clear er0 er1
        refine start_ (n := 5) (S := fun W => Below w9.heap.size w9 W) (ds := []) #[false, false, false, false, false] (by kernel_rfl) rfl rfl (Below.refl _ w9).drew (fun hHeld => ?_)
        generalize World.drew _ = v5 at hHeld ⊢
        refine pure_ (i := 1) (N := (some 42)) (v := ?_) (a' := ?_) #[false, true, false, false, false] rfl rfl (by kernel_rfl) (fun _ _ _ h => h) (Or.inl ⟨by rfl, ?_⟩) ?_ ?_
        rotate_left
        · intro w'
          go_simp
          with_reducible rfl
        rotate_left
        · simp only [Act.put, List.setIfInBounds_toArray, List.set_cons_zero, List.set_cons_succ, i64_w, i32_w]
          rfl
        refine take_ (i := 0) (N := (some 41)) (v := _) (a' := ?_) #[true, true, false, false, false] rfl rfl (by kernel_rfl) (fun _ _ _ h => h) (Or.inl ⟨by rfl, fun w' hs => yields_load 43 (.tmp 6) _ rfl _ _ rfl _ (LB.out w' hs)⟩) hHeld ?_ ?_
        rotate_left
        · simp only [Act.put, List.setIfInBounds_toArray, List.set_cons_zero, List.set_cons_succ, i64_w, i32_w]
          rfl
        refine one_ (i := 2) (N := (some 43)) #[true, true, true, false, false] rfl rfl (by kernel_rfl) (by decide) (fun K hK => ?_)
        refine goes_ Tryz.func17 (by kernel_rfl) rfl #[.pointer (some ⟨p, 0, none⟩)] (by rfl) rfl rfl (by (try simp only [List.map_toArray, List.map_cons, List.map_nil]); first | done | rfl) ?_
        refine (book_st w1 _ p B2 (HD9.out.later hHeld)).mono ?_
        rintro e v5c ⟨⟨A3, c3, A4, c4, rfl, hL⟩, -, hb⟩
        refine ⟨_, rfl, ?_⟩
        have hS_ := below_step hHeld hb
        have HLB := Aside0.mk (And.intro hL (And.intro hHeld hb))
        clear hb hL
        refine hK.out _ _ hS_ (fun hHeld => ?_)
        clear hK K
        refine norm_ (a' := ?_) ?_ ?_
        rotate_left
        · show Act.put _ (some 43) _ = _
          simp only [Act.put, List.setIfInBounds_toArray, List.set_cons_zero, List.set_cons_succ, i64_w, i32_w]
          rfl
        refine one_ (i := 3) (N := (some 44)) #[true, true, true, true, false] rfl rfl (by kernel_rfl) (by decide) (fun K hK => ?_)
        refine goes_ Tryz.func20 (by kernel_rfl) rfl #[.agg (bookCells B2 A1 c1 A2 c2).toArray, .agg (bookCells B2 A3 c3 A4 c4).toArray] (by rfl) rfl rfl (by (try simp only [List.map_toArray, List.map_cons, List.map_nil]); first | done | rfl) ?_
        refine (same_eq B2 A1 c1 A2 c2 A3 c3 A4 c4 _ ((SrcB.of_lists HBK9.out.lists HWF.out.few).later hHeld) (SrcB.of_lists HLB.out.1 HWF.out.few)).mono ?_
        rintro e v5c ⟨rfl, hb⟩
        refine ⟨_, rfl, ?_⟩
        have hS_ := below_step hHeld hb
        clear hb
        refine hK.out _ _ hS_ (fun hHeld => ?_)
        clear hK K
        refine norm_ (a' := ?_) ?_ ?_
        rotate_left
        · show Act.put _ (some 44) _ = _
          simp only [Act.put, List.setIfInBounds_toArray, List.set_cons_zero, List.set_cons_succ, i64_w, i32_w]
          rfl
        refine pure_ (i := 4) (N := (some 45)) (v := ?_) (a' := ?_) #[true, true, true, true, true] rfl rfl (by kernel_rfl) (fun _ _ _ h => h) (Or.inl ⟨by rfl, ?_⟩) ?_ ?_
        rotate_left
        · intro w'
          go_simp
          with_reducible rfl
        rotate_left
        · simp only [Act.put, List.setIfInBounds_toArray, List.set_cons_zero, List.set_cons_succ, i64_w, i32_w]
          rfl
        refine done_ (by kernel_rfl) ?_
        have HB14 := Aside0.mk hHeld
        clear hHeld
        have er1 : v5c.cell? ⟨rs, 1, none⟩ = some (.int .i64 B2.ver) := by rw [cell_of_heap ((HB14.out.block _ (Array.getElem?_eq_some_iff.1 HRS.out).1).trans HRS.out)]; rfl
        have HX := Aside0.mk (HX9.out.later HB14.out)
        have hfl := field_ver
        go_wp2_with fail
        refine (book_st w1 v5c p B2 HX.out).mono ?_
        rintro e x1 ⟨⟨A5, c5, A6, c6, rfl, -⟩, hs, hb⟩
        have HX1 := Aside0.mk hs
        rw [show (bookCells B2 A5 c5 A6 c6).toArray = #[.int .i64 B2.ver, .int .i64 B2.clock, .slice A5 B2.devs.length c5, .slice A6 B2.spent.length c6, .string (str B2.acl)] from rfl]
        clear hs hb
        go_wp2_with fail
        refine (book_st w1 x1 p B2 HX1.out).mono ?_
        rintro e x2 ⟨⟨A7, c7, A8, c8, rfl, hL⟩, hs, hb⟩
        have HX2 := Aside0.mk hs
        have HL2 := Aside0.mk hL
        clear hs hb hL
        go_wp2_with fail
        refine (check_any B2 A7 c7 A8 c8 x2 HL2.out.src.1 HL2.out.src.2 (by have := HX2.out.wf.few.1; omega) (by have := HX2.out.wf.few.2; omega) (bare_own HL2.out.1) HX2.out.laidW).mono ?_
        rintro e x3 ⟨hce, hb⟩
        have HX3 := Aside0.mk (HX2.out.later hb)
        clear hb
        rcases hce with ⟨rfl, -⟩ | ⟨-, hno⟩
        rotate_left
        · exact absurd (ok_of HX2.out.wf HACL.out) hno
        go_wp2_with fail
        go_roundg ko
        case measure => have := HIK.out; omega
        case rel => exact ⟨i + 1, B2, by go_num, rfl, by have := HIK.out; omega, ⟨by have := HLT.out; omega⟩, ⟨HX3.out, HACL.out⟩⟩
    · rcases (show l.length ≤ i ∨ (i < l.length ∧ 100 ≤ i) by omega) with hA | hA
      · have d3 : decide ((i : Int) < (l.length : Int)) = false := decide_eq_false (by omega)
        have d1 : ((i : Int) < (l.length : Int)) = False := eq_false (by omega)
        clear hlt hA
        go_wp2_with fail
        go_ret
        exact ⟨rfl, below_step HB1.out HD.out.1.fr⟩
      · have d3 : decide ((i : Int) < (l.length : Int)) = true := decide_eq_true (by omega)
        have d4 : decide ((i : Int) < 100) = false := decide_eq_false (by omega)
        have d1 : ((i : Int) < (l.length : Int)) = True := eq_true (by omega)
        have d2 : ((i : Int) < 100) = False := eq_false (by omega)
        clear hlt hA
        go_wp2_with fail
        go_ret
        exact ⟨rfl, below_step HB1.out HD.out.1.fr⟩
end Go.Proofs.YthnpiimiimiijaaGreatDoor.Dir
