/- DirectSpends: the keys that are spent are those that devices had and have no more. -/
import Derived.Test.YthnpiimiimiijaaGreatDoorDirArr
namespace Go.Proofs.YthnpiimiimiijaaGreatDoor.Dir
open Go Go.RowKit Go.Proofs Go.Proofs.YthnpiimiimiijaaGreatDoorW.PrintWords Go.Proofs.YthnpiimiimiijaaGreatDoorW.PrintLast Go.Proofs.YthnpiimiimiijaaGreatDoorW.PrintMore
set_option linter.unusedVariables false
set_option linter.unusedSimpArgs false

set_option maxHeartbeats 8000000 in
set_option maxRecDepth 100000 in
theorem spends_law (A0 : Option Addr) (c0 : Nat) (l : List AskV) (w : World) (hr : Kd.C k38 w A0 l.length l) (hl : (l.length : Int) ≤ 9223372036854775807) (hx : PA.LaidW w) :
    Calls Tryz.prog 5 #[.slice A0 l.length c0] w fun e w' => e = .returned (.bool true) ∧ Below w.heap.size w w' := by
  have HR := Aside0.mk hr
  have HX := Aside0.mk hx
  have HL := Aside0.mk hl
  clear hr hx hl
  go_enter Tryz.func5, Tryz.ntmps5
  go_wp2_with fail
  refine (works_any w HX.out).mono ?_
  rintro e w1 ⟨rfl, hb1⟩
  have HB1 := Aside0.mk hb1
  clear hb1
  go_wp2_with fail
  refine (new_dir w1).mono ?_
  rintro e w2 ⟨rfl, ha, hb⟩
  obtain ⟨p, hp⟩ : ∃ p, p = w1.heap.size := ⟨_, rfl⟩
  rw [← hp] at ha ⊢
  have HS0 : Aside0 (DirSt w1 w2 p book0) := ⟨⟨ha, hb, by omega, book0_wf, HX.out.below HB1.out⟩⟩
  clear ha hb hp
  go_upto_region 5 with fail
  rw [row30_lit]
  obtain ⟨w3, hw3⟩ : ∃ w3, w3 = w2.alloc (.cells (row30 fun _ => .bool false).toArray 26) := ⟨_, rfl⟩
  obtain ⟨hd, hhd⟩ : ∃ hd, hd = w2.heap.size := ⟨_, rfl⟩
  have HS : Aside0 (DirSt w1 w3 p book0) := ⟨by rw [hw3]; exact HS0.out.later ((Below.refl _ w2).alloc (Nat.le_refl _) _)⟩
  have HA : Aside0 (Arr w3 hd 26 (fun _ => .bool false)) := ⟨⟨by rw [hw3, hhd]; exact heap_alloc_new w2 _⟩⟩
  have HN : Aside0 (w1.heap.size ≤ hd) := ⟨by rw [hhd]; exact HS0.out.fr.size⟩
  rw [show w2.alloc _ = w3 from hw3.symm, ← hhd]
  clear hw3 hhd HS0
  go_wp2
  go_loopg [5] 101 (fun kx s5 wr => ∃ (i : Nat) (B : Book), s5 = .int .i64 i ∧ i + kx = 101 ∧ Aside0 (i ≤ l.length ∧ i ≤ 100) ∧ Aside0 (DirSt w1 wr p B ∧ Named B ∧ Arr wr hd 26 (fun n => .bool (decide (keyN n ∈ takenB B)))))
  case atStart => exact ⟨0, book0, rfl, by omega, ⟨by omega⟩, ⟨HS.out, fun k hk => absurd hk (by simp [takenB, book0]), HA.out.congr fun n _ => by simp [takenB, book0]⟩⟩
  case round =>
    obtain ⟨i, B, rfl, hik, HI, HD⟩ := hrel
    have hll := HL.out
    have hi2 := HI.out
    by_cases hlt : i < l.length ∧ i < 100
    · have HLT := Aside0.mk hlt
      obtain ⟨ko, rfl⟩ : ∃ ko, gk = ko + 1 := ⟨gk - 1, by omega⟩
      have HIK := Aside0.mk hik
      have d1 : ((i : Int) < (l.length : Int)) = True := eq_true (by omega)
      have d2 : ((i : Int) < 100) = True := eq_true (by omega)
      have d3 : decide ((i : Int) < (l.length : Int)) = true := decide_eq_true (by omega)
      have d4 : decide ((i : Int) < 100) = true := decide_eq_true (by omega)
      obtain ⟨ad, rfl, q0, q1, q2, q3⟩ := ask_later HR.out (below_step HB1.out HD.out.1.fr) i hlt.1
      generalize rd_T38 l (i : Int) = aa at q0 q1 q2 q3
      obtain ⟨x0, x1, x2, x3⟩ := aa
      simp only at q0 q1 q2 q3
      have HO := Aside0.mk (op_any x0 x1 x2 x3 wr)
      go_wp2_with fail
      refine HO.out.mono ?_
      rintro e w4 ⟨rfl, hb3⟩
      have HD3 := Aside0.mk (And.intro (HD.out.1.later hb3) (HD.out.2.2.later hb3))
      clear hb3 q0 q1 q2 q3
      go_wp2_with fail
      refine (apply_st w1 w4 p B (askOp ⟨x0, x1, x2, x3⟩) HD3.out.1 (askOp_in _)).mono ?_
      rintro e w5 ⟨rfl, hs4, hgr⟩
      have HWB := Aside0.mk HD.out.1.wf
      have HNM := Aside0.mk (named_ask rulesOf HWB.out ⟨x0, x1, x2, x3⟩ HD.out.2.1)
      have HSO := Aside0.mk (fun n => spends_out rulesOf HWB.out (askOp ⟨x0, x1, x2, x3⟩) (keyN n))
      have HSH := Aside0.mk (fun n => spends_had rulesOf HWB.out (askOp ⟨x0, x1, x2, x3⟩) (keyN n))
      have HD4 := Aside0.mk (And.intro hs4 (HD3.out.2.grown hgr (by
        obtain ⟨cs, fr, hq⟩ := HD3.out.1.at_.block
        exact (block_ne hq HD3.out.2.at_ (by decide)).symm)))
      obtain ⟨B2, hB2⟩ : ∃ B2, B2 = applyOf rulesOf B (askOp ⟨x0, x1, x2, x3⟩) := ⟨_, rfl⟩
      rw [← hB2] at HNM HSO HSH HD4
      clear hs4 hgr hB2 HD3 HD
      go_wp2_with fail
      refine (book_st w1 w5 p B2 HD4.out.1).mono ?_
      rintro e w8 ⟨⟨A1, c1, A2, c2, rfl, hL⟩, hs8, hb8⟩
      have st := Aside0.mk (run_storeNew Tryz.prog w8 43 5 size43 #[.int .i64 0, .int .i64 0, .slice none 0 0, .slice none 0 0, .string ⟨#[]⟩] (bookCells B2 A1 c1 A2 c2).toArray rfl rfl (by simpa using book_one B2 A1 A2 c1 c2))
      have HL8 := Aside0.mk (show Lists w8 0 B2 A1 c1 A2 c2 ∧ DirSt w1 w8 p B2 ∧ Arr w8 hd 26 _ from ⟨hL.lower (Nat.zero_le _), hs8, HD4.out.2.later hb8⟩)
      clear hL hs8 hb8 d3 HD4
      go_upto_region 10 with ((with_reducible refine at_store 43 (.tmp 6) (.tmp 34) ?_); refine wpList_storeK rfl 43 (.tmp 6) (.tmp 34) rfl rfl _ _ rfl rfl _ st.out ?_)
      obtain ⟨w9, hw9⟩ : ∃ w9, w9 = w8.alloc (.cells (bookCells B2 A1 c1 A2 c2).toArray 43) := ⟨_, rfl⟩
      obtain ⟨bk, hbk⟩ : ∃ bk, bk = w8.heap.size := ⟨_, rfl⟩
      have HBK : Aside0 (BkSt w9 bk B2 A1 c1 A2 c2) := ⟨by
        rw [hw9, hbk]
        exact ⟨heap_alloc_new w8 _, HL8.out.1.below ((Below.refl _ w8).alloc (Nat.le_refl _) _)⟩⟩
      have HD9 : Aside0 (DirSt w1 w9 p B2 ∧ Arr w9 hd 26 (fun n => .bool (decide (keyN n ∈ takenB B)))) := ⟨by
        rw [hw9]
        exact ⟨HL8.out.2.1.later ((Below.refl _ w8).alloc (Nat.le_refl _) _), HL8.out.2.2.later ((Below.refl _ w8).alloc (Nat.le_refl _) _)⟩⟩
      rw [← hw9, ← hbk]
      clear hw9 hbk st HL8
      go_wp2
      go_loopg [7, 8] 30 (fun kx s7 s8 wr => ∃ kk : Nat, s7 = .int .i64 ((List.range kk).countP (fun n => decide (keyN n ∈ B2.spent)) : Nat) ∧ s8 = .int .i64 kk ∧ kk + kx = 30 ∧ Aside0 (DirSt w1 wr p B2 ∧ BkSt wr bk B2 A1 c1 A2 c2 ∧ Arr wr hd 26 (fun n => .bool (if n < kk then decide (keyN n ∈ takenB B2) else decide (keyN n ∈ takenB B)))))
      case atStart => exact ⟨0, rfl, rfl, rfl, ⟨HD9.out.1, HBK.out, HD9.out.2.congr fun n _ => by simp⟩⟩
      case round =>
        obtain ⟨kk, rfl, rfl, hkk, HQ⟩ := hrel
        obtain ⟨wB, rfl⟩ : ∃ x, x = wr := ⟨wr, rfl⟩
        have HK := Aside0.mk hkk
        have hsp : (List.range kk).countP (fun n => decide (keyN n ∈ B2.spent)) ≤ kk := by
          have := List.countP_le_length (p := fun n => decide (keyN n ∈ B2.spent)) (l := List.range kk)
          simpa using this
        have HSP := Aside0.mk hsp
        have HCN := Aside0.mk (count_next (fun n => decide (keyN n ∈ B2.spent)) kk)
        by_cases h30 : kk < 30
        · have d1 : decide ((kk : Int) < 30) = true := decide_eq_true (by omega)
          have H30 := Aside0.mk h30
          obtain ⟨kn, rfl⟩ : ∃ kn, gk = kn + 1 := ⟨gk - 1, by omega⟩
          generalize (List.range kk).countP (fun n => decide (keyN n ∈ B2.spent)) = sp at HSP HCN ⊢
          clear hsp h30
          have HKY : Aside0 (∀ W, Calls Tryz.prog 18 #[.int .i64 kk] W fun e w' => e = .returned (.agg (encK (keyN kk)).toArray) ∧ Below W.heap.size W w') := ⟨fun W => key_any kk (by have := H30.out; omega) W⟩
          obtain ⟨ky, hky⟩ : ∃ ky, ky = keyN kk := ⟨_, rfl⟩
          obtain ⟨KA, hKA⟩ : ∃ KA, KA = (encK ky).toArray := ⟨_, rfl⟩
          have HEQ : Aside0 (∀ x : Key, (∀ W, (binOp .eql 34 (.agg (encK x).toArray) (.agg KA)).run Tryz.prog W = .ok (.bool (decide (x = ky))) W) ∧ ∀ op a b W, (eqGuard op 34 a b (.agg (encK x).toArray) (.agg KA)).run Tryz.prog W = .ok () W) := ⟨fun x => by rw [hKA]; exact ⟨eqlK x ky, fun op a b W => guardK op a b x ky W⟩⟩
          rw [← hky, ← hKA] at HKY
          have HKN := Aside0.mk hky
          clear hky hKA
          go_upto_region 15 with fail
          go_wp2_with fail
          go_loopg [9, 10] B2.devs.length (fun kx s9 s10 wr => ∃ jj : Nat, s9 = .bool (hasUpto B2 ky jj) ∧ s10 = .int .i64 jj ∧ jj + kx = B2.devs.length ∧ Aside0 (Below wB.heap.size wB wr))
          case atStart => exact ⟨0, rfl, rfl, by omega, ⟨Below.refl _ _⟩⟩
          case round =>
            obtain ⟨jj, rfl, rfl, hjj, BW⟩ := hrel
            have hfew := HQ.out.1.wf.few.1
            by_cases hlt : jj < B2.devs.length
            · have k2 : wr.cell? ⟨bk, 2, none⟩ = some (.slice A1 B2.devs.length c1) := (HQ.out.2.1.later BW.out).cell2
              have hltz : (jj : Int) < (B2.devs.length : Int) := by omega
              obtain ⟨dv, hdv⟩ : ∃ dv, B2.devs[jj]? = some dv := ⟨_, List.getElem?_eq_getElem hlt⟩
              have HHU := Aside0.mk (hasUpto_next (k := ky) hdv)
              obtain ⟨g, rfl, hld⟩ := HQ.out.2.1.loadDK hdv
              obtain ⟨he, hgd⟩ := HEQ.out dv.key
              obtain ⟨YA, hYA⟩ : ∃ YA, YA = (encK dv.key).toArray := ⟨_, rfl⟩
              rw [← hYA] at hld he hgd
              have HLD := Aside0.mk hld
              clear hYA hld hdv
              go_wp2_with fail
              cases hhu : hasUpto B2 ky jj
              · rw [hhu] at HHU
                clear hhu
                refine start_ (n := 13) (S := fun W => Below wB.heap.size wB W) (ds := []) #[false, false, false, false, false, false, false, false, false, false, false, false, false] (by kernel_rfl) rfl rfl BW.out.drew (fun hHeld => ?_)
                generalize World.drew _ = w5 at hHeld ⊢
                refine pure_ (i := 0) (N := (some 46)) (v := ?_) (a' := ?_) #[true, false, false, false, false, false, false, false, false, false, false, false, false] rfl rfl (by kernel_rfl) (fun _ _ _ h => h) (Or.inl ⟨by rfl, ?_⟩) ?_ ?_
                rotate_left
                · intro w'
                  go_simp
                  with_reducible rfl
                rotate_left
                · simp only [Act.put, List.setIfInBounds_toArray, List.set_cons_zero, List.set_cons_succ, i64_w, i32_w]
                  rfl
                refine pure_ (i := 1) (N := (some 47)) (v := ?_) (a' := ?_) #[true, true, false, false, false, false, false, false, false, false, false, false, false] rfl rfl (by kernel_rfl) (fun _ _ _ h => h) (Or.inl ⟨by rfl, ?_⟩) ?_ ?_
                rotate_left
                · intro w'
                  go_simp
                  with_reducible rfl
                rotate_left
                · simp only [Act.put, List.setIfInBounds_toArray, List.set_cons_zero, List.set_cons_succ, i64_w, i32_w]
                  rfl
                refine pure_ (i := 2) (N := (some 48)) (v := ?_) (a' := ?_) #[true, true, true, false, false, false, false, false, false, false, false, false, false] rfl rfl (by kernel_rfl) (fun _ _ _ h => h) (Or.inl ⟨by rfl, ?_⟩) ?_ ?_
                rotate_left
                · intro w'
                  go_simp
                  with_reducible rfl
                rotate_left
                · simp only [Act.put, List.setIfInBounds_toArray, List.set_cons_zero, List.set_cons_succ, i64_w, i32_w]
                  rfl
                refine pure_ (i := 4) (N := (some 50)) (v := ?_) (a' := ?_) #[true, true, true, false, true, false, false, false, false, false, false, false, false] rfl rfl (by kernel_rfl) (fun _ _ _ h => h) (Or.inl ⟨by rfl, ?_⟩) ?_ ?_
                rotate_left
                · intro w'
                  go_simp
                  with_reducible rfl
                rotate_left
                · simp only [Act.put, List.setIfInBounds_toArray, List.set_cons_zero, List.set_cons_succ, i64_w, i32_w]
                  rfl
                refine pure_ (i := 8) (N := (some 54)) (v := ?_) (a' := ?_) #[true, true, true, false, true, false, false, false, true, false, false, false, false] rfl rfl (by kernel_rfl) (fun _ _ _ h => h) (Or.inl ⟨by rfl, ?_⟩) ?_ ?_
                rotate_left
                · intro w'
                  go_simp
                  with_reducible rfl
                rotate_left
                · simp only [Act.put, List.setIfInBounds_toArray, List.set_cons_zero, List.set_cons_succ, i64_w, i32_w]
                  rfl
                refine take_ (i := 3) (N := (some 49)) (v := ?_) (a' := ?_) #[true, true, true, true, true, false, false, false, true, false, false, false, false] rfl rfl (by kernel_rfl) (fun _ _ _ h => h) (Or.inl ⟨by rfl, ?_⟩) hHeld ?_ ?_
                rotate_left
                · rintro w' hs
                  have k2 := (HQ.out.2.1.later hs).cell2
                  go_simp
                  with_reducible rfl
                rotate_left
                · simp only [Act.put, List.setIfInBounds_toArray, List.set_cons_zero, List.set_cons_succ, i64_w, i32_w]
                  rfl
                refine pure_ (i := 5) (N := (some 51)) (v := ?_) (a' := ?_) #[true, true, true, true, true, true, false, false, true, false, false, false, false] rfl rfl (by kernel_rfl) (fun _ _ _ h => h) (Or.inl ⟨by rfl, ?_⟩) ?_ ?_
                rotate_left
                · intro w'
                  go_simp
                  with_reducible rfl
                rotate_left
                · simp only [Act.put, List.setIfInBounds_toArray, List.set_cons_zero, List.set_cons_succ, i64_w, i32_w]
                  rfl
                refine pure_ (i := 6) (N := (some 52)) (v := ?_) (a' := ?_) #[true, true, true, true, true, true, true, false, true, false, false, false, false] rfl rfl (by kernel_rfl) (fun _ _ _ h => h) (Or.inl ⟨by rfl, ?_⟩) ?_ ?_
                rotate_left
                · intro w'
                  go_simp
                  with_reducible rfl
                rotate_left
                · simp only [Act.put, List.setIfInBounds_toArray, List.set_cons_zero, List.set_cons_succ, i64_w, i32_w]
                  rfl
                refine take_ (i := 7) (N := (some 53)) (v := _) (a' := ?_) #[true, true, true, true, true, true, true, true, true, false, false, false, false] rfl rfl (by kernel_rfl) (fun _ _ _ h => h) (Or.inl ⟨by rfl, fun w' hs => yields_load 34 (.tmp 52) _ rfl _ _ rfl _ (HLD.out w' hs)⟩) hHeld ?_ ?_
                rotate_left
                · simp only [Act.put, List.setIfInBounds_toArray, List.set_cons_zero, List.set_cons_succ, i64_w, i32_w]
                  rfl
                refine one_ (i := 9) (N := (some 55)) #[true, true, true, true, true, true, true, true, true, true, false, false, false] rfl rfl (by kernel_rfl) (by decide) (fun K hK => ?_)
                refine goes_ Tryz.func18 (by kernel_rfl) rfl #[.int .i64 kk] (by rfl) rfl rfl (by (try simp only [List.map_toArray, List.map_cons, List.map_nil]); first | done | rfl) ?_
                refine (HKY.out _).mono ?_
                rintro e w5c ⟨rfl, hb⟩
                refine ⟨_, rfl, ?_⟩
                have hS_ := below_step hHeld hb
                clear hb
                refine hK.out _ _ hS_ (fun hHeld => ?_)
                clear hK K
                refine norm_ (a' := ?_) ?_ ?_
                rotate_left
                · show Act.put _ (some 55) _ = _
                  simp only [Act.put, List.setIfInBounds_toArray, List.set_cons_zero, List.set_cons_succ, i64_w, i32_w]
                  rfl
                refine pure_ (i := 10) (N := (some 56)) (v := ?_) (a' := ?_) #[true, true, true, true, true, true, true, true, true, true, true, false, false] rfl rfl (by kernel_rfl) (fun _ _ _ h => h) (Or.inl ⟨by rfl, ?_⟩) ?_ ?_
                rotate_left
                · intro w'
                  go_simp
                  with_reducible rfl
                rotate_left
                · simp only [Act.put, List.setIfInBounds_toArray, List.set_cons_zero, List.set_cons_succ, i64_w, i32_w]
                  rfl
                refine pure_ (i := 11) (N := (some 57)) (v := ?_) (a' := ?_) #[true, true, true, true, true, true, true, true, true, true, true, true, false] rfl rfl (by kernel_rfl) (fun _ _ _ h => h) (Or.inl ⟨by rfl, ?_⟩) ?_ ?_
                rotate_left
                · intro w'
                  go_simp
                  with_reducible rfl
                rotate_left
                · simp only [Act.put, List.setIfInBounds_toArray, List.set_cons_zero, List.set_cons_succ, i64_w, i32_w]
                  rfl
                refine pure_ (i := 12) (N := (some 9)) (v := ?_) (a' := ?_) #[true, true, true, true, true, true, true, true, true, true, true, true, true] rfl rfl (by kernel_rfl) (fun _ _ _ h => h) (Or.inl ⟨by rfl, ?_⟩) ?_ ?_
                rotate_left
                · intro w'
                  go_simp
                  with_reducible rfl
                rotate_left
                · simp only [Act.put, List.setIfInBounds_toArray, List.set_cons_zero, List.set_cons_succ, i64_w, i32_w]
                  rfl
                refine done_ (by kernel_rfl) ?_
                have HH := Aside0.mk hHeld
                clear hHeld
                go_wp2_with fail
                obtain ⟨k2, rfl⟩ : ∃ k2, gk = k2 + 1 := ⟨gk - 1, by omega⟩
                go_roundg k2
                case measure => omega
                case rel => exact ⟨jj + 1, by rw [HHU.out]; rfl, by go_num, by omega, ⟨HH.out⟩⟩
              · rw [hhu] at HHU
                clear hhu
                refine start_ (n := 13) (S := fun W => Below wB.heap.size wB W) (ds := []) #[false, false, false, false, false, false, false, false, false, false, false, false, false] (by kernel_rfl) rfl rfl BW.out.drew (fun hHeld => ?_)
                generalize World.drew _ = w5 at hHeld ⊢
                refine pure_ (i := 0) (N := (some 46)) (v := ?_) (a' := ?_) #[true, false, false, false, false, false, false, false, false, false, false, false, false] rfl rfl (by kernel_rfl) (fun _ _ _ h => h) (Or.inl ⟨by rfl, ?_⟩) ?_ ?_
                rotate_left
                · intro w'
                  go_simp
                  with_reducible rfl
                rotate_left
                · simp only [Act.put, List.setIfInBounds_toArray, List.set_cons_zero, List.set_cons_succ, i64_w, i32_w]
                  rfl
                refine pure_ (i := 1) (N := (some 47)) (v := ?_) (a' := ?_) #[true, true, false, false, false, false, false, false, false, false, false, false, false] rfl rfl (by kernel_rfl) (fun _ _ _ h => h) (Or.inl ⟨by rfl, ?_⟩) ?_ ?_
                rotate_left
                · intro w'
                  go_simp
                  with_reducible rfl
                rotate_left
                · simp only [Act.put, List.setIfInBounds_toArray, List.set_cons_zero, List.set_cons_succ, i64_w, i32_w]
                  rfl
                refine pure_ (i := 2) (N := (some 48)) (v := undef) (a' := ?_) #[true, true, true, false, false, false, false, false, false, false, false, false, false] rfl rfl (by kernel_rfl) (fun _ _ _ h => h) (Or.inr ⟨by rfl, rfl⟩) ?_ ?_
                rotate_left
                · simp only [Act.put, List.setIfInBounds_toArray, List.set_cons_zero, List.set_cons_succ, i64_w, i32_w]
                  rfl
                refine pure_ (i := 3) (N := (some 49)) (v := undef) (a' := ?_) #[true, true, true, true, false, false, false, false, false, false, false, false, false] rfl rfl (by kernel_rfl) (fun _ _ _ h => h) (Or.inr ⟨by rfl, rfl⟩) ?_ ?_
                rotate_left
                · simp only [Act.put, List.setIfInBounds_toArray, List.set_cons_zero, List.set_cons_succ, i64_w, i32_w]
                  rfl
                refine pure_ (i := 4) (N := (some 50)) (v := undef) (a' := ?_) #[true, true, true, true, true, false, false, false, false, false, false, false, false] rfl rfl (by kernel_rfl) (fun _ _ _ h => h) (Or.inr ⟨by rfl, rfl⟩) ?_ ?_
                rotate_left
                · simp only [Act.put, List.setIfInBounds_toArray, List.set_cons_zero, List.set_cons_succ, i64_w, i32_w]
                  rfl
                refine pure_ (i := 5) (N := (some 51)) (v := undef) (a' := ?_) #[true, true, true, true, true, true, false, false, false, false, false, false, false] rfl rfl (by kernel_rfl) (fun _ _ _ h => h) (Or.inr ⟨by rfl, rfl⟩) ?_ ?_
                rotate_left
                · simp only [Act.put, List.setIfInBounds_toArray, List.set_cons_zero, List.set_cons_succ, i64_w, i32_w]
                  rfl
                refine pure_ (i := 6) (N := (some 52)) (v := undef) (a' := ?_) #[true, true, true, true, true, true, true, false, false, false, false, false, false] rfl rfl (by kernel_rfl) (fun _ _ _ h => h) (Or.inr ⟨by rfl, rfl⟩) ?_ ?_
                rotate_left
                · simp only [Act.put, List.setIfInBounds_toArray, List.set_cons_zero, List.set_cons_succ, i64_w, i32_w]
                  rfl
                refine pure_ (i := 7) (N := (some 53)) (v := undef) (a' := ?_) #[true, true, true, true, true, true, true, true, false, false, false, false, false] rfl rfl (by kernel_rfl) (fun _ _ _ h => h) (Or.inr ⟨by rfl, rfl⟩) ?_ ?_
                rotate_left
                · simp only [Act.put, List.setIfInBounds_toArray, List.set_cons_zero, List.set_cons_succ, i64_w, i32_w]
                  rfl
                refine pure_ (i := 8) (N := (some 54)) (v := undef) (a' := ?_) #[true, true, true, true, true, true, true, true, true, false, false, false, false] rfl rfl (by kernel_rfl) (fun _ _ _ h => h) (Or.inr ⟨by rfl, rfl⟩) ?_ ?_
                rotate_left
                · simp only [Act.put, List.setIfInBounds_toArray, List.set_cons_zero, List.set_cons_succ, i64_w, i32_w]
                  rfl
                refine pure_ (i := 9) (N := (some 55)) (v := undef) (a' := ?_) #[true, true, true, true, true, true, true, true, true, true, false, false, false] rfl rfl (by kernel_rfl) (fun _ _ _ h => h) (Or.inr ⟨by rfl, rfl⟩) ?_ ?_
                rotate_left
                · simp only [Act.put, List.setIfInBounds_toArray, List.set_cons_zero, List.set_cons_succ, i64_w, i32_w]
                  rfl
                refine pure_ (i := 10) (N := (some 56)) (v := undef) (a' := ?_) #[true, true, true, true, true, true, true, true, true, true, true, false, false] rfl rfl (by kernel_rfl) (fun _ _ _ h => h) (Or.inr ⟨by rfl, rfl⟩) ?_ ?_
                rotate_left
                · simp only [Act.put, List.setIfInBounds_toArray, List.set_cons_zero, List.set_cons_succ, i64_w, i32_w]
                  rfl
                refine pure_ (i := 11) (N := (some 57)) (v := ?_) (a' := ?_) #[true, true, true, true, true, true, true, true, true, true, true, true, false] rfl rfl (by kernel_rfl) (fun _ _ _ h => h) (Or.inl ⟨by rfl, ?_⟩) ?_ ?_
                rotate_left
                · intro w'
                  go_simp
                  with_reducible rfl
                rotate_left
                · simp only [Act.put, List.setIfInBounds_toArray, List.set_cons_zero, List.set_cons_succ, i64_w, i32_w]
                  rfl
                refine pure_ (i := 12) (N := (some 9)) (v := ?_) (a' := ?_) #[true, true, true, true, true, true, true, true, true, true, true, true, true] rfl rfl (by kernel_rfl) (fun _ _ _ h => h) (Or.inl ⟨by rfl, ?_⟩) ?_ ?_
                rotate_left
                · intro w'
                  go_simp
                  with_reducible rfl
                rotate_left
                · simp only [Act.put, List.setIfInBounds_toArray, List.set_cons_zero, List.set_cons_succ, i64_w, i32_w]
                  rfl
                refine done_ (by kernel_rfl) ?_
                have HH := Aside0.mk hHeld
                clear hHeld
                go_wp2_with fail
                obtain ⟨k2, rfl⟩ : ∃ k2, gk = k2 + 1 := ⟨gk - 1, by omega⟩
                go_roundg k2
                case measure => omega
                case rel => exact ⟨jj + 1, by rw [HHU.out]; rfl, by go_num, by omega, ⟨HH.out⟩⟩
            · have k2 : wr.cell? ⟨bk, 2, none⟩ = some (.slice A1 B2.devs.length c1) := (HQ.out.2.1.later BW.out).cell2
              have hltz : ¬ (jj : Int) < (B2.devs.length : Int) := by omega
              have : jj = B2.devs.length := by omega
              subst this
              rw [hasUpto_all]
              go_upto_region 20 with fail
              clear hltz hjj hfew k2
              obtain ⟨wC, rfl⟩ : ∃ x, x = wr := ⟨wr, rfl⟩
              have HC := Aside0.mk (And.intro (HQ.out.1.later BW.out) (And.intro (HQ.out.2.1.later BW.out) (HQ.out.2.2.later BW.out)))
              clear BW HQ
              go_wp2_with fail
              go_loopg [11, 12] B2.spent.length (fun kx s11 s12 wr => ∃ jj : Nat, s11 = .bool (outUpto B2 ky jj) ∧ s12 = .int .i64 jj ∧ jj + kx = B2.spent.length ∧ Aside0 (Below wC.heap.size wC wr))
              case atStart => exact ⟨0, rfl, rfl, by omega, ⟨Below.refl _ _⟩⟩
              case round =>
                obtain ⟨jj, rfl, rfl, hjj, BW⟩ := hrel
                have hfew := HC.out.1.wf.few.2
                by_cases hlt : jj < B2.spent.length
                · have k3 : wr.cell? ⟨bk, 3, none⟩ = some (.slice A2 B2.spent.length c2) := (HC.out.2.1.later BW.out).cell3
                  have hltz : (jj : Int) < (B2.spent.length : Int) := by omega
                  obtain ⟨dv, hdv⟩ : ∃ dv, B2.spent[jj]? = some dv := ⟨_, List.getElem?_eq_getElem hlt⟩
                  have HHU := Aside0.mk (outUpto_next (k := ky) hdv)
                  obtain ⟨g, rfl, hld⟩ := HC.out.2.1.loadSK hdv
                  obtain ⟨he, hgd⟩ := HEQ.out dv
                  obtain ⟨YA, hYA⟩ : ∃ YA, YA = (encK dv).toArray := ⟨_, rfl⟩
                  rw [← hYA] at hld he hgd
                  have HLD := Aside0.mk hld
                  clear hYA hld hdv
                  go_wp2_with fail
                  cases hhu : outUpto B2 ky jj
                  · rw [hhu] at HHU
                    clear hhu
                    refine start_ (n := 12) (S := fun W => Below wC.heap.size wC W) (ds := []) #[false, false, false, false, false, false, false, false, false, false, false, false] (by kernel_rfl) rfl rfl BW.out.drew (fun hHeld => ?_)
                    generalize World.drew _ = w5 at hHeld ⊢
                    refine pure_ (i := 0) (N := (some 65)) (v := ?_) (a' := ?_) #[true, false, false, false, false, false, false, false, false, false, false, false] rfl rfl (by kernel_rfl) (fun _ _ _ h => h) (Or.inl ⟨by rfl, ?_⟩) ?_ ?_
                    rotate_left
                    · intro w'
                      go_simp
                      with_reducible rfl
                    rotate_left
                    · simp only [Act.put, List.setIfInBounds_toArray, List.set_cons_zero, List.set_cons_succ, i64_w, i32_w]
                      rfl
                    refine pure_ (i := 1) (N := (some 66)) (v := ?_) (a' := ?_) #[true, true, false, false, false, false, false, false, false, false, false, false] rfl rfl (by kernel_rfl) (fun _ _ _ h => h) (Or.inl ⟨by rfl, ?_⟩) ?_ ?_
                    rotate_left
                    · intro w'
                      go_simp
                      with_reducible rfl
                    rotate_left
                    · simp only [Act.put, List.setIfInBounds_toArray, List.set_cons_zero, List.set_cons_succ, i64_w, i32_w]
                      rfl
                    refine pure_ (i := 2) (N := (some 67)) (v := ?_) (a' := ?_) #[true, true, true, false, false, false, false, false, false, false, false, false] rfl rfl (by kernel_rfl) (fun _ _ _ h => h) (Or.inl ⟨by rfl, ?_⟩) ?_ ?_
                    rotate_left
                    · intro w'
                      go_simp
                      with_reducible rfl
                    rotate_left
                    · simp only [Act.put, List.setIfInBounds_toArray, List.set_cons_zero, List.set_cons_succ, i64_w, i32_w]
                      rfl
                    refine pure_ (i := 4) (N := (some 69)) (v := ?_) (a' := ?_) #[true, true, true, false, true, false, false, false, false, false, false, false] rfl rfl (by kernel_rfl) (fun _ _ _ h => h) (Or.inl ⟨by rfl, ?_⟩) ?_ ?_
                    rotate_left
                    · intro w'
                      go_simp
                      with_reducible rfl
                    rotate_left
                    · simp only [Act.put, List.setIfInBounds_toArray, List.set_cons_zero, List.set_cons_succ, i64_w, i32_w]
                      rfl
                    refine pure_ (i := 7) (N := (some 72)) (v := ?_) (a' := ?_) #[true, true, true, false, true, false, false, true, false, false, false, false] rfl rfl (by kernel_rfl) (fun _ _ _ h => h) (Or.inl ⟨by rfl, ?_⟩) ?_ ?_
                    rotate_left
                    · intro w'
                      go_simp
                      with_reducible rfl
                    rotate_left
                    · simp only [Act.put, List.setIfInBounds_toArray, List.set_cons_zero, List.set_cons_succ, i64_w, i32_w]
                      rfl
                    refine take_ (i := 3) (N := (some 68)) (v := ?_) (a' := ?_) #[true, true, true, true, true, false, false, true, false, false, false, false] rfl rfl (by kernel_rfl) (fun _ _ _ h => h) (Or.inl ⟨by rfl, ?_⟩) hHeld ?_ ?_
                    rotate_left
                    · rintro w' hs
                      have k3 := (HC.out.2.1.later hs).cell3
                      go_simp
                      with_reducible rfl
                    rotate_left
                    · simp only [Act.put, List.setIfInBounds_toArray, List.set_cons_zero, List.set_cons_succ, i64_w, i32_w]
                      rfl
                    refine pure_ (i := 5) (N := (some 70)) (v := ?_) (a' := ?_) #[true, true, true, true, true, true, false, true, false, false, false, false] rfl rfl (by kernel_rfl) (fun _ _ _ h => h) (Or.inl ⟨by rfl, ?_⟩) ?_ ?_
                    rotate_left
                    · intro w'
                      go_simp
                      with_reducible rfl
                    rotate_left
                    · simp only [Act.put, List.setIfInBounds_toArray, List.set_cons_zero, List.set_cons_succ, i64_w, i32_w]
                      rfl
                    refine take_ (i := 6) (N := (some 71)) (v := _) (a' := ?_) #[true, true, true, true, true, true, true, true, false, false, false, false] rfl rfl (by kernel_rfl) (fun _ _ _ h => h) (Or.inl ⟨by rfl, fun w' hs => yields_load 34 (.tmp 70) _ rfl _ _ rfl _ (HLD.out w' hs)⟩) hHeld ?_ ?_
                    rotate_left
                    · simp only [Act.put, List.setIfInBounds_toArray, List.set_cons_zero, List.set_cons_succ, i64_w, i32_w]
                      rfl
                    refine one_ (i := 8) (N := (some 73)) #[true, true, true, true, true, true, true, true, true, false, false, false] rfl rfl (by kernel_rfl) (by decide) (fun K hK => ?_)
                    refine goes_ Tryz.func18 (by kernel_rfl) rfl #[.int .i64 kk] (by rfl) rfl rfl (by (try simp only [List.map_toArray, List.map_cons, List.map_nil]); first | done | rfl) ?_
                    refine (HKY.out _).mono ?_
                    rintro e w5c ⟨rfl, hb⟩
                    refine ⟨_, rfl, ?_⟩
                    have hS_ := below_step hHeld hb
                    clear hb
                    refine hK.out _ _ hS_ (fun hHeld => ?_)
                    clear hK K
                    refine norm_ (a' := ?_) ?_ ?_
                    rotate_left
                    · show Act.put _ (some 73) _ = _
                      simp only [Act.put, List.setIfInBounds_toArray, List.set_cons_zero, List.set_cons_succ, i64_w, i32_w]
                      rfl
                    refine pure_ (i := 9) (N := (some 74)) (v := ?_) (a' := ?_) #[true, true, true, true, true, true, true, true, true, true, false, false] rfl rfl (by kernel_rfl) (fun _ _ _ h => h) (Or.inl ⟨by rfl, ?_⟩) ?_ ?_
                    rotate_left
                    · intro w'
                      go_simp
                      with_reducible rfl
                    rotate_left
                    · simp only [Act.put, List.setIfInBounds_toArray, List.set_cons_zero, List.set_cons_succ, i64_w, i32_w]
                      rfl
                    refine pure_ (i := 10) (N := (some 75)) (v := ?_) (a' := ?_) #[true, true, true, true, true, true, true, true, true, true, true, false] rfl rfl (by kernel_rfl) (fun _ _ _ h => h) (Or.inl ⟨by rfl, ?_⟩) ?_ ?_
                    rotate_left
                    · intro w'
                      go_simp
                      with_reducible rfl
                    rotate_left
                    · simp only [Act.put, List.setIfInBounds_toArray, List.set_cons_zero, List.set_cons_succ, i64_w, i32_w]
                      rfl
                    refine pure_ (i := 11) (N := (some 11)) (v := ?_) (a' := ?_) #[true, true, true, true, true, true, true, true, true, true, true, true] rfl rfl (by kernel_rfl) (fun _ _ _ h => h) (Or.inl ⟨by rfl, ?_⟩) ?_ ?_
                    rotate_left
                    · intro w'
                      go_simp
                      with_reducible rfl
                    rotate_left
                    · simp only [Act.put, List.setIfInBounds_toArray, List.set_cons_zero, List.set_cons_succ, i64_w, i32_w]
                      rfl
                    refine done_ (by kernel_rfl) ?_
                    have HH := Aside0.mk hHeld
                    clear hHeld
                    go_wp2_with fail
                    obtain ⟨k2, rfl⟩ : ∃ k2, gk = k2 + 1 := ⟨gk - 1, by omega⟩
                    go_roundg k2
                    case measure => omega
                    case rel => exact ⟨jj + 1, by rw [HHU.out]; rfl, by go_num, by omega, ⟨HH.out⟩⟩
                  · rw [hhu] at HHU
                    clear hhu
                    refine start_ (n := 12) (S := fun W => Below wC.heap.size wC W) (ds := []) #[false, false, false, false, false, false, false, false, false, false, false, false] (by kernel_rfl) rfl rfl BW.out.drew (fun hHeld => ?_)
                    generalize World.drew _ = w5 at hHeld ⊢
                    refine pure_ (i := 0) (N := (some 65)) (v := ?_) (a' := ?_) #[true, false, false, false, false, false, false, false, false, false, false, false] rfl rfl (by kernel_rfl) (fun _ _ _ h => h) (Or.inl ⟨by rfl, ?_⟩) ?_ ?_
                    rotate_left
                    · intro w'
                      go_simp
                      with_reducible rfl
                    rotate_left
                    · simp only [Act.put, List.setIfInBounds_toArray, List.set_cons_zero, List.set_cons_succ, i64_w, i32_w]
                      rfl
                    refine pure_ (i := 1) (N := (some 66)) (v := ?_) (a' := ?_) #[true, true, false, false, false, false, false, false, false, false, false, false] rfl rfl (by kernel_rfl) (fun _ _ _ h => h) (Or.inl ⟨by rfl, ?_⟩) ?_ ?_
                    rotate_left
                    · intro w'
                      go_simp
                      with_reducible rfl
                    rotate_left
                    · simp only [Act.put, List.setIfInBounds_toArray, List.set_cons_zero, List.set_cons_succ, i64_w, i32_w]
                      rfl
                    refine pure_ (i := 2) (N := (some 67)) (v := undef) (a' := ?_) #[true, true, true, false, false, false, false, false, false, false, false, false] rfl rfl (by kernel_rfl) (fun _ _ _ h => h) (Or.inr ⟨by rfl, rfl⟩) ?_ ?_
                    rotate_left
                    · simp only [Act.put, List.setIfInBounds_toArray, List.set_cons_zero, List.set_cons_succ, i64_w, i32_w]
                      rfl
                    refine pure_ (i := 3) (N := (some 68)) (v := undef) (a' := ?_) #[true, true, true, true, false, false, false, false, false, false, false, false] rfl rfl (by kernel_rfl) (fun _ _ _ h => h) (Or.inr ⟨by rfl, rfl⟩) ?_ ?_
                    rotate_left
                    · simp only [Act.put, List.setIfInBounds_toArray, List.set_cons_zero, List.set_cons_succ, i64_w, i32_w]
                      rfl
                    refine pure_ (i := 4) (N := (some 69)) (v := undef) (a' := ?_) #[true, true, true, true, true, false, false, false, false, false, false, false] rfl rfl (by kernel_rfl) (fun _ _ _ h => h) (Or.inr ⟨by rfl, rfl⟩) ?_ ?_
                    rotate_left
                    · simp only [Act.put, List.setIfInBounds_toArray, List.set_cons_zero, List.set_cons_succ, i64_w, i32_w]
                      rfl
                    refine pure_ (i := 5) (N := (some 70)) (v := undef) (a' := ?_) #[true, true, true, true, true, true, false, false, false, false, false, false] rfl rfl (by kernel_rfl) (fun _ _ _ h => h) (Or.inr ⟨by rfl, rfl⟩) ?_ ?_
                    rotate_left
                    · simp only [Act.put, List.setIfInBounds_toArray, List.set_cons_zero, List.set_cons_succ, i64_w, i32_w]
                      rfl
                    refine pure_ (i := 6) (N := (some 71)) (v := undef) (a' := ?_) #[true, true, true, true, true, true, true, false, false, false, false, false] rfl rfl (by kernel_rfl) (fun _ _ _ h => h) (Or.inr ⟨by rfl, rfl⟩) ?_ ?_
                    rotate_left
                    · simp only [Act.put, List.setIfInBounds_toArray, List.set_cons_zero, List.set_cons_succ, i64_w, i32_w]
                      rfl
                    refine pure_ (i := 7) (N := (some 72)) (v := undef) (a' := ?_) #[true, true, true, true, true, true, true, true, false, false, false, false] rfl rfl (by kernel_rfl) (fun _ _ _ h => h) (Or.inr ⟨by rfl, rfl⟩) ?_ ?_
                    rotate_left
                    · simp only [Act.put, List.setIfInBounds_toArray, List.set_cons_zero, List.set_cons_succ, i64_w, i32_w]
                      rfl
                    refine pure_ (i := 8) (N := (some 73)) (v := undef) (a' := ?_) #[true, true, true, true, true, true, true, true, true, false, false, false] rfl rfl (by kernel_rfl) (fun _ _ _ h => h) (Or.inr ⟨by rfl, rfl⟩) ?_ ?_
                    rotate_left
                    · simp only [Act.put, List.setIfInBounds_toArray, List.set_cons_zero, List.set_cons_succ, i64_w, i32_w]
                      rfl
                    refine pure_ (i := 9) (N := (some 74)) (v := undef) (a' := ?_) #[true, true, true, true, true, true, true, true, true, true, false, false] rfl rfl (by kernel_rfl) (fun _ _ _ h => h) (Or.inr ⟨by rfl, rfl⟩) ?_ ?_
                    rotate_left
                    · simp only [Act.put, List.setIfInBounds_toArray, List.set_cons_zero, List.set_cons_succ, i64_w, i32_w]
                      rfl
                    refine pure_ (i := 10) (N := (some 75)) (v := ?_) (a' := ?_) #[true, true, true, true, true, true, true, true, true, true, true, false] rfl rfl (by kernel_rfl) (fun _ _ _ h => h) (Or.inl ⟨by rfl, ?_⟩) ?_ ?_
                    rotate_left
                    · intro w'
                      go_simp
                      with_reducible rfl
                    rotate_left
                    · simp only [Act.put, List.setIfInBounds_toArray, List.set_cons_zero, List.set_cons_succ, i64_w, i32_w]
                      rfl
                    refine pure_ (i := 11) (N := (some 11)) (v := ?_) (a' := ?_) #[true, true, true, true, true, true, true, true, true, true, true, true] rfl rfl (by kernel_rfl) (fun _ _ _ h => h) (Or.inl ⟨by rfl, ?_⟩) ?_ ?_
                    rotate_left
                    · intro w'
                      go_simp
                      with_reducible rfl
                    rotate_left
                    · simp only [Act.put, List.setIfInBounds_toArray, List.set_cons_zero, List.set_cons_succ, i64_w, i32_w]
                      rfl
                    refine done_ (by kernel_rfl) ?_
                    have HH := Aside0.mk hHeld
                    clear hHeld
                    go_wp2_with fail
                    obtain ⟨k2, rfl⟩ : ∃ k2, gk = k2 + 1 := ⟨gk - 1, by omega⟩
                    go_roundg k2
                    case measure => omega
                    case rel => exact ⟨jj + 1, by rw [HHU.out]; rfl, by go_num, by omega, ⟨HH.out⟩⟩
                · have k3 : wr.cell? ⟨bk, 3, none⟩ = some (.slice A2 B2.spent.length c2) := (HC.out.2.1.later BW.out).cell3
                  have hltz : ¬ (jj : Int) < (B2.spent.length : Int) := by omega
                  have : jj = B2.spent.length := by omega
                  subst this
                  rw [outUpto_all]
                  go_upto_region 24 with fail
                  obtain ⟨wD, rfl⟩ : ∃ x, x = wr := ⟨wr, rfl⟩
                  have HD := Aside0.mk (And.intro (HC.out.1.later BW.out) (And.intro (HC.out.2.1.later BW.out) (HC.out.2.2.later BW.out)))
                  have hso := HSO.out kk
                  have hsh := HSH.out kk
                  rw [← HKN.out] at hso hsh HCN
                  have hcell := HD.out.2.2.cell kk H30.out
                  simp only [Nat.lt_irrefl, if_false] at hcell
                  rw [← HKN.out] at hcell
                  obtain ⟨o, ho⟩ : ∃ o, o = decide (ky ∈ B2.spent) := ⟨_, rfl⟩
                  obtain ⟨h, hh⟩ : ∃ h, h = decide (ky ∈ takenB B) := ⟨_, rfl⟩
                  obtain ⟨hs, hhs⟩ : ∃ hs, hs = devHas B2 ky := ⟨_, rfl⟩
                  rw [← ho, ← hh, ← hhs] at hso
                  rw [← hh, ← hhs] at hsh
                  rw [← hh] at hcell
                  rw [← ho, ← hhs]
                  have HOO := Aside0.mk ho
                  have HHH := Aside0.mk hsh
                  clear ho hh hhs HC BW hltz hjj hfew k3
                  have hkk3 : (kk : Int) < 30 := by have := H30.out; omega
                  have sizeb : ∀ w, (Go.sizeOf 4).run Tryz.prog w = .ok 1 w := Tryz.sizeOf4
                  cases h <;> cases hs <;> simp only [Bool.or_true, Bool.true_or, Bool.or_false, Bool.false_or, Bool.not_true, Bool.not_false, Bool.and_true, Bool.and_false, Bool.true_and, Bool.false_and] at hso hsh <;> subst hso
                  · have st := run_store1 Tryz.prog wD 4 sizeb hd kk 26 _ HD.out.2.2 H30.out (.bool false) rfl rfl
                    obtain ⟨wE, hst, ha, hg⟩ := st
                    have HST := Aside0.mk hst
                    have HE := Aside0.mk (And.intro ha hg)
                    have k4 := ha.cell kk H30.out
                    simp only [if_true] at k4
                    clear hst ha hg hsh
                    go_wp2_with ((with_reducible refine at_store 4 (.tmp 83) (.tmp 82) ?_); refine wpList_storeK rfl 4 (.tmp 83) (.tmp 82) rfl rfl _ _ rfl rfl _ HST.out ?_)
                    go_roundg kn
                    case measure => have := H30.out; omega
                    case rel =>
                      refine ⟨kk + 1, ?_, by go_num, by have := HK.out; omega, ⟨HD.out.1.other HD.out.2.2.at_ (by decide) (by decide) (by decide) HN.out HE.out.2, HD.out.2.1.other HD.out.2.2.at_ (by decide) (by decide) (by decide) HE.out.2, HE.out.1.congr fun n hn => ?_⟩⟩
                      · have hq := HSP.out
                        have hq2 := H30.out
                        rw [HCN.out, ← HOO.out]
                        first
                        | (simp only [Bool.false_eq_true, if_false, Nat.add_zero]; done)
                        | (simp only [if_true]; rw [show ((sp + 1 : Nat) : Int) = (sp : Int) + 1 by omega, IntWalk.wrap64_in _ ⟨by omega, by omega⟩])
                      · have hsh := HHH.out
                        by_cases e : n = kk
                        · subst e
                          rw [if_pos rfl, if_pos (by omega), ← HKN.out, ← hsh]
                          rfl
                        · rw [if_neg e]
                          by_cases e2 : n < kk
                          · rw [if_pos e2, if_pos (by omega)]
                          · rw [if_neg e2, if_neg (by omega)]
                  · have st := run_store1 Tryz.prog wD 4 sizeb hd kk 26 _ HD.out.2.2 H30.out (.bool true) rfl rfl
                    obtain ⟨wE, hst, ha, hg⟩ := st
                    have HST := Aside0.mk hst
                    have HE := Aside0.mk (And.intro ha hg)
                    have k4 := ha.cell kk H30.out
                    simp only [if_true] at k4
                    clear hst ha hg hsh
                    go_wp2_with ((with_reducible refine at_store 4 (.tmp 83) (.tmp 82) ?_); refine wpList_storeK rfl 4 (.tmp 83) (.tmp 82) rfl rfl _ _ rfl rfl _ HST.out ?_)
                    go_roundg kn
                    case measure => have := H30.out; omega
                    case rel =>
                      refine ⟨kk + 1, ?_, by go_num, by have := HK.out; omega, ⟨HD.out.1.other HD.out.2.2.at_ (by decide) (by decide) (by decide) HN.out HE.out.2, HD.out.2.1.other HD.out.2.2.at_ (by decide) (by decide) (by decide) HE.out.2, HE.out.1.congr fun n hn => ?_⟩⟩
                      · have hq := HSP.out
                        have hq2 := H30.out
                        rw [HCN.out, ← HOO.out]
                        first
                        | (simp only [Bool.false_eq_true, if_false, Nat.add_zero]; done)
                        | (simp only [if_true]; rw [show ((sp + 1 : Nat) : Int) = (sp : Int) + 1 by omega, IntWalk.wrap64_in _ ⟨by omega, by omega⟩])
                      · have hsh := HHH.out
                        by_cases e : n = kk
                        · subst e
                          rw [if_pos rfl, if_pos (by omega), ← HKN.out, ← hsh]
                          rfl
                        · rw [if_neg e]
                          by_cases e2 : n < kk
                          · rw [if_pos e2, if_pos (by omega)]
                          · rw [if_neg e2, if_neg (by omega)]
                  · have st := run_store1 Tryz.prog wD 4 sizeb hd kk 26 _ HD.out.2.2 H30.out (.bool true) rfl rfl
                    obtain ⟨wE, hst, ha, hg⟩ := st
                    have HST := Aside0.mk hst
                    have HE := Aside0.mk (And.intro ha hg)
                    have k4 := ha.cell kk H30.out
                    simp only [if_true] at k4
                    clear hst ha hg hsh
                    go_wp2_with ((with_reducible refine at_store 4 (.tmp 83) (.tmp 82) ?_); refine wpList_storeK rfl 4 (.tmp 83) (.tmp 82) rfl rfl _ _ rfl rfl _ HST.out ?_)
                    go_roundg kn
                    case measure => have := H30.out; omega
                    case rel =>
                      refine ⟨kk + 1, ?_, by go_num, by have := HK.out; omega, ⟨HD.out.1.other HD.out.2.2.at_ (by decide) (by decide) (by decide) HN.out HE.out.2, HD.out.2.1.other HD.out.2.2.at_ (by decide) (by decide) (by decide) HE.out.2, HE.out.1.congr fun n hn => ?_⟩⟩
                      · have hq := HSP.out
                        have hq2 := H30.out
                        rw [HCN.out, ← HOO.out]
                        first
                        | (simp only [Bool.false_eq_true, if_false, Nat.add_zero]; done)
                        | (simp only [if_true]; rw [show ((sp + 1 : Nat) : Int) = (sp : Int) + 1 by omega, IntWalk.wrap64_in _ ⟨by omega, by omega⟩])
                      · have hsh := HHH.out
                        by_cases e : n = kk
                        · subst e
                          rw [if_pos rfl, if_pos (by omega), ← HKN.out, ← hsh]
                          rfl
                        · rw [if_neg e]
                          by_cases e2 : n < kk
                          · rw [if_pos e2, if_pos (by omega)]
                          · rw [if_neg e2, if_neg (by omega)]
                  · have st := run_store1 Tryz.prog wD 4 sizeb hd kk 26 _ HD.out.2.2 H30.out (.bool true) rfl rfl
                    obtain ⟨wE, hst, ha, hg⟩ := st
                    have HST := Aside0.mk hst
                    have HE := Aside0.mk (And.intro ha hg)
                    have k4 := ha.cell kk H30.out
                    simp only [if_true] at k4
                    clear hst ha hg hsh
                    go_wp2_with ((with_reducible refine at_store 4 (.tmp 83) (.tmp 82) ?_); refine wpList_storeK rfl 4 (.tmp 83) (.tmp 82) rfl rfl _ _ rfl rfl _ HST.out ?_)
                    go_roundg kn
                    case measure => have := H30.out; omega
                    case rel =>
                      refine ⟨kk + 1, ?_, by go_num, by have := HK.out; omega, ⟨HD.out.1.other HD.out.2.2.at_ (by decide) (by decide) (by decide) HN.out HE.out.2, HD.out.2.1.other HD.out.2.2.at_ (by decide) (by decide) (by decide) HE.out.2, HE.out.1.congr fun n hn => ?_⟩⟩
                      · have hq := HSP.out
                        have hq2 := H30.out
                        rw [HCN.out, ← HOO.out]
                        first
                        | (simp only [Bool.false_eq_true, if_false, Nat.add_zero]; done)
                        | (simp only [if_true]; rw [show ((sp + 1 : Nat) : Int) = (sp : Int) + 1 by omega, IntWalk.wrap64_in _ ⟨by omega, by omega⟩])
                      · have hsh := HHH.out
                        by_cases e : n = kk
                        · subst e
                          rw [if_pos rfl, if_pos (by omega), ← HKN.out, ← hsh]
                          rfl
                        · rw [if_neg e]
                          by_cases e2 : n < kk
                          · rw [if_pos e2, if_pos (by omega)]
                          · rw [if_neg e2, if_neg (by omega)]
        · have d1 : decide ((kk : Int) < 30) = false := decide_eq_false (by omega)
          have : kk = 30 := by omega
          subst this
          have hsp2 := named_count HQ.out.1.wf HNM.out
          rw [hsp2]
          have k3 : wB.cell? ⟨bk, 3, none⟩ = some (.slice A2 B2.spent.length c2) := HQ.out.2.1.cell3
          clear hsp hsp2
          go_wp2_with fail
          go_roundg ko
          case measure => omega
          case rel => exact ⟨i + 1, B2, by go_num, by have := HIK.out; omega, ⟨by have := HLT.out; omega⟩, ⟨HQ.out.1, HNM.out, HQ.out.2.2.congr fun n hn => by rw [if_pos hn]⟩⟩
    · rcases (show l.length ≤ i ∨ (i < l.length ∧ 100 ≤ i) by omega) with hA | hA
      · have d3 : decide ((i : Int) < (l.length : Int)) = false := decide_eq_false (by omega)
        have d1 : ((i : Int) < (l.length : Int)) = False := eq_false (by omega)
        clear hlt hA
        go_wp2_with fail
        go_ret
        exact ⟨rfl, below_step HB1.out HD.out.1.fr⟩
      · have d3 : decide ((i : Int) < (l.length : Int)) = true := decide_eq_true (by omega)
        have d4 : decide ((i : Int) < 100) = false := decide_eq_false (by omega)
        have d1 : ((i : Int) < (l.length : Int)) = True := eq_true (by omega)
        have d2 : ((i : Int) < 100) = False := eq_false (by omega)
        clear hlt hA
        go_wp2_with fail
        go_ret
        exact ⟨rfl, below_step HB1.out HD.out.1.fr⟩
end Go.Proofs.YthnpiimiimiijaaGreatDoor.Dir
