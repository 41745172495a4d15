/- DirectNever: a key that a device had and has no more, or whose device was revoked, never counts again. -/
import Derived.Test.YthnpiimiimiijaaGreatDoorDirNev
namespace Go.Proofs.YthnpiimiimiijaaGreatDoor.Dir
open Go Go.RowKit Go.Proofs Go.Proofs.YthnpiimiimiijaaGreatDoorW.PrintWords Go.Proofs.YthnpiimiimiijaaGreatDoorW.PrintLast Go.Proofs.YthnpiimiimiijaaGreatDoorW.PrintMore
set_option linter.unusedVariables false
set_option linter.unusedSimpArgs false

set_option maxHeartbeats 8000000 in
set_option maxRecDepth 100000 in
theorem never_law (A0 : Option Addr) (c0 : Nat) (l : List AskV) (w : World) (hr : Kd.C k38 w A0 l.length l) (hl : (l.length : Int) ≤ 9223372036854775807) (hx : PA.LaidW w) :
    Calls Tryz.prog 3 #[.slice A0 l.length c0] w fun e w' => e = .returned (.bool true) ∧ Below w.heap.size w w' := by
  have HR := Aside0.mk hr
  have HX := Aside0.mk hx
  have HL := Aside0.mk hl
  clear hr hx hl
  go_enter Tryz.func3, Tryz.ntmps3
  go_wp2_with fail
  refine (works_any w HX.out).mono ?_
  rintro e w1 ⟨rfl, hb1⟩
  have HB1 := Aside0.mk hb1
  clear hb1
  go_wp2_with fail
  refine (new_dir w1).mono ?_
  rintro e w2 ⟨rfl, ha, hb⟩
  obtain ⟨p, hp⟩ : ∃ p, p = w1.heap.size := ⟨_, rfl⟩
  rw [← hp] at ha ⊢
  have HS0 : Aside0 (DirSt w1 w2 p book0) := ⟨⟨ha, hb, by omega, book0_wf, HX.out.below HB1.out⟩⟩
  clear ha hb hp
  go_upto_region 5 with fail
  rw [row30_lit]
  obtain ⟨w3, hw3⟩ : ∃ w3, w3 = w2.alloc (.cells (row30 fun _ => .bool false).toArray 26) := ⟨_, rfl⟩
  obtain ⟨gn, hgn⟩ : ∃ gn, gn = w2.heap.size := ⟨_, rfl⟩
  have HS1 : Aside0 (DirSt w1 w3 p book0 ∧ Arr w3 gn 26 (fun _ => .bool false) ∧ w1.heap.size ≤ gn) := ⟨by
    rw [hw3, hgn]
    exact ⟨HS0.out.later ((Below.refl _ w2).alloc (Nat.le_refl _) _), ⟨heap_alloc_new w2 _⟩, HS0.out.fr.size⟩⟩
  rw [show w2.alloc _ = w3 from hw3.symm, ← hgn]
  clear hw3 hgn HS0
  go_upto_region 6 with fail
  rw [row30_lit]
  obtain ⟨w4, hw4⟩ : ∃ w4, w4 = w3.alloc (.cells (row30 fun _ => .int .i64 0).toArray 27) := ⟨_, rfl⟩
  obtain ⟨ho, hho⟩ : ∃ ho, ho = w3.heap.size := ⟨_, rfl⟩
  have HS : Aside0 (DirSt w1 w4 p book0 ∧ Arr w4 gn 26 (fun _ => .bool false) ∧ Arr w4 ho 27 (fun _ => .int .i64 0)) := ⟨by
    rw [hw4, hho]
    exact ⟨HS1.out.1.later ((Below.refl _ w3).alloc (Nat.le_refl _) _), HS1.out.2.1.later ((Below.refl _ w3).alloc (Nat.le_refl _) _), ⟨heap_alloc_new w3 _⟩⟩⟩
  have HN : Aside0 (w1.heap.size ≤ gn ∧ w1.heap.size ≤ ho) := ⟨HS1.out.2.2, by rw [hho]; exact HS1.out.1.fr.size⟩
  rw [show w3.alloc _ = w4 from hw4.symm, ← hho]
  clear hw4 hho HS1
  go_wp2
  go_loopg [6] 101 (fun kx s6 wr => ∃ (i : Nat) (B : Book) (G : Nat → Bool), s6 = .int .i64 i ∧ i + kx = 101 ∧ Aside0 (i ≤ l.length ∧ i ≤ 100) ∧ Aside0 (DirSt w1 wr p B ∧ Arr wr gn 26 (fun n => .bool (G n)) ∧ Arr wr ho 27 (fun n => .int .i64 (nodeOf B (keyN n))) ∧ ∀ n, n < 30 → G n = true → Gone B (keyN n)))
  case atStart => exact ⟨0, book0, fun _ => false, rfl, by omega, ⟨by omega⟩, ⟨HS.out.1, HS.out.2.1, HS.out.2.2, fun n _ h => by cases h⟩⟩
  case round =>
    obtain ⟨i, B, G0, rfl, hik, HI, HD⟩ := hrel
    have hll := HL.out
    have hi2 := HI.out
    by_cases hlt : i < l.length ∧ i < 100
    · have HLT := Aside0.mk hlt
      obtain ⟨ko, rfl⟩ : ∃ ko, gk = ko + 1 := ⟨gk - 1, by omega⟩
      have HIK := Aside0.mk hik
      have d1 : ((i : Int) < (l.length : Int)) = True := eq_true (by omega)
      have d2 : ((i : Int) < 100) = True := eq_true (by omega)
      have d3 : decide ((i : Int) < (l.length : Int)) = true := decide_eq_true (by omega)
      have d4 : decide ((i : Int) < 100) = true := decide_eq_true (by omega)
      obtain ⟨ad, rfl, q0, q1, q2, q3⟩ := ask_later HR.out (below_step HB1.out HD.out.1.fr) i hlt.1
      generalize rd_T38 l (i : Int) = aa at q0 q1 q2 q3
      obtain ⟨x0, x1, x2, x3⟩ := aa
      simp only at q0 q1 q2 q3
      have HO := Aside0.mk (op_any x0 x1 x2 x3 wr)
      go_wp2_with fail
      refine HO.out.mono ?_
      rintro e w5 ⟨rfl, hb3⟩
      have HD3 := Aside0.mk (And.intro (HD.out.1.later hb3) (And.intro (HD.out.2.1.later hb3) (HD.out.2.2.1.later hb3)))
      clear hb3 q0 q1 q2 q3
      go_wp2_with fail
      refine (apply_st w1 w5 p B (askOp ⟨x0, x1, x2, x3⟩) HD3.out.1 (askOp_in _)).mono ?_
      rintro e w6 ⟨rfl, hs4, hgr⟩
      have HWB := Aside0.mk HD.out.1.wf
      have HGO := Aside0.mk (fun n (hn : n < 30) (hg : G0 n = true) => gone_step rulesOf HWB.out (askOp ⟨x0, x1, x2, x3⟩) (HD.out.2.2.2 n hn hg))
      have HGM := Aside0.mk (fun n => gone_moved rulesOf HWB.out (askOp ⟨x0, x1, x2, x3⟩) (k := keyN n))
      have HCN := Aside0.mk (fun n => came_new rulesOf HWB.out (askOp ⟨x0, x1, x2, x3⟩) (k := keyN n))
      have HD4 := Aside0.mk (And.intro hs4 (And.intro (HD3.out.2.1.grown hgr (by
        obtain ⟨cs, fr, hq⟩ := HD3.out.1.at_.block
        exact (block_ne hq HD3.out.2.1.at_ (by decide)).symm)) (HD3.out.2.2.grown hgr (by
        obtain ⟨cs, fr, hq⟩ := HD3.out.1.at_.block
        exact (block_ne hq HD3.out.2.2.at_ (by decide)).symm))))
      obtain ⟨B2, hB2⟩ : ∃ B2, B2 = applyOf rulesOf B (askOp ⟨x0, x1, x2, x3⟩) := ⟨_, rfl⟩
      obtain ⟨er, her⟩ : ∃ er, er = errOf rulesOf B (askOp ⟨x0, x1, x2, x3⟩) := ⟨_, rfl⟩
      rw [← hB2] at HGO HGM HCN HD4 ⊢
      rw [← her] at HCN ⊢
      clear hs4 hgr hB2 her HD3 HD
      go_upto_region 10 with fail
      obtain ⟨w7, hw7⟩ : ∃ w7, w7 = w6.alloc (.cells #[.int .i64 er, .int .i64 B2.ver] 30) := ⟨_, rfl⟩
      obtain ⟨rs, hrs⟩ : ∃ rs, rs = w6.heap.size := ⟨_, rfl⟩
      have HD7 : Aside0 (w7.heap[rs]? = some (.cells #[.int .i64 er, .int .i64 B2.ver] 30 (0, 0)) ∧ DirSt w1 w7 p B2 ∧ Arr w7 gn 26 (fun n => .bool (G0 n)) ∧ Arr w7 ho 27 (fun n => .int .i64 (nodeOf B (keyN n)))) := ⟨by
        rw [hw7, hrs]
        have hb := (Below.refl _ w6).alloc (Nat.le_refl _) (.cells #[.int .i64 er, .int .i64 B2.ver] 30)
        exact ⟨heap_alloc_new w6 _, HD4.out.1.later hb, HD4.out.2.1.later hb, HD4.out.2.2.later hb⟩⟩
      rw [← hw7, ← hrs]
      clear hw7 hrs HD4 d3
      go_wp2_with fail
      refine (book_st w1 w7 p B2 HD7.out.2.1).mono ?_
      rintro e w8 ⟨⟨A1, c1, A2, c2, rfl, hL⟩, hs8, hb8⟩
      have st := Aside0.mk (run_storeNew Tryz.prog w8 43 5 size43 #[.int .i64 0, .int .i64 0, .slice none 0 0, .slice none 0 0, .string ⟨#[]⟩] (bookCells B2 A1 c1 A2 c2).toArray rfl rfl (by simpa using book_one B2 A1 A2 c1 c2))
      have HL8 := Aside0.mk (And.intro (hL.lower (Nat.zero_le _)) (And.intro hs8 hb8))
      clear hL hs8 hb8
      go_upto_region 13 with ((with_reducible refine at_store 43 (.tmp 9) (.tmp 42) ?_); refine wpList_storeK rfl 43 (.tmp 9) (.tmp 42) rfl rfl _ _ rfl rfl _ st.out ?_)
      obtain ⟨w9, hw9⟩ : ∃ w9, w9 = w8.alloc (.cells (bookCells B2 A1 c1 A2 c2).toArray 43) := ⟨_, rfl⟩
      obtain ⟨bk, hbk⟩ : ∃ bk, bk = w8.heap.size := ⟨_, rfl⟩
      have HD9 : Aside0 (BkSt w9 bk B2 A1 c1 A2 c2 ∧ DirSt w1 w9 p B2 ∧ w9.heap[rs]? = some (.cells #[.int .i64 er, .int .i64 B2.ver] 30 (0, 0)) ∧ Arr w9 gn 26 (fun n => .bool (G0 n)) ∧ Arr w9 ho 27 (fun n => .int .i64 (nodeOf B (keyN n)))) := ⟨by
        rw [hw9, hbk]
        have hb := (Below.refl _ w8).alloc (Nat.le_refl _) (.cells (bookCells B2 A1 c1 A2 c2).toArray 43)
        have hb7 := below_step HL8.out.2.2 hb
        exact ⟨⟨heap_alloc_new w8 _, HL8.out.1.below hb⟩, HL8.out.2.1.later hb, (hb7.block _ (Array.getElem?_eq_some_iff.1 HD7.out.1).1).trans HD7.out.1, HD7.out.2.2.1.later hb7, HD7.out.2.2.2.later hb7⟩⟩
      rw [← hw9, ← hbk]
      clear hw9 hbk st HL8 HD7
      go_upto_region 14 with fail
      rw [row30_lit]
      obtain ⟨w10, hw10⟩ : ∃ w10, w10 = w9.alloc (.cells (row30 fun _ => .int .i64 0).toArray 27) := ⟨_, rfl⟩
      obtain ⟨nw, hnw⟩ : ∃ nw, nw = w9.heap.size := ⟨_, rfl⟩
      have HNV : Aside0 (NvSt w1 w10 p B2 bk A1 c1 A2 c2 rs er gn G0 ho (fun n => nodeOf B (keyN n)) nw (fun _ => 0) ∧ (∀ n, n < 30 → G0 n = true → Gone B2 (keyN n))) := ⟨by
        rw [hw10, hnw]
        have hb := (Below.refl _ w9).alloc (Nat.le_refl _) (.cells (row30 fun _ => .int .i64 0).toArray 27)
        obtain ⟨g1, g2, g3, g4, g5⟩ := HD9.out
        exact ⟨⟨g2.later hb, g1.later hb, ⟨_, (hb.block _ (Array.getElem?_eq_some_iff.1 g3).1).trans g3⟩, g4.later hb, g5.later hb, ⟨heap_alloc_new w9 _⟩, Nat.ne_of_lt g5.lt, HN.out.1, HN.out.2, g2.fr.size⟩, HGO.out⟩⟩
      rw [show w9.alloc _ = w10 from hw10.symm, ← hnw]
      clear hw10 hnw HD9
      go_wp2
      go_loopg [11] B2.devs.length (fun kx s11 wr => ∃ (jj : Nat) (G : Nat → Bool), s11 = .int .i64 jj ∧ jj + kx = B2.devs.length ∧ Aside0 (NvSt w1 wr p B2 bk A1 c1 A2 c2 rs er gn G ho (fun n => nodeOf B (keyN n)) nw (fun n => nodeIn (B2.devs.take jj) (keyN n)) ∧ (∀ n, n < 30 → G n = true → Gone B2 (keyN n))))
      case atStart => exact ⟨0, G0, rfl, by omega, ⟨HNV.out.1, HNV.out.2⟩⟩
      case round =>
        obtain ⟨jj, G1, rfl, hjj, HQ⟩ := hrel
        obtain ⟨wB, rfl⟩ : ∃ x, x = wr := ⟨wr, rfl⟩
        have k2 := HQ.out.1.book.cell2
        have hfew := HQ.out.1.dir.wf.few.1
        by_cases hlt : jj < B2.devs.length
        · obtain ⟨kj, rfl⟩ : ∃ kj, gk = kj + 1 := ⟨gk - 1, by omega⟩
          have HJJ := Aside0.mk (And.intro hjj hlt)
          have hltz : (jj : Int) < (B2.devs.length : Int) := by omega
          obtain ⟨dv, hdv⟩ : ∃ dv, B2.devs[jj]? = some dv := ⟨_, List.getElem?_eq_getElem hlt⟩
          have HDV := Aside0.mk hdv
          have HNX := Aside0.mk (fun k => nodeIn_next (k := k) hdv)
          obtain ⟨g, hA1, -⟩ := HQ.out.1.book.loadDK hdv
          subst hA1
          clear hdv
          go_upto_region 17 with fail
          clear k2 hjj hlt
          go_wp2
          go_loopg [12] 30 (fun kx s12 wr => ∃ (nn : Nat) (G : Nat → Bool), s12 = .int .i64 nn ∧ nn + kx = 30 ∧ Aside0 (NvSt w1 wr p B2 bk (some ⟨g, 0, none⟩) c1 A2 c2 rs er gn G ho (fun n => nodeOf B (keyN n)) nw (fun m => nodeIn (B2.devs.take (if m < nn then jj + 1 else jj)) (keyN m)) ∧ (∀ n, n < 30 → G n = true → Gone B2 (keyN n))))
          case atStart => exact ⟨0, G1, rfl, rfl, ⟨HQ.out.1.cast _ (fun n _ => by simp), HQ.out.2⟩⟩
          case round =>
            obtain ⟨nn, G2, rfl, hnn, HR2⟩ := hrel
            obtain ⟨wC, rfl⟩ : ∃ x, x = wr := ⟨wr, rfl⟩
            by_cases h30 : nn < 30
            · obtain ⟨kn, rfl⟩ : ∃ kn, gk = kn + 1 := ⟨gk - 1, by omega⟩
              have HNN := Aside0.mk (And.intro hnn h30)
              have d1 : decide ((nn : Int) < 30) = true := decide_eq_true (by omega)
              have h30z : (nn : Int) < 30 := by omega
              obtain ⟨g', hg', hld⟩ := HR2.out.1.book.loadDK HDV.out
              cases hg'
              have HKY : Aside0 (∀ W, Calls Tryz.prog 18 #[.int .i64 nn] W fun e w' => e = .returned (.agg (encK (keyN nn)).toArray) ∧ Below W.heap.size W w') := ⟨fun W => key_any nn (by have := HNN.out; omega) W⟩
              obtain ⟨ky, hky⟩ : ∃ ky, ky = keyN nn := ⟨_, rfl⟩
              obtain ⟨KA, hKA⟩ : ∃ KA, KA = (encK ky).toArray := ⟨_, rfl⟩
              have HEQ : Aside0 (∀ x : Key, (∀ W, (binOp .eql 34 (.agg (encK x).toArray) (.agg KA)).run Tryz.prog W = .ok (.bool (decide (x = ky))) W) ∧ ∀ op a b W, (eqGuard op 34 a b (.agg (encK x).toArray) (.agg KA)).run Tryz.prog W = .ok () W) := ⟨fun x => by rw [hKA]; exact ⟨eqlK x ky, fun op a b W => guardK op a b x ky W⟩⟩
              rw [← hky, ← hKA] at HKY
              have HKN := Aside0.mk hky
              clear hky hKA
              obtain ⟨he, hgd⟩ := HEQ.out dv.key
              obtain ⟨YA, hYA⟩ : ∃ YA, YA = (encK dv.key).toArray := ⟨_, rfl⟩
              rw [← hYA] at hld he hgd
              have HLD := Aside0.mk hld
              clear hYA hld hnn h30
              go_wp2_with fail
              refine start_ (n := 9) (S := fun W => Below wC.heap.size wC W) (ds := []) #[false, false, false, false, false, false, false, false, false] (by kernel_rfl) rfl rfl (Below.refl _ wC).drew (fun hHeld => ?_)
              generalize World.drew _ = w5 at hHeld ⊢
              refine pure_ (i := 0) (N := (some 54)) (v := ?_) (a' := ?_) #[true, false, false, false, false, false, false, false, false] rfl rfl (by kernel_rfl) (fun _ _ _ h => h) (Or.inl ⟨by rfl, ?_⟩) ?_ ?_
              rotate_left
              · intro w'
                go_simp
                with_reducible rfl
              rotate_left
              · simp only [Act.put, List.setIfInBounds_toArray, List.set_cons_zero, List.set_cons_succ, i64_w, i32_w]
                rfl
              refine pure_ (i := 2) (N := (some 56)) (v := ?_) (a' := ?_) #[true, false, true, false, false, false, false, false, false] rfl rfl (by kernel_rfl) (fun _ _ _ h => h) (Or.inl ⟨by rfl, ?_⟩) ?_ ?_
              rotate_left
              · intro w'
                go_simp
                with_reducible rfl
              rotate_left
              · simp only [Act.put, List.setIfInBounds_toArray, List.set_cons_zero, List.set_cons_succ, i64_w, i32_w]
                rfl
              refine pure_ (i := 6) (N := (some 60)) (v := ?_) (a' := ?_) #[true, false, true, false, false, false, true, false, false] rfl rfl (by kernel_rfl) (fun _ _ _ h => h) (Or.inl ⟨by rfl, ?_⟩) ?_ ?_
              rotate_left
              · intro w'
                go_simp
                with_reducible rfl
              rotate_left
              · simp only [Act.put, List.setIfInBounds_toArray, List.set_cons_zero, List.set_cons_succ, i64_w, i32_w]
                rfl
              refine take_ (i := 1) (N := (some 55)) (v := ?_) (a' := ?_) #[true, true, true, false, false, false, true, false, false] rfl rfl (by kernel_rfl) (fun _ _ _ h => h) (Or.inl ⟨by rfl, ?_⟩) hHeld ?_ ?_
              rotate_left
              · rintro w' hs
                have k2 := (HR2.out.1.book.later hs).cell2
                go_simp
                with_reducible rfl
              rotate_left
              · simp only [Act.put, List.setIfInBounds_toArray, List.set_cons_zero, List.set_cons_succ, i64_w, i32_w]
                rfl
              refine pure_ (i := 3) (N := (some 57)) (v := ?_) (a' := ?_) #[true, true, true, true, false, false, true, false, false] rfl rfl (by kernel_rfl) (fun _ _ _ h => h) (Or.inl ⟨by rfl, ?_⟩) ?_ ?_
              rotate_left
              · intro w'
                go_simp
                with_reducible rfl
              rotate_left
              · simp only [Act.put, List.setIfInBounds_toArray, List.set_cons_zero, List.set_cons_succ, i64_w, i32_w]
                rfl
              refine pure_ (i := 4) (N := (some 58)) (v := ?_) (a' := ?_) #[true, true, true, true, true, false, true, false, false] rfl rfl (by kernel_rfl) (fun _ _ _ h => h) (Or.inl ⟨by rfl, ?_⟩) ?_ ?_
              rotate_left
              · intro w'
                go_simp
                with_reducible rfl
              rotate_left
              · simp only [Act.put, List.setIfInBounds_toArray, List.set_cons_zero, List.set_cons_succ, i64_w, i32_w]
                rfl
              refine take_ (i := 5) (N := (some 59)) (v := _) (a' := ?_) #[true, true, true, true, true, true, true, false, false] rfl rfl (by kernel_rfl) (fun _ _ _ h => h) (Or.inl ⟨by rfl, fun w' hs => yields_load 34 (.tmp 58) _ rfl _ _ rfl _ (HLD.out w' hs)⟩) hHeld ?_ ?_
              rotate_left
              · simp only [Act.put, List.setIfInBounds_toArray, List.set_cons_zero, List.set_cons_succ, i64_w, i32_w]
                rfl
              refine one_ (i := 7) (N := (some 61)) #[true, true, true, true, true, true, true, true, false] rfl rfl (by kernel_rfl) (by decide) (fun K hK => ?_)
              refine goes_ Tryz.func18 (by kernel_rfl) rfl #[.int .i64 nn] (by rfl) rfl rfl (by (try simp only [List.map_toArray, List.map_cons, List.map_nil]); first | done | rfl) ?_
              refine (HKY.out _).mono ?_
              rintro e w5c ⟨rfl, hb⟩
              refine ⟨_, rfl, ?_⟩
              have hS_ := below_step hHeld hb
              clear hb
              refine hK.out _ _ hS_ (fun hHeld => ?_)
              clear hK K
              refine norm_ (a' := ?_) ?_ ?_
              rotate_left
              · show Act.put _ (some 61) _ = _
                simp only [Act.put, List.setIfInBounds_toArray, List.set_cons_zero, List.set_cons_succ, i64_w, i32_w]
                rfl
              refine pure_ (i := 8) (N := (some 62)) (v := ?_) (a' := ?_) #[true, true, true, true, true, true, true, true, true] rfl rfl (by kernel_rfl) (fun _ _ _ h => h) (Or.inl ⟨by rfl, ?_⟩) ?_ ?_
              rotate_left
              · intro w'
                go_simp
                with_reducible rfl
              rotate_left
              · simp only [Act.put, List.setIfInBounds_toArray, List.set_cons_zero, List.set_cons_succ, i64_w, i32_w]
                rfl
              refine done_ (by kernel_rfl) ?_
              have HQ5 := Aside0.mk (HR2.out.1.later hHeld)
              clear hHeld
              by_cases hq : dv.key = ky
              · have HKQ := Aside0.mk hq
                rw [show decide (dv.key = ky) = true from decide_eq_true hq]
                clear hq he hgd
                obtain ⟨hn1, hr1⟩ := HQ5.out.book.devAt HDV.out
                have k2 := HQ5.out.book.cell2
                obtain ⟨wE, hst, ha, hg⟩ := run_store1 Tryz.prog w5c 3 Tryz.sizeOf3 nw nn 27 _ HQ5.out.now HNN.out.2 (.int .i64 dv.node) rfl rfl
                have HST := Aside0.mk hst
                have HE := Aside0.mk (HQ5.out.setNow ha hg (fun m => nodeIn (B2.devs.take (if m < nn + 1 then jj + 1 else jj)) (keyN m)) (fun n hn => by
                    by_cases e : n = nn
                    · subst e
                      rw [if_pos rfl, if_pos (by omega), HNX.out, ← HKN.out, if_pos HKQ.out]
                    · rw [if_neg e]
                      by_cases e2 : n < nn
                      · rw [if_pos e2, if_pos (by omega)]
                      · rw [if_neg e2, if_neg (by omega)]))
                clear hst ha hg
                have k2E := HE.out.book.cell2
                have hrev := (HE.out.book.devAt HDV.out).2
                cases hrv : dv.rev
                · rw [hrv] at hrev hr1
                  clear hrv
                  go_wp2_with ((with_reducible refine at_store 3 (.tmp 70) (.tmp 69) ?_); refine wpList_storeK rfl 3 (.tmp 70) (.tmp 69) rfl rfl _ _ rfl rfl _ HST.out ?_)
                  go_roundg kn
                  case measure => omega
                  case rel => exact ⟨nn + 1, G2, by go_num, by have := HNN.out; omega, ⟨HE.out, HR2.out.2⟩⟩
                · rw [hrv] at hrev hr1
                  obtain ⟨wF, hst, ha, hg⟩ := run_store1 Tryz.prog wE 4 Tryz.sizeOf4 gn nn 26 _ HE.out.gone HNN.out.2 (.bool true) rfl rfl
                  have HST2 := Aside0.mk hst
                  have HF := Aside0.mk (HE.out.setGone ha hg (fun m => if m = nn then true else G2 m) (fun m hm => by split <;> rfl))
                  have HRV := Aside0.mk hrv
                  clear hst ha hg hrv
                  go_wp2_with (first | ((with_reducible refine at_store 3 (.tmp 70) (.tmp 69) ?_); refine wpList_storeK rfl 3 (.tmp 70) (.tmp 69) rfl rfl _ _ rfl rfl _ HST.out ?_) | ((with_reducible refine at_store 4 (.tmp 78) (.const (.bool true)) ?_); refine wpList_storeK rfl 4 (.tmp 78) (.const (.bool true)) rfl rfl _ _ rfl rfl _ HST2.out ?_))
                  go_roundg kn
                  case measure => omega
                  case rel => exact ⟨nn + 1, _, by go_num, by have := HNN.out; omega, ⟨HF.out, fun n hn hG => by
                      by_cases e : n = nn
                      · subst e
                        exact .inr ⟨dv, List.mem_of_getElem? HDV.out, HKQ.out.trans HKN.out, HRV.out⟩
                      · rw [if_neg e] at hG
                        exact HR2.out.2 n hn hG⟩⟩
              · have HKQ := Aside0.mk hq
                rw [show decide (dv.key = ky) = false from decide_eq_false hq]
                clear hq he hgd
                go_wp2_with fail
                go_roundg kn
                case measure => omega
                case rel => exact ⟨nn + 1, G2, by go_num, by have := HNN.out; omega, ⟨HQ5.out.cast _ (fun n hn => by
                    by_cases e : n < nn
                    · rw [if_pos e, if_pos (by omega)]
                    · rw [if_neg e]
                      by_cases e2 : n = nn
                      · subst e2
                        rw [if_pos (by omega), HNX.out, ← HKN.out, if_neg HKQ.out]
                      · rw [if_neg (by omega)]), HR2.out.2⟩⟩
            · have d1 : decide ((nn : Int) < 30) = false := decide_eq_false (by omega)
              have hn30 : nn = 30 := by omega
              subst hn30
              go_wp2_with fail
              go_roundg kj
              case measure => have := HJJ.out; omega
              case rel => exact ⟨jj + 1, G2, by go_num, by have := HJJ.out; omega, ⟨HR2.out.1.cast _ (fun n hn => by rw [if_pos hn]), HR2.out.2⟩⟩
        · have hltz : ¬ (jj : Int) < (B2.devs.length : Int) := by omega
          have hje : jj = B2.devs.length := by omega
          subst hje
          go_upto_region 24 with fail
          clear k2 hltz hjj hlt hfew
          have HQ4 := Aside0.mk (HQ.out.1.cast (fun n => nodeOf B2 (keyN n)) (fun n _ => by rw [List.take_length, nodeIn_all HQ.out.1.dir.wf]))
          go_wp2
          go_loopg [13] 30 (fun kx s13 wr => ∃ (nn : Nat) (G : Nat → Bool), s13 = .int .i64 nn ∧ nn + kx = 30 ∧ Aside0 (NvSt w1 wr p B2 bk A1 c1 A2 c2 rs er gn G ho (fun n => nodeOf B (keyN n)) nw (fun n => nodeOf B2 (keyN n)) ∧ (∀ n, n < 30 → G n = true → Gone B2 (keyN n))))
          case atStart => exact ⟨0, G1, rfl, rfl, ⟨HQ4.out, HQ.out.2⟩⟩
          case round =>
            obtain ⟨nn, G2, rfl, hnn, HR2⟩ := hrel
            obtain ⟨wC, rfl⟩ : ∃ x, x = wr := ⟨wr, rfl⟩
            by_cases h30 : nn < 30
            · obtain ⟨kn, rfl⟩ : ∃ kn, gk = kn + 1 := ⟨gk - 1, by omega⟩
              have HNN := Aside0.mk (And.intro hnn h30)
              have d1 : decide ((nn : Int) < 30) = true := decide_eq_true (by omega)
              have h30z : (nn : Int) < 30 := by omega
              have HVL := Aside0.mk (fun m (h : validOf B2 (keyN nn) 0 = some m) => valid_live HR2.out.1.dir.wf h)
              obtain ⟨hv, hhv⟩ : ∃ hv, hv = nodeOf B (keyN nn) := ⟨_, rfl⟩
              obtain ⟨nv, hnv⟩ : ∃ nv, nv = nodeOf B2 (keyN nn) := ⟨_, rfl⟩
              have n1 : 0 ≤ hv := by rw [hhv]; exact nodeOf_nonneg HWB.out _
              have n2 : 0 ≤ nv := by rw [hnv]; exact nodeOf_nonneg HR2.out.1.dir.wf _
              have HC : Aside0 (∀ W, Below wC.heap.size wC W → W.cell? ⟨ho, nn, none⟩ = some (.int .i64 hv) ∧ W.cell? ⟨nw, nn, none⟩ = some (.int .i64 nv)) := ⟨fun W hb => ⟨by rw [hhv]; exact (HR2.out.1.later hb).holds.cell nn h30, by rw [hnv]; exact (HR2.out.1.later hb).now.cell nn h30⟩⟩
              have HHV := Aside0.mk (And.intro hhv hnv)
              have hcm := HCN.out nn
              have hgm := HGM.out nn
              rw [← hhv, ← hnv] at hcm hgm
              have HCM := Aside0.mk (And.intro hcm hgm)
              clear hhv hnv hcm hgm hnn h30
              have hb0 := Below.refl wC.heap.size wC
              go_upto_region 27 with fail
              by_cases hz : hv = 0
              · subst hz
                refine start_ (n := 13) (S := fun W => Below wC.heap.size wC W) (ds := []) #[false, false, false, false, false, false, false, false, false, false, false, false, false] (by kernel_rfl) rfl rfl hb0.drew (fun hHeld => ?_)
                generalize World.drew _ = w5 at hHeld ⊢
                refine pure_ (i := 0) (N := (some 83)) (v := ?_) (a' := ?_) #[true, false, false, false, false, false, false, false, false, false, false, false, false] rfl rfl (by kernel_rfl) (fun _ _ _ h => h) (Or.inl ⟨by rfl, ?_⟩) ?_ ?_
                rotate_left
                · intro w'
                  go_simp
                  with_reducible rfl
                rotate_left
                · simp only [Act.put, List.setIfInBounds_toArray, List.set_cons_zero, List.set_cons_succ, i64_w, i32_w]
                  rfl
                refine pure_ (i := 1) (N := (some 84)) (v := ?_) (a' := ?_) #[true, true, false, false, false, false, false, false, false, false, false, false, false] rfl rfl (by kernel_rfl) (fun _ _ _ h => h) (Or.inl ⟨by rfl, ?_⟩) ?_ ?_
                rotate_left
                · intro w'
                  go_simp
                  with_reducible rfl
                rotate_left
                · simp only [Act.put, List.setIfInBounds_toArray, List.set_cons_zero, List.set_cons_succ, i64_w, i32_w]
                  rfl
                refine take_ (i := 2) (N := (some 85)) (v := ?_) (a' := ?_) #[true, true, true, false, false, false, false, false, false, false, false, false, false] rfl rfl (by kernel_rfl) (fun _ _ _ h => h) (Or.inl ⟨by rfl, ?_⟩) hHeld ?_ ?_
                rotate_left
                · rintro w' hs
                  obtain ⟨ch, cn⟩ := HC.out _ hs
                  go_simp
                  with_reducible rfl
                rotate_left
                · simp only [Act.put, List.setIfInBounds_toArray, List.set_cons_zero, List.set_cons_succ, i64_w, i32_w]
                  rfl
                refine pure_ (i := 3) (N := (some 86)) (v := ?_) (a' := ?_) #[true, true, true, true, false, false, false, false, false, false, false, false, false] rfl rfl (by kernel_rfl) (fun _ _ _ h => h) (Or.inl ⟨by rfl, ?_⟩) ?_ ?_
                rotate_left
                · intro w'
                  go_simp
                  with_reducible rfl
                rotate_left
                · simp only [Act.put, List.setIfInBounds_toArray, List.set_cons_zero, List.set_cons_succ, i64_w, i32_w]
                  rfl
                refine pure_ (i := 4) (N := (some 87)) (v := ?_) (a' := ?_) #[true, true, true, true, true, false, false, false, false, false, false, false, false] rfl rfl (by kernel_rfl) (fun _ _ _ h => h) (Or.inl ⟨by rfl, ?_⟩) ?_ ?_
                rotate_left
                · intro w'
                  go_simp
                  with_reducible rfl
                rotate_left
                · simp only [Act.put, List.setIfInBounds_toArray, List.set_cons_zero, List.set_cons_succ, i64_w, i32_w]
                  rfl
                refine pure_ (i := 5) (N := (some 88)) (v := undef) (a' := ?_) #[true, true, true, true, true, true, false, false, false, false, false, false, false] rfl rfl (by kernel_rfl) (fun _ _ _ h => h) (Or.inr ⟨by rfl, rfl⟩) ?_ ?_
                rotate_left
                · simp only [Act.put, List.setIfInBounds_toArray, List.set_cons_zero, List.set_cons_succ, i64_w, i32_w]
                  rfl
                refine pure_ (i := 6) (N := (some 89)) (v := undef) (a' := ?_) #[true, true, true, true, true, true, true, false, false, false, false, false, false] rfl rfl (by kernel_rfl) (fun _ _ _ h => h) (Or.inr ⟨by rfl, rfl⟩) ?_ ?_
                rotate_left
                · simp only [Act.put, List.setIfInBounds_toArray, List.set_cons_zero, List.set_cons_succ, i64_w, i32_w]
                  rfl
                refine pure_ (i := 7) (N := (some 90)) (v := undef) (a' := ?_) #[true, true, true, true, true, true, true, true, false, false, false, false, false] rfl rfl (by kernel_rfl) (fun _ _ _ h => h) (Or.inr ⟨by rfl, rfl⟩) ?_ ?_
                rotate_left
                · simp only [Act.put, List.setIfInBounds_toArray, List.set_cons_zero, List.set_cons_succ, i64_w, i32_w]
                  rfl
                refine pure_ (i := 8) (N := (some 91)) (v := undef) (a' := ?_) #[true, true, true, true, true, true, true, true, true, false, false, false, false] rfl rfl (by kernel_rfl) (fun _ _ _ h => h) (Or.inr ⟨by rfl, rfl⟩) ?_ ?_
                rotate_left
                · simp only [Act.put, List.setIfInBounds_toArray, List.set_cons_zero, List.set_cons_succ, i64_w, i32_w]
                  rfl
                refine pure_ (i := 9) (N := (some 92)) (v := undef) (a' := ?_) #[true, true, true, true, true, true, true, true, true, true, false, false, false] rfl rfl (by kernel_rfl) (fun _ _ _ h => h) (Or.inr ⟨by rfl, rfl⟩) ?_ ?_
                rotate_left
                · simp only [Act.put, List.setIfInBounds_toArray, List.set_cons_zero, List.set_cons_succ, i64_w, i32_w]
                  rfl
                refine pure_ (i := 10) (N := (some 93)) (v := undef) (a' := ?_) #[true, true, true, true, true, true, true, true, true, true, true, false, false] rfl rfl (by kernel_rfl) (fun _ _ _ h => h) (Or.inr ⟨by rfl, rfl⟩) ?_ ?_
                rotate_left
                · simp only [Act.put, List.setIfInBounds_toArray, List.set_cons_zero, List.set_cons_succ, i64_w, i32_w]
                  rfl
                refine pure_ (i := 11) (N := (some 94)) (v := undef) (a' := ?_) #[true, true, true, true, true, true, true, true, true, true, true, true, false] rfl rfl (by kernel_rfl) (fun _ _ _ h => h) (Or.inr ⟨by rfl, rfl⟩) ?_ ?_
                rotate_left
                · simp only [Act.put, List.setIfInBounds_toArray, List.set_cons_zero, List.set_cons_succ, i64_w, i32_w]
                  rfl
                refine pure_ (i := 12) (N := (some 95)) (v := ?_) (a' := ?_) #[true, true, true, true, true, true, true, true, true, true, true, true, true] rfl rfl (by kernel_rfl) (fun _ _ _ h => h) (Or.inl ⟨by rfl, ?_⟩) ?_ ?_
                rotate_left
                · intro w'
                  go_simp
                  with_reducible rfl
                rotate_left
                · simp only [Act.put, List.setIfInBounds_toArray, List.set_cons_zero, List.set_cons_succ, i64_w, i32_w]
                  rfl
                refine done_ (by kernel_rfl) ?_
                have HB := Aside0.mk hHeld
                clear hHeld hb0
                have HX := Aside0.mk (HR2.out.1.later HB.out)
                obtain ⟨ch, cn⟩ := HC.out _ HB.out
                have cg := HX.out.gone.cell nn HNN.out.2
                have cr := HX.out.cellR
                by_cases hy : nv = 0
                · subst hy
                  go_upto_region 31 with fail
                  have HGX := Aside0.mk HR2.out.2
                  clear ch cn cg cr n1 n2
                  have HVAL : Aside0 (∀ W, Below w5.heap.size w5 W → Calls Tryz.prog 19 #[.agg (bookCells B2 A1 c1 A2 c2).toArray, .agg (encK (keyN nn)).toArray, .int .i64 0] W fun e w' => e = .returned (.tuple #[.int .i64 ((validOf B2 (keyN nn) 0).getD 0), .bool (validOf B2 (keyN nn) 0).isSome]) ∧ Below W.heap.size W w') := ⟨fun W hb => by
                    have := valid_any B2 (keyN nn) 0 _ 0 W ⟨A1, c1, A2, c2, rfl, HX.out.book.lists.below hb⟩ HX.out.dir.wf.few
                    rw [validRes_parts] at this
                    exact this⟩
                  have HLB : Aside0 (∀ W, Below w5.heap.size w5 W → (Instr.loadAt 43 (.pointer (some ⟨bk, 0, none⟩))).run Tryz.prog W = .ok (.agg (bookCells B2 A1 c1 A2 c2).toArray) W) := ⟨fun W hb => run_loadAtK Tryz.prog W 43 5 Tryz.isAgg43 Tryz.sizeOf43 bk 0 (bookCells B2 A1 c1 A2 c2) rfl (cells_of_heap (HX.out.book.later hb).at_)⟩
                  have HKY : Aside0 (∀ W, Calls Tryz.prog 18 #[.int .i64 nn] W fun e w' => e = .returned (.agg (encK (keyN nn)).toArray) ∧ Below W.heap.size W w') := ⟨fun W => key_any nn (by have := HNN.out; omega) W⟩
                  obtain ⟨vm, hvm⟩ : ∃ vm, vm = (validOf B2 (keyN nn) 0).getD 0 := ⟨_, rfl⟩
                  obtain ⟨vs, hvs⟩ : ∃ vs, vs = (validOf B2 (keyN nn) 0).isSome := ⟨_, rfl⟩
                  obtain ⟨KA, hKA⟩ : ∃ KA, KA = (encK (keyN nn)).toArray := ⟨_, rfl⟩
                  obtain ⟨BA, hBA⟩ : ∃ BA, BA = (bookCells B2 A1 c1 A2 c2).toArray := ⟨_, rfl⟩
                  rw [← hvm, ← hvs, ← hKA, ← hBA] at HVAL
                  rw [← hKA] at HKY
                  rw [← hBA] at HLB
                  have HVS := Aside0.mk hvs
                  clear hvm hvs hKA hBA
                  refine start_ (n := 9) (S := fun W => Below w5.heap.size w5 W) (ds := []) #[false, false, false, false, false, false, false, false, false] (by kernel_rfl) rfl rfl (Below.refl w5.heap.size w5).drew (fun hHeld => ?_)
                  generalize World.drew _ = v5 at hHeld ⊢
                  refine pure_ (i := 1) (N := (some 120)) (v := ?_) (a' := ?_) #[false, true, false, false, false, false, false, false, false] rfl rfl (by kernel_rfl) (fun _ _ _ h => h) (Or.inl ⟨by rfl, ?_⟩) ?_ ?_
                  rotate_left
                  · intro w'
                    go_simp
                    with_reducible rfl
                  rotate_left
                  · simp only [Act.put, List.setIfInBounds_toArray, List.set_cons_zero, List.set_cons_succ, i64_w, i32_w]
                    rfl
                  refine take_ (i := 0) (N := (some 119)) (v := _) (a' := ?_) #[true, true, false, false, false, false, false, false, false] rfl rfl (by kernel_rfl) (fun _ _ _ h => h) (Or.inl ⟨by rfl, fun w' hs => yields_load 43 (.tmp 9) _ rfl _ _ rfl _ (HLB.out w' hs)⟩) hHeld ?_ ?_
                  rotate_left
                  · simp only [Act.put, List.setIfInBounds_toArray, List.set_cons_zero, List.set_cons_succ, i64_w, i32_w]
                    rfl
                  refine one_ (i := 2) (N := (some 121)) #[true, true, true, false, false, false, false, false, false] rfl rfl (by kernel_rfl) (by decide) (fun K hK => ?_)
                  refine goes_ Tryz.func18 (by kernel_rfl) rfl #[.int .i64 nn] (by rfl) rfl rfl (by (try simp only [List.map_toArray, List.map_cons, List.map_nil]); first | done | rfl) ?_
                  refine (HKY.out _).mono ?_
                  rintro e v5c ⟨rfl, hb⟩
                  refine ⟨_, rfl, ?_⟩
                  have hS_ := below_step hHeld hb
                  clear hb
                  refine hK.out _ _ hS_ (fun hHeld => ?_)
                  clear hK K
                  refine norm_ (a' := ?_) ?_ ?_
                  rotate_left
                  · show Act.put _ (some 121) _ = _
                    simp only [Act.put, List.setIfInBounds_toArray, List.set_cons_zero, List.set_cons_succ, i64_w, i32_w]
                    rfl
                  refine one_ (i := 3) (N := (some 122)) #[true, true, true, true, false, false, false, false, false] rfl rfl (by kernel_rfl) (by decide) (fun K hK => ?_)
                  refine goes_ Tryz.func19 (by kernel_rfl) rfl #[.agg BA, .agg KA, .int .i64 0] (by rfl) rfl rfl (by (try simp only [List.map_toArray, List.map_cons, List.map_nil]); first | done | rfl) ?_
                  refine (HVAL.out _ hHeld).mono ?_
                  rintro e v5c ⟨rfl, hb⟩
                  refine ⟨_, rfl, ?_⟩
                  have hS_ := below_step hHeld hb
                  clear hb
                  refine hK.out _ _ hS_ (fun hHeld => ?_)
                  clear hK K
                  refine norm_ (a' := ?_) ?_ ?_
                  rotate_left
                  · show Act.put _ (some 122) _ = _
                    simp only [Act.put, List.setIfInBounds_toArray, List.set_cons_zero, List.set_cons_succ, i64_w, i32_w]
                    rfl
                  refine pure_ (i := 4) (N := (some 118)) (v := ?_) (a' := ?_) #[true, true, true, true, true, false, false, false, false] rfl rfl (by kernel_rfl) (fun _ _ _ h => h) (Or.inl ⟨by rfl, ?_⟩) ?_ ?_
                  rotate_left
                  · intro w'
                    go_simp
                    with_reducible rfl
                  rotate_left
                  · simp only [Act.put, List.setIfInBounds_toArray, List.set_cons_zero, List.set_cons_succ, i64_w, i32_w]
                    rfl
                  refine pure_ (i := 5) (N := (some 123)) (v := ?_) (a' := ?_) #[true, true, true, true, true, true, false, false, false] rfl rfl (by kernel_rfl) (fun _ _ _ h => h) (Or.inl ⟨by rfl, ?_⟩) ?_ ?_
                  rotate_left
                  · intro w'
                    go_simp
                    with_reducible rfl
                  rotate_left
                  · simp only [Act.put, List.setIfInBounds_toArray, List.set_cons_zero, List.set_cons_succ, i64_w, i32_w]
                    rfl
                  refine pure_ (i := 6) (N := (some 124)) (v := ?_) (a' := ?_) #[true, true, true, true, true, true, true, false, false] rfl rfl (by kernel_rfl) (fun _ _ _ h => h) (Or.inl ⟨by rfl, ?_⟩) ?_ ?_
                  rotate_left
                  · intro w'
                    go_simp
                    with_reducible rfl
                  rotate_left
                  · simp only [Act.put, List.setIfInBounds_toArray, List.set_cons_zero, List.set_cons_succ, i64_w, i32_w]
                    rfl
                  refine pure_ (i := 7) (N := (some 14)) (v := ?_) (a' := ?_) #[true, true, true, true, true, true, true, true, false] rfl rfl (by kernel_rfl) (fun _ _ _ h => h) (Or.inl ⟨by rfl, ?_⟩) ?_ ?_
                  rotate_left
                  · intro w'
                    go_simp
                    with_reducible rfl
                  rotate_left
                  · simp only [Act.put, List.setIfInBounds_toArray, List.set_cons_zero, List.set_cons_succ, i64_w, i32_w]
                    rfl
                  refine pure_ (i := 8) (N := (some 15)) (v := ?_) (a' := ?_) #[true, true, true, true, true, true, true, true, true] rfl rfl (by kernel_rfl) (fun _ _ _ h => h) (Or.inl ⟨by rfl, ?_⟩) ?_ ?_
                  rotate_left
                  · intro w'
                    go_simp
                    with_reducible rfl
                  rotate_left
                  · simp only [Act.put, List.setIfInBounds_toArray, List.set_cons_zero, List.set_cons_succ, i64_w, i32_w]
                    rfl
                  refine done_ (by kernel_rfl) ?_
                  have HY := Aside0.mk (HX.out.later hHeld)
                  clear hHeld
                  have cg := HY.out.gone.cell nn HNN.out.2
                  have cn := HY.out.now.cell nn HNN.out.2
                  cases vs
                  · clear cg cn
                    go_wp2_with fail
                    go_roundg kn
                    case measure => omega
                    case rel => exact ⟨nn + 1, _, by go_num, by have := HNN.out; omega, ⟨HY.out, HGX.out⟩⟩
                  · obtain ⟨m, hm⟩ := Option.isSome_iff_exists.1 HVS.out.symm
                    obtain ⟨v1, v2, v3⟩ := HVL.out m hm
                    have hG : G2 nn = false := by
                      cases hG : G2 nn
                      · rfl
                      · exact absurd (HGX.out nn HNN.out.2 hG) v1
                    first
                    | rw [hG] at cg
                    | rw [show (if nn = nn then true else G2 nn) = false from hG] at cg
                    rw [v2] at cn
                    have v4 : ¬ m = 0 := by omega
                    have v5 : (m == 0) = false := beq_eq_false_iff_ne.2 v4
                    clear hG v1 v2 hm
                    go_wp2_with fail
                    go_roundg kn
                    case measure => omega
                    case rel => exact ⟨nn + 1, _, by go_num, by have := HNN.out; omega, ⟨HY.out, HGX.out⟩⟩
                · obtain ⟨e0, eg⟩ := HCM.out.1 rfl hy
                  have y1 : 0 < nv := by omega
                  have y2 : decide (0 < nv) = true := decide_eq_true y1
                  have hG : G2 nn = false := by
                    cases hG : G2 nn
                    · rfl
                    · exact absurd (HR2.out.2 nn HNN.out.2 hG) eg
                  rw [hG] at cg
                  rw [e0] at cr
                  clear hG e0 eg
                  go_upto_region 31 with fail
                  have HGX := Aside0.mk HR2.out.2
                  clear ch cn cg cr n1 n2 y1 y2
                  have HVAL : Aside0 (∀ W, Below w5.heap.size w5 W → Calls Tryz.prog 19 #[.agg (bookCells B2 A1 c1 A2 c2).toArray, .agg (encK (keyN nn)).toArray, .int .i64 0] W fun e w' => e = .returned (.tuple #[.int .i64 ((validOf B2 (keyN nn) 0).getD 0), .bool (validOf B2 (keyN nn) 0).isSome]) ∧ Below W.heap.size W w') := ⟨fun W hb => by
                    have := valid_any B2 (keyN nn) 0 _ 0 W ⟨A1, c1, A2, c2, rfl, HX.out.book.lists.below hb⟩ HX.out.dir.wf.few
                    rw [validRes_parts] at this
                    exact this⟩
                  have HLB : Aside0 (∀ W, Below w5.heap.size w5 W → (Instr.loadAt 43 (.pointer (some ⟨bk, 0, none⟩))).run Tryz.prog W = .ok (.agg (bookCells B2 A1 c1 A2 c2).toArray) W) := ⟨fun W hb => run_loadAtK Tryz.prog W 43 5 Tryz.isAgg43 Tryz.sizeOf43 bk 0 (bookCells B2 A1 c1 A2 c2) rfl (cells_of_heap (HX.out.book.later hb).at_)⟩
                  have HKY : Aside0 (∀ W, Calls Tryz.prog 18 #[.int .i64 nn] W fun e w' => e = .returned (.agg (encK (keyN nn)).toArray) ∧ Below W.heap.size W w') := ⟨fun W => key_any nn (by have := HNN.out; omega) W⟩
                  obtain ⟨vm, hvm⟩ : ∃ vm, vm = (validOf B2 (keyN nn) 0).getD 0 := ⟨_, rfl⟩
                  obtain ⟨vs, hvs⟩ : ∃ vs, vs = (validOf B2 (keyN nn) 0).isSome := ⟨_, rfl⟩
                  obtain ⟨KA, hKA⟩ : ∃ KA, KA = (encK (keyN nn)).toArray := ⟨_, rfl⟩
                  obtain ⟨BA, hBA⟩ : ∃ BA, BA = (bookCells B2 A1 c1 A2 c2).toArray := ⟨_, rfl⟩
                  rw [← hvm, ← hvs, ← hKA, ← hBA] at HVAL
                  rw [← hKA] at HKY
                  rw [← hBA] at HLB
                  have HVS := Aside0.mk hvs
                  clear hvm hvs hKA hBA
                  refine start_ (n := 9) (S := fun W => Below w5.heap.size w5 W) (ds := []) #[false, false, false, false, false, false, false, false, false] (by kernel_rfl) rfl rfl (Below.refl w5.heap.size w5).drew (fun hHeld => ?_)
                  generalize World.drew _ = v5 at hHeld ⊢
                  refine pure_ (i := 1) (N := (some 120)) (v := ?_) (a' := ?_) #[false, true, false, false, false, false, false, false, false] rfl rfl (by kernel_rfl) (fun _ _ _ h => h) (Or.inl ⟨by rfl, ?_⟩) ?_ ?_
                  rotate_left
                  · intro w'
                    go_simp
                    with_reducible rfl
                  rotate_left
                  · simp only [Act.put, List.setIfInBounds_toArray, List.set_cons_zero, List.set_cons_succ, i64_w, i32_w]
                    rfl
                  refine take_ (i := 0) (N := (some 119)) (v := _) (a' := ?_) #[true, true, false, false, false, false, false, false, false] rfl rfl (by kernel_rfl) (fun _ _ _ h => h) (Or.inl ⟨by rfl, fun w' hs => yields_load 43 (.tmp 9) _ rfl _ _ rfl _ (HLB.out w' hs)⟩) hHeld ?_ ?_
                  rotate_left
                  · simp only [Act.put, List.setIfInBounds_toArray, List.set_cons_zero, List.set_cons_succ, i64_w, i32_w]
                    rfl
                  refine one_ (i := 2) (N := (some 121)) #[true, true, true, false, false, false, false, false, false] rfl rfl (by kernel_rfl) (by decide) (fun K hK => ?_)
                  refine goes_ Tryz.func18 (by kernel_rfl) rfl #[.int .i64 nn] (by rfl) rfl rfl (by (try simp only [List.map_toArray, List.map_cons, List.map_nil]); first | done | rfl) ?_
                  refine (HKY.out _).mono ?_
                  rintro e v5c ⟨rfl, hb⟩
                  refine ⟨_, rfl, ?_⟩
                  have hS_ := below_step hHeld hb
                  clear hb
                  refine hK.out _ _ hS_ (fun hHeld => ?_)
                  clear hK K
                  refine norm_ (a' := ?_) ?_ ?_
                  rotate_left
                  · show Act.put _ (some 121) _ = _
                    simp only [Act.put, List.setIfInBounds_toArray, List.set_cons_zero, List.set_cons_succ, i64_w, i32_w]
                    rfl
                  refine one_ (i := 3) (N := (some 122)) #[true, true, true, true, false, false, false, false, false] rfl rfl (by kernel_rfl) (by decide) (fun K hK => ?_)
                  refine goes_ Tryz.func19 (by kernel_rfl) rfl #[.agg BA, .agg KA, .int .i64 0] (by rfl) rfl rfl (by (try simp only [List.map_toArray, List.map_cons, List.map_nil]); first | done | rfl) ?_
                  refine (HVAL.out _ hHeld).mono ?_
                  rintro e v5c ⟨rfl, hb⟩
                  refine ⟨_, rfl, ?_⟩
                  have hS_ := below_step hHeld hb
                  clear hb
                  refine hK.out _ _ hS_ (fun hHeld => ?_)
                  clear hK K
                  refine norm_ (a' := ?_) ?_ ?_
                  rotate_left
                  · show Act.put _ (some 122) _ = _
                    simp only [Act.put, List.setIfInBounds_toArray, List.set_cons_zero, List.set_cons_succ, i64_w, i32_w]
                    rfl
                  refine pure_ (i := 4) (N := (some 118)) (v := ?_) (a' := ?_) #[true, true, true, true, true, false, false, false, false] rfl rfl (by kernel_rfl) (fun _ _ _ h => h) (Or.inl ⟨by rfl, ?_⟩) ?_ ?_
                  rotate_left
                  · intro w'
                    go_simp
                    with_reducible rfl
                  rotate_left
                  · simp only [Act.put, List.setIfInBounds_toArray, List.set_cons_zero, List.set_cons_succ, i64_w, i32_w]
                    rfl
                  refine pure_ (i := 5) (N := (some 123)) (v := ?_) (a' := ?_) #[true, true, true, true, true, true, false, false, false] rfl rfl (by kernel_rfl) (fun _ _ _ h => h) (Or.inl ⟨by rfl, ?_⟩) ?_ ?_
                  rotate_left
                  · intro w'
                    go_simp
                    with_reducible rfl
                  rotate_left
                  · simp only [Act.put, List.setIfInBounds_toArray, List.set_cons_zero, List.set_cons_succ, i64_w, i32_w]
                    rfl
                  refine pure_ (i := 6) (N := (some 124)) (v := ?_) (a' := ?_) #[true, true, true, true, true, true, true, false, false] rfl rfl (by kernel_rfl) (fun _ _ _ h => h) (Or.inl ⟨by rfl, ?_⟩) ?_ ?_
                  rotate_left
                  · intro w'
                    go_simp
                    with_reducible rfl
                  rotate_left
                  · simp only [Act.put, List.setIfInBounds_toArray, List.set_cons_zero, List.set_cons_succ, i64_w, i32_w]
                    rfl
                  refine pure_ (i := 7) (N := (some 14)) (v := ?_) (a' := ?_) #[true, true, true, true, true, true, true, true, false] rfl rfl (by kernel_rfl) (fun _ _ _ h => h) (Or.inl ⟨by rfl, ?_⟩) ?_ ?_
                  rotate_left
                  · intro w'
                    go_simp
                    with_reducible rfl
                  rotate_left
                  · simp only [Act.put, List.setIfInBounds_toArray, List.set_cons_zero, List.set_cons_succ, i64_w, i32_w]
                    rfl
                  refine pure_ (i := 8) (N := (some 15)) (v := ?_) (a' := ?_) #[true, true, true, true, true, true, true, true, true] rfl rfl (by kernel_rfl) (fun _ _ _ h => h) (Or.inl ⟨by rfl, ?_⟩) ?_ ?_
                  rotate_left
                  · intro w'
                    go_simp
                    with_reducible rfl
                  rotate_left
                  · simp only [Act.put, List.setIfInBounds_toArray, List.set_cons_zero, List.set_cons_succ, i64_w, i32_w]
                    rfl
                  refine done_ (by kernel_rfl) ?_
                  have HY := Aside0.mk (HX.out.later hHeld)
                  clear hHeld
                  have cg := HY.out.gone.cell nn HNN.out.2
                  have cn := HY.out.now.cell nn HNN.out.2
                  cases vs
                  · clear cg cn
                    go_wp2_with fail
                    go_roundg kn
                    case measure => omega
                    case rel => exact ⟨nn + 1, _, by go_num, by have := HNN.out; omega, ⟨HY.out, HGX.out⟩⟩
                  · obtain ⟨m, hm⟩ := Option.isSome_iff_exists.1 HVS.out.symm
                    obtain ⟨v1, v2, v3⟩ := HVL.out m hm
                    have hG : G2 nn = false := by
                      cases hG : G2 nn
                      · rfl
                      · exact absurd (HGX.out nn HNN.out.2 hG) v1
                    first
                    | rw [hG] at cg
                    | rw [show (if nn = nn then true else G2 nn) = false from hG] at cg
                    rw [v2] at cn
                    have v4 : ¬ m = 0 := by omega
                    have v5 : (m == 0) = false := beq_eq_false_iff_ne.2 v4
                    clear hG v1 v2 hm
                    go_wp2_with fail
                    go_roundg kn
                    case measure => omega
                    case rel => exact ⟨nn + 1, _, by go_num, by have := HNN.out; omega, ⟨HY.out, HGX.out⟩⟩
              · have z1 : 0 < hv := by omega
                have z2 : decide (0 < hv) = true := decide_eq_true z1
                have z3 : (hv == 0) = false := beq_eq_false_iff_ne.2 hz
                by_cases hy : nv = hv
                · subst hy
                  have HQZ := Aside0.mk hz
                  clear hz
                  refine start_ (n := 13) (S := fun W => Below wC.heap.size wC W) (ds := []) #[false, false, false, false, false, false, false, false, false, false, false, false, false] (by kernel_rfl) rfl rfl hb0.drew (fun hHeld => ?_)
                  generalize World.drew _ = w5 at hHeld ⊢
                  refine pure_ (i := 0) (N := (some 83)) (v := ?_) (a' := ?_) #[true, false, false, false, false, false, false, false, false, false, false, false, false] rfl rfl (by kernel_rfl) (fun _ _ _ h => h) (Or.inl ⟨by rfl, ?_⟩) ?_ ?_
                  rotate_left
                  · intro w'
                    go_simp
                    with_reducible rfl
                  rotate_left
                  · simp only [Act.put, List.setIfInBounds_toArray, List.set_cons_zero, List.set_cons_succ, i64_w, i32_w]
                    rfl
                  refine pure_ (i := 1) (N := (some 84)) (v := ?_) (a' := ?_) #[true, true, false, false, false, false, false, false, false, false, false, false, false] rfl rfl (by kernel_rfl) (fun _ _ _ h => h) (Or.inl ⟨by rfl, ?_⟩) ?_ ?_
                  rotate_left
                  · intro w'
                    go_simp
                    with_reducible rfl
                  rotate_left
                  · simp only [Act.put, List.setIfInBounds_toArray, List.set_cons_zero, List.set_cons_succ, i64_w, i32_w]
                    rfl
                  refine take_ (i := 2) (N := (some 85)) (v := ?_) (a' := ?_) #[true, true, true, false, false, false, false, false, false, false, false, false, false] rfl rfl (by kernel_rfl) (fun _ _ _ h => h) (Or.inl ⟨by rfl, ?_⟩) hHeld ?_ ?_
                  rotate_left
                  · rintro w' hs
                    obtain ⟨ch, cn⟩ := HC.out _ hs
                    go_simp
                    with_reducible rfl
                  rotate_left
                  · simp only [Act.put, List.setIfInBounds_toArray, List.set_cons_zero, List.set_cons_succ, i64_w, i32_w]
                    rfl
                  refine pure_ (i := 3) (N := (some 86)) (v := ?_) (a' := ?_) #[true, true, true, true, false, false, false, false, false, false, false, false, false] rfl rfl (by kernel_rfl) (fun _ _ _ h => h) (Or.inl ⟨by rfl, ?_⟩) ?_ ?_
                  rotate_left
                  · intro w'
                    go_simp
                    with_reducible rfl
                  rotate_left
                  · simp only [Act.put, List.setIfInBounds_toArray, List.set_cons_zero, List.set_cons_succ, i64_w, i32_w]
                    rfl
                  refine pure_ (i := 4) (N := (some 87)) (v := ?_) (a' := ?_) #[true, true, true, true, true, false, false, false, false, false, false, false, false] rfl rfl (by kernel_rfl) (fun _ _ _ h => h) (Or.inl ⟨by rfl, ?_⟩) ?_ ?_
                  rotate_left
                  · intro w'
                    go_simp
                    with_reducible rfl
                  rotate_left
                  · simp only [Act.put, List.setIfInBounds_toArray, List.set_cons_zero, List.set_cons_succ, i64_w, i32_w]
                    rfl
                  refine pure_ (i := 5) (N := (some 88)) (v := ?_) (a' := ?_) #[true, true, true, true, true, true, false, false, false, false, false, false, false] rfl rfl (by kernel_rfl) (fun _ _ _ h => h) (Or.inl ⟨by rfl, ?_⟩) ?_ ?_
                  rotate_left
                  · intro w'
                    go_simp
                    with_reducible rfl
                  rotate_left
                  · simp only [Act.put, List.setIfInBounds_toArray, List.set_cons_zero, List.set_cons_succ, i64_w, i32_w]
                    rfl
                  refine pure_ (i := 6) (N := (some 89)) (v := ?_) (a' := ?_) #[true, true, true, true, true, true, true, false, false, false, false, false, false] rfl rfl (by kernel_rfl) (fun _ _ _ h => h) (Or.inl ⟨by rfl, ?_⟩) ?_ ?_
                  rotate_left
                  · intro w'
                    go_simp
                    with_reducible rfl
                  rotate_left
                  · simp only [Act.put, List.setIfInBounds_toArray, List.set_cons_zero, List.set_cons_succ, i64_w, i32_w]
                    rfl
                  refine pure_ (i := 8) (N := (some 91)) (v := ?_) (a' := ?_) #[true, true, true, true, true, true, true, false, true, false, false, false, false] rfl rfl (by kernel_rfl) (fun _ _ _ h => h) (Or.inl ⟨by rfl, ?_⟩) ?_ ?_
                  rotate_left
                  · intro w'
                    go_simp
                    with_reducible rfl
                  rotate_left
                  · simp only [Act.put, List.setIfInBounds_toArray, List.set_cons_zero, List.set_cons_succ, i64_w, i32_w]
                    rfl
                  refine pure_ (i := 9) (N := (some 92)) (v := ?_) (a' := ?_) #[true, true, true, true, true, true, true, false, true, true, false, false, false] rfl rfl (by kernel_rfl) (fun _ _ _ h => h) (Or.inl ⟨by rfl, ?_⟩) ?_ ?_
                  rotate_left
                  · intro w'
                    go_simp
                    with_reducible rfl
                  rotate_left
                  · simp only [Act.put, List.setIfInBounds_toArray, List.set_cons_zero, List.set_cons_succ, i64_w, i32_w]
                    rfl
                  refine take_ (i := 7) (N := (some 90)) (v := ?_) (a' := ?_) #[true, true, true, true, true, true, true, true, true, true, false, false, false] rfl rfl (by kernel_rfl) (fun _ _ _ h => h) (Or.inl ⟨by rfl, ?_⟩) hHeld ?_ ?_
                  rotate_left
                  · rintro w' hs
                    obtain ⟨ch, cn⟩ := HC.out _ hs
                    go_simp
                    with_reducible rfl
                  rotate_left
                  · simp only [Act.put, List.setIfInBounds_toArray, List.set_cons_zero, List.set_cons_succ, i64_w, i32_w]
                    rfl
                  refine take_ (i := 10) (N := (some 93)) (v := ?_) (a' := ?_) #[true, true, true, true, true, true, true, true, true, true, true, false, false] rfl rfl (by kernel_rfl) (fun _ _ _ h => h) (Or.inl ⟨by rfl, ?_⟩) hHeld ?_ ?_
                  rotate_left
                  · rintro w' hs
                    obtain ⟨ch, cn⟩ := HC.out _ hs
                    go_simp
                    with_reducible rfl
                  rotate_left
                  · simp only [Act.put, List.setIfInBounds_toArray, List.set_cons_zero, List.set_cons_succ, i64_w, i32_w]
                    rfl
                  refine pure_ (i := 11) (N := (some 94)) (v := ?_) (a' := ?_) #[true, true, true, true, true, true, true, true, true, true, true, true, false] rfl rfl (by kernel_rfl) (fun _ _ _ h => h) (Or.inl ⟨by rfl, ?_⟩) ?_ ?_
                  rotate_left
                  · intro w'
                    go_simp
                    with_reducible rfl
                  rotate_left
                  · simp only [Act.put, List.setIfInBounds_toArray, List.set_cons_zero, List.set_cons_succ, i64_w, i32_w]
                    rfl
                  refine pure_ (i := 12) (N := (some 95)) (v := ?_) (a' := ?_) #[true, true, true, true, true, true, true, true, true, true, true, true, true] rfl rfl (by kernel_rfl) (fun _ _ _ h => h) (Or.inl ⟨by rfl, ?_⟩) ?_ ?_
                  rotate_left
                  · intro w'
                    go_simp
                    with_reducible rfl
                  rotate_left
                  · simp only [Act.put, List.setIfInBounds_toArray, List.set_cons_zero, List.set_cons_succ, i64_w, i32_w]
                    rfl
                  refine done_ (by kernel_rfl) ?_
                  have HB := Aside0.mk hHeld
                  clear hHeld hb0
                  have HX := Aside0.mk (HR2.out.1.later HB.out)
                  obtain ⟨ch, cn⟩ := HC.out _ HB.out
                  have cg := HX.out.gone.cell nn HNN.out.2
                  have cr := HX.out.cellR
                  go_upto_region 31 with fail
                  have HGX := Aside0.mk HR2.out.2
                  clear ch cn cg cr n1 n2 z1 z2 z3
                  have HVAL : Aside0 (∀ W, Below w5.heap.size w5 W → Calls Tryz.prog 19 #[.agg (bookCells B2 A1 c1 A2 c2).toArray, .agg (encK (keyN nn)).toArray, .int .i64 0] W fun e w' => e = .returned (.tuple #[.int .i64 ((validOf B2 (keyN nn) 0).getD 0), .bool (validOf B2 (keyN nn) 0).isSome]) ∧ Below W.heap.size W w') := ⟨fun W hb => by
                    have := valid_any B2 (keyN nn) 0 _ 0 W ⟨A1, c1, A2, c2, rfl, HX.out.book.lists.below hb⟩ HX.out.dir.wf.few
                    rw [validRes_parts] at this
                    exact this⟩
                  have HLB : Aside0 (∀ W, Below w5.heap.size w5 W → (Instr.loadAt 43 (.pointer (some ⟨bk, 0, none⟩))).run Tryz.prog W = .ok (.agg (bookCells B2 A1 c1 A2 c2).toArray) W) := ⟨fun W hb => run_loadAtK Tryz.prog W 43 5 Tryz.isAgg43 Tryz.sizeOf43 bk 0 (bookCells B2 A1 c1 A2 c2) rfl (cells_of_heap (HX.out.book.later hb).at_)⟩
                  have HKY : Aside0 (∀ W, Calls Tryz.prog 18 #[.int .i64 nn] W fun e w' => e = .returned (.agg (encK (keyN nn)).toArray) ∧ Below W.heap.size W w') := ⟨fun W => key_any nn (by have := HNN.out; omega) W⟩
                  obtain ⟨vm, hvm⟩ : ∃ vm, vm = (validOf B2 (keyN nn) 0).getD 0 := ⟨_, rfl⟩
                  obtain ⟨vs, hvs⟩ : ∃ vs, vs = (validOf B2 (keyN nn) 0).isSome := ⟨_, rfl⟩
                  obtain ⟨KA, hKA⟩ : ∃ KA, KA = (encK (keyN nn)).toArray := ⟨_, rfl⟩
                  obtain ⟨BA, hBA⟩ : ∃ BA, BA = (bookCells B2 A1 c1 A2 c2).toArray := ⟨_, rfl⟩
                  rw [← hvm, ← hvs, ← hKA, ← hBA] at HVAL
                  rw [← hKA] at HKY
                  rw [← hBA] at HLB
                  have HVS := Aside0.mk hvs
                  clear hvm hvs hKA hBA
                  refine start_ (n := 9) (S := fun W => Below w5.heap.size w5 W) (ds := []) #[false, false, false, false, false, false, false, false, false] (by kernel_rfl) rfl rfl (Below.refl w5.heap.size w5).drew (fun hHeld => ?_)
                  generalize World.drew _ = v5 at hHeld ⊢
                  refine pure_ (i := 1) (N := (some 120)) (v := ?_) (a' := ?_) #[false, true, false, false, false, false, false, false, false] rfl rfl (by kernel_rfl) (fun _ _ _ h => h) (Or.inl ⟨by rfl, ?_⟩) ?_ ?_
                  rotate_left
                  · intro w'
                    go_simp
                    with_reducible rfl
                  rotate_left
                  · simp only [Act.put, List.setIfInBounds_toArray, List.set_cons_zero, List.set_cons_succ, i64_w, i32_w]
                    rfl
                  refine take_ (i := 0) (N := (some 119)) (v := _) (a' := ?_) #[true, true, false, false, false, false, false, false, false] rfl rfl (by kernel_rfl) (fun _ _ _ h => h) (Or.inl ⟨by rfl, fun w' hs => yields_load 43 (.tmp 9) _ rfl _ _ rfl _ (HLB.out w' hs)⟩) hHeld ?_ ?_
                  rotate_left
                  · simp only [Act.put, List.setIfInBounds_toArray, List.set_cons_zero, List.set_cons_succ, i64_w, i32_w]
                    rfl
                  refine one_ (i := 2) (N := (some 121)) #[true, true, true, false, false, false, false, false, false] rfl rfl (by kernel_rfl) (by decide) (fun K hK => ?_)
                  refine goes_ Tryz.func18 (by kernel_rfl) rfl #[.int .i64 nn] (by rfl) rfl rfl (by (try simp only [List.map_toArray, List.map_cons, List.map_nil]); first | done | rfl) ?_
                  refine (HKY.out _).mono ?_
                  rintro e v5c ⟨rfl, hb⟩
                  refine ⟨_, rfl, ?_⟩
                  have hS_ := below_step hHeld hb
                  clear hb
                  refine hK.out _ _ hS_ (fun hHeld => ?_)
                  clear hK K
                  refine norm_ (a' := ?_) ?_ ?_
                  rotate_left
                  · show Act.put _ (some 121) _ = _
                    simp only [Act.put, List.setIfInBounds_toArray, List.set_cons_zero, List.set_cons_succ, i64_w, i32_w]
                    rfl
                  refine one_ (i := 3) (N := (some 122)) #[true, true, true, true, false, false, false, false, false] rfl rfl (by kernel_rfl) (by decide) (fun K hK => ?_)
                  refine goes_ Tryz.func19 (by kernel_rfl) rfl #[.agg BA, .agg KA, .int .i64 0] (by rfl) rfl rfl (by (try simp only [List.map_toArray, List.map_cons, List.map_nil]); first | done | rfl) ?_
                  refine (HVAL.out _ hHeld).mono ?_
                  rintro e v5c ⟨rfl, hb⟩
                  refine ⟨_, rfl, ?_⟩
                  have hS_ := below_step hHeld hb
                  clear hb
                  refine hK.out _ _ hS_ (fun hHeld => ?_)
                  clear hK K
                  refine norm_ (a' := ?_) ?_ ?_
                  rotate_left
                  · show Act.put _ (some 122) _ = _
                    simp only [Act.put, List.setIfInBounds_toArray, List.set_cons_zero, List.set_cons_succ, i64_w, i32_w]
                    rfl
                  refine pure_ (i := 4) (N := (some 118)) (v := ?_) (a' := ?_) #[true, true, true, true, true, false, false, false, false] rfl rfl (by kernel_rfl) (fun _ _ _ h => h) (Or.inl ⟨by rfl, ?_⟩) ?_ ?_
                  rotate_left
                  · intro w'
                    go_simp
                    with_reducible rfl
                  rotate_left
                  · simp only [Act.put, List.setIfInBounds_toArray, List.set_cons_zero, List.set_cons_succ, i64_w, i32_w]
                    rfl
                  refine pure_ (i := 5) (N := (some 123)) (v := ?_) (a' := ?_) #[true, true, true, true, true, true, false, false, false] rfl rfl (by kernel_rfl) (fun _ _ _ h => h) (Or.inl ⟨by rfl, ?_⟩) ?_ ?_
                  rotate_left
                  · intro w'
                    go_simp
                    with_reducible rfl
                  rotate_left
                  · simp only [Act.put, List.setIfInBounds_toArray, List.set_cons_zero, List.set_cons_succ, i64_w, i32_w]
                    rfl
                  refine pure_ (i := 6) (N := (some 124)) (v := ?_) (a' := ?_) #[true, true, true, true, true, true, true, false, false] rfl rfl (by kernel_rfl) (fun _ _ _ h => h) (Or.inl ⟨by rfl, ?_⟩) ?_ ?_
                  rotate_left
                  · intro w'
                    go_simp
                    with_reducible rfl
                  rotate_left
                  · simp only [Act.put, List.setIfInBounds_toArray, List.set_cons_zero, List.set_cons_succ, i64_w, i32_w]
                    rfl
                  refine pure_ (i := 7) (N := (some 14)) (v := ?_) (a' := ?_) #[true, true, true, true, true, true, true, true, false] rfl rfl (by kernel_rfl) (fun _ _ _ h => h) (Or.inl ⟨by rfl, ?_⟩) ?_ ?_
                  rotate_left
                  · intro w'
                    go_simp
                    with_reducible rfl
                  rotate_left
                  · simp only [Act.put, List.setIfInBounds_toArray, List.set_cons_zero, List.set_cons_succ, i64_w, i32_w]
                    rfl
                  refine pure_ (i := 8) (N := (some 15)) (v := ?_) (a' := ?_) #[true, true, true, true, true, true, true, true, true] rfl rfl (by kernel_rfl) (fun _ _ _ h => h) (Or.inl ⟨by rfl, ?_⟩) ?_ ?_
                  rotate_left
                  · intro w'
                    go_simp
                    with_reducible rfl
                  rotate_left
                  · simp only [Act.put, List.setIfInBounds_toArray, List.set_cons_zero, List.set_cons_succ, i64_w, i32_w]
                    rfl
                  refine done_ (by kernel_rfl) ?_
                  have HY := Aside0.mk (HX.out.later hHeld)
                  clear hHeld
                  have cg := HY.out.gone.cell nn HNN.out.2
                  have cn := HY.out.now.cell nn HNN.out.2
                  cases vs
                  · clear cg cn
                    go_wp2_with fail
                    go_roundg kn
                    case measure => omega
                    case rel => exact ⟨nn + 1, _, by go_num, by have := HNN.out; omega, ⟨HY.out, HGX.out⟩⟩
                  · obtain ⟨m, hm⟩ := Option.isSome_iff_exists.1 HVS.out.symm
                    obtain ⟨v1, v2, v3⟩ := HVL.out m hm
                    have hG : G2 nn = false := by
                      cases hG : G2 nn
                      · rfl
                      · exact absurd (HGX.out nn HNN.out.2 hG) v1
                    first
                    | rw [hG] at cg
                    | rw [show (if nn = nn then true else G2 nn) = false from hG] at cg
                    rw [v2] at cn
                    have v4 : ¬ m = 0 := by omega
                    have v5 : (m == 0) = false := beq_eq_false_iff_ne.2 v4
                    clear hG v1 v2 hm
                    go_wp2_with fail
                    go_roundg kn
                    case measure => omega
                    case rel => exact ⟨nn + 1, _, by go_num, by have := HNN.out; omega, ⟨HY.out, HGX.out⟩⟩
                · have y3 : (nv == hv) = false := beq_eq_false_iff_ne.2 hy
                  have HQZ := Aside0.mk (And.intro hz hy)
                  refine start_ (n := 13) (S := fun W => Below wC.heap.size wC W) (ds := []) #[false, false, false, false, false, false, false, false, false, false, false, false, false] (by kernel_rfl) rfl rfl hb0.drew (fun hHeld => ?_)
                  generalize World.drew _ = w5 at hHeld ⊢
                  refine pure_ (i := 0) (N := (some 83)) (v := ?_) (a' := ?_) #[true, false, false, false, false, false, false, false, false, false, false, false, false] rfl rfl (by kernel_rfl) (fun _ _ _ h => h) (Or.inl ⟨by rfl, ?_⟩) ?_ ?_
                  rotate_left
                  · intro w'
                    go_simp
                    with_reducible rfl
                  rotate_left
                  · simp only [Act.put, List.setIfInBounds_toArray, List.set_cons_zero, List.set_cons_succ, i64_w, i32_w]
                    rfl
                  refine pure_ (i := 1) (N := (some 84)) (v := ?_) (a' := ?_) #[true, true, false, false, false, false, false, false, false, false, false, false, false] rfl rfl (by kernel_rfl) (fun _ _ _ h => h) (Or.inl ⟨by rfl, ?_⟩) ?_ ?_
                  rotate_left
                  · intro w'
                    go_simp
                    with_reducible rfl
                  rotate_left
                  · simp only [Act.put, List.setIfInBounds_toArray, List.set_cons_zero, List.set_cons_succ, i64_w, i32_w]
                    rfl
                  refine take_ (i := 2) (N := (some 85)) (v := ?_) (a' := ?_) #[true, true, true, false, false, false, false, false, false, false, false, false, false] rfl rfl (by kernel_rfl) (fun _ _ _ h => h) (Or.inl ⟨by rfl, ?_⟩) hHeld ?_ ?_
                  rotate_left
                  · rintro w' hs
                    obtain ⟨ch, cn⟩ := HC.out _ hs
                    go_simp
                    with_reducible rfl
                  rotate_left
                  · simp only [Act.put, List.setIfInBounds_toArray, List.set_cons_zero, List.set_cons_succ, i64_w, i32_w]
                    rfl
                  refine pure_ (i := 3) (N := (some 86)) (v := ?_) (a' := ?_) #[true, true, true, true, false, false, false, false, false, false, false, false, false] rfl rfl (by kernel_rfl) (fun _ _ _ h => h) (Or.inl ⟨by rfl, ?_⟩) ?_ ?_
                  rotate_left
                  · intro w'
                    go_simp
                    with_reducible rfl
                  rotate_left
                  · simp only [Act.put, List.setIfInBounds_toArray, List.set_cons_zero, List.set_cons_succ, i64_w, i32_w]
                    rfl
                  refine pure_ (i := 4) (N := (some 87)) (v := ?_) (a' := ?_) #[true, true, true, true, true, false, false, false, false, false, false, false, false] rfl rfl (by kernel_rfl) (fun _ _ _ h => h) (Or.inl ⟨by rfl, ?_⟩) ?_ ?_
                  rotate_left
                  · intro w'
                    go_simp
                    with_reducible rfl
                  rotate_left
                  · simp only [Act.put, List.setIfInBounds_toArray, List.set_cons_zero, List.set_cons_succ, i64_w, i32_w]
                    rfl
                  refine pure_ (i := 5) (N := (some 88)) (v := ?_) (a' := ?_) #[true, true, true, true, true, true, false, false, false, false, false, false, false] rfl rfl (by kernel_rfl) (fun _ _ _ h => h) (Or.inl ⟨by rfl, ?_⟩) ?_ ?_
                  rotate_left
                  · intro w'
                    go_simp
                    with_reducible rfl
                  rotate_left
                  · simp only [Act.put, List.setIfInBounds_toArray, List.set_cons_zero, List.set_cons_succ, i64_w, i32_w]
                    rfl
                  refine pure_ (i := 6) (N := (some 89)) (v := ?_) (a' := ?_) #[true, true, true, true, true, true, true, false, false, false, false, false, false] rfl rfl (by kernel_rfl) (fun _ _ _ h => h) (Or.inl ⟨by rfl, ?_⟩) ?_ ?_
                  rotate_left
                  · intro w'
                    go_simp
                    with_reducible rfl
                  rotate_left
                  · simp only [Act.put, List.setIfInBounds_toArray, List.set_cons_zero, List.set_cons_succ, i64_w, i32_w]
                    rfl
                  refine pure_ (i := 8) (N := (some 91)) (v := ?_) (a' := ?_) #[true, true, true, true, true, true, true, false, true, false, false, false, false] rfl rfl (by kernel_rfl) (fun _ _ _ h => h) (Or.inl ⟨by rfl, ?_⟩) ?_ ?_
                  rotate_left
                  · intro w'
                    go_simp
                    with_reducible rfl
                  rotate_left
                  · simp only [Act.put, List.setIfInBounds_toArray, List.set_cons_zero, List.set_cons_succ, i64_w, i32_w]
                    rfl
                  refine pure_ (i := 9) (N := (some 92)) (v := ?_) (a' := ?_) #[true, true, true, true, true, true, true, false, true, true, false, false, false] rfl rfl (by kernel_rfl) (fun _ _ _ h => h) (Or.inl ⟨by rfl, ?_⟩) ?_ ?_
                  rotate_left
                  · intro w'
                    go_simp
                    with_reducible rfl
                  rotate_left
                  · simp only [Act.put, List.setIfInBounds_toArray, List.set_cons_zero, List.set_cons_succ, i64_w, i32_w]
                    rfl
                  refine take_ (i := 7) (N := (some 90)) (v := ?_) (a' := ?_) #[true, true, true, true, true, true, true, true, true, true, false, false, false] rfl rfl (by kernel_rfl) (fun _ _ _ h => h) (Or.inl ⟨by rfl, ?_⟩) hHeld ?_ ?_
                  rotate_left
                  · rintro w' hs
                    obtain ⟨ch, cn⟩ := HC.out _ hs
                    go_simp
                    with_reducible rfl
                  rotate_left
                  · simp only [Act.put, List.setIfInBounds_toArray, List.set_cons_zero, List.set_cons_succ, i64_w, i32_w]
                    rfl
                  refine take_ (i := 10) (N := (some 93)) (v := ?_) (a' := ?_) #[true, true, true, true, true, true, true, true, true, true, true, false, false] rfl rfl (by kernel_rfl) (fun _ _ _ h => h) (Or.inl ⟨by rfl, ?_⟩) hHeld ?_ ?_
                  rotate_left
                  · rintro w' hs
                    obtain ⟨ch, cn⟩ := HC.out _ hs
                    go_simp
                    with_reducible rfl
                  rotate_left
                  · simp only [Act.put, List.setIfInBounds_toArray, List.set_cons_zero, List.set_cons_succ, i64_w, i32_w]
                    rfl
                  refine pure_ (i := 11) (N := (some 94)) (v := ?_) (a' := ?_) #[true, true, true, true, true, true, true, true, true, true, true, true, false] rfl rfl (by kernel_rfl) (fun _ _ _ h => h) (Or.inl ⟨by rfl, ?_⟩) ?_ ?_
                  rotate_left
                  · intro w'
                    go_simp
                    with_reducible rfl
                  rotate_left
                  · simp only [Act.put, List.setIfInBounds_toArray, List.set_cons_zero, List.set_cons_succ, i64_w, i32_w]
                    rfl
                  refine pure_ (i := 12) (N := (some 95)) (v := ?_) (a' := ?_) #[true, true, true, true, true, true, true, true, true, true, true, true, true] rfl rfl (by kernel_rfl) (fun _ _ _ h => h) (Or.inl ⟨by rfl, ?_⟩) ?_ ?_
                  rotate_left
                  · intro w'
                    go_simp
                    with_reducible rfl
                  rotate_left
                  · simp only [Act.put, List.setIfInBounds_toArray, List.set_cons_zero, List.set_cons_succ, i64_w, i32_w]
                    rfl
                  refine done_ (by kernel_rfl) ?_
                  have HB := Aside0.mk hHeld
                  clear hHeld hb0
                  have HX0 := Aside0.mk (HR2.out.1.later HB.out)
                  obtain ⟨wE, hst, ha, hg⟩ := run_store1 Tryz.prog w5 4 Tryz.sizeOf4 gn nn 26 _ HX0.out.gone HNN.out.2 (.bool true) rfl rfl
                  have HST := Aside0.mk hst
                  have HX := Aside0.mk (HX0.out.setGone ha hg (fun m => if m = nn then true else G2 m) (fun m hm => by split <;> rfl))
                  have HGX : Aside0 (∀ n, n < 30 → (if n = nn then true else G2 n) = true → Gone B2 (keyN n)) := ⟨fun n hn hG => by
                    by_cases e : n = nn
                    · subst e
                      exact HCM.out.2 HQZ.out.1 HQZ.out.2
                    · rw [if_neg e] at hG
                      exact HR2.out.2 n hn hG⟩
                  have ch : wE.cell? ⟨ho, nn, none⟩ = some (.int .i64 hv) := by
                    have := HX.out.holds.cell nn HNN.out.2
                    rw [← HHV.out.1] at this
                    exact this
                  have cn : wE.cell? ⟨nw, nn, none⟩ = some (.int .i64 nv) := by
                    have := HX.out.now.cell nn HNN.out.2
                    rw [← HHV.out.2] at this
                    exact this
                  clear hst ha hg hy
                  by_cases hy : nv = 0
                  · subst hy
                    go_upto_region 31 with ((with_reducible refine at_store 4 (.tmp 97) (.const (.bool true)) ?_); refine wpList_storeK rfl 4 (.tmp 97) (.const (.bool true)) rfl rfl _ _ rfl rfl _ HST.out ?_)
                    clear ch cn n1 n2 z1 z2 z3 y3
                    have HVAL : Aside0 (∀ W, Below wE.heap.size wE W → Calls Tryz.prog 19 #[.agg (bookCells B2 A1 c1 A2 c2).toArray, .agg (encK (keyN nn)).toArray, .int .i64 0] W fun e w' => e = .returned (.tuple #[.int .i64 ((validOf B2 (keyN nn) 0).getD 0), .bool (validOf B2 (keyN nn) 0).isSome]) ∧ Below W.heap.size W w') := ⟨fun W hb => by
                      have := valid_any B2 (keyN nn) 0 _ 0 W ⟨A1, c1, A2, c2, rfl, HX.out.book.lists.below hb⟩ HX.out.dir.wf.few
                      rw [validRes_parts] at this
                      exact this⟩
                    have HLB : Aside0 (∀ W, Below wE.heap.size wE W → (Instr.loadAt 43 (.pointer (some ⟨bk, 0, none⟩))).run Tryz.prog W = .ok (.agg (bookCells B2 A1 c1 A2 c2).toArray) W) := ⟨fun W hb => run_loadAtK Tryz.prog W 43 5 Tryz.isAgg43 Tryz.sizeOf43 bk 0 (bookCells B2 A1 c1 A2 c2) rfl (cells_of_heap (HX.out.book.later hb).at_)⟩
                    have HKY : Aside0 (∀ W, Calls Tryz.prog 18 #[.int .i64 nn] W fun e w' => e = .returned (.agg (encK (keyN nn)).toArray) ∧ Below W.heap.size W w') := ⟨fun W => key_any nn (by have := HNN.out; omega) W⟩
                    obtain ⟨vm, hvm⟩ : ∃ vm, vm = (validOf B2 (keyN nn) 0).getD 0 := ⟨_, rfl⟩
                    obtain ⟨vs, hvs⟩ : ∃ vs, vs = (validOf B2 (keyN nn) 0).isSome := ⟨_, rfl⟩
                    obtain ⟨KA, hKA⟩ : ∃ KA, KA = (encK (keyN nn)).toArray := ⟨_, rfl⟩
                    obtain ⟨BA, hBA⟩ : ∃ BA, BA = (bookCells B2 A1 c1 A2 c2).toArray := ⟨_, rfl⟩
                    rw [← hvm, ← hvs, ← hKA, ← hBA] at HVAL
                    rw [← hKA] at HKY
                    rw [← hBA] at HLB
                    have HVS := Aside0.mk hvs
                    clear hvm hvs hKA hBA
                    refine start_ (n := 9) (S := fun W => Below wE.heap.size wE W) (ds := []) #[false, false, false, false, false, false, false, false, false] (by kernel_rfl) rfl rfl (Below.refl wE.heap.size wE).drew (fun hHeld => ?_)
                    generalize World.drew _ = v5 at hHeld ⊢
                    refine pure_ (i := 1) (N := (some 120)) (v := ?_) (a' := ?_) #[false, true, false, false, false, false, false, false, false] rfl rfl (by kernel_rfl) (fun _ _ _ h => h) (Or.inl ⟨by rfl, ?_⟩) ?_ ?_
                    rotate_left
                    · intro w'
                      go_simp
                      with_reducible rfl
                    rotate_left
                    · simp only [Act.put, List.setIfInBounds_toArray, List.set_cons_zero, List.set_cons_succ, i64_w, i32_w]
                      rfl
                    refine take_ (i := 0) (N := (some 119)) (v := _) (a' := ?_) #[true, true, false, false, false, false, false, false, false] rfl rfl (by kernel_rfl) (fun _ _ _ h => h) (Or.inl ⟨by rfl, fun w' hs => yields_load 43 (.tmp 9) _ rfl _ _ rfl _ (HLB.out w' hs)⟩) hHeld ?_ ?_
                    rotate_left
                    · simp only [Act.put, List.setIfInBounds_toArray, List.set_cons_zero, List.set_cons_succ, i64_w, i32_w]
                      rfl
                    refine one_ (i := 2) (N := (some 121)) #[true, true, true, false, false, false, false, false, false] rfl rfl (by kernel_rfl) (by decide) (fun K hK => ?_)
                    refine goes_ Tryz.func18 (by kernel_rfl) rfl #[.int .i64 nn] (by rfl) rfl rfl (by (try simp only [List.map_toArray, List.map_cons, List.map_nil]); first | done | rfl) ?_
                    refine (HKY.out _).mono ?_
                    rintro e v5c ⟨rfl, hb⟩
                    refine ⟨_, rfl, ?_⟩
                    have hS_ := below_step hHeld hb
                    clear hb
                    refine hK.out _ _ hS_ (fun hHeld => ?_)
                    clear hK K
                    refine norm_ (a' := ?_) ?_ ?_
                    rotate_left
                    · show Act.put _ (some 121) _ = _
                      simp only [Act.put, List.setIfInBounds_toArray, List.set_cons_zero, List.set_cons_succ, i64_w, i32_w]
                      rfl
                    refine one_ (i := 3) (N := (some 122)) #[true, true, true, true, false, false, false, false, false] rfl rfl (by kernel_rfl) (by decide) (fun K hK => ?_)
                    refine goes_ Tryz.func19 (by kernel_rfl) rfl #[.agg BA, .agg KA, .int .i64 0] (by rfl) rfl rfl (by (try simp only [List.map_toArray, List.map_cons, List.map_nil]); first | done | rfl) ?_
                    refine (HVAL.out _ hHeld).mono ?_
                    rintro e v5c ⟨rfl, hb⟩
                    refine ⟨_, rfl, ?_⟩
                    have hS_ := below_step hHeld hb
                    clear hb
                    refine hK.out _ _ hS_ (fun hHeld => ?_)
                    clear hK K
                    refine norm_ (a' := ?_) ?_ ?_
                    rotate_left
                    · show Act.put _ (some 122) _ = _
                      simp only [Act.put, List.setIfInBounds_toArray, List.set_cons_zero, List.set_cons_succ, i64_w, i32_w]
                      rfl
                    refine pure_ (i := 4) (N := (some 118)) (v := ?_) (a' := ?_) #[true, true, true, true, true, false, false, false, false] rfl rfl (by kernel_rfl) (fun _ _ _ h => h) (Or.inl ⟨by rfl, ?_⟩) ?_ ?_
                    rotate_left
                    · intro w'
                      go_simp
                      with_reducible rfl
                    rotate_left
                    · simp only [Act.put, List.setIfInBounds_toArray, List.set_cons_zero, List.set_cons_succ, i64_w, i32_w]
                      rfl
                    refine pure_ (i := 5) (N := (some 123)) (v := ?_) (a' := ?_) #[true, true, true, true, true, true, false, false, false] rfl rfl (by kernel_rfl) (fun _ _ _ h => h) (Or.inl ⟨by rfl, ?_⟩) ?_ ?_
                    rotate_left
                    · intro w'
                      go_simp
                      with_reducible rfl
                    rotate_left
                    · simp only [Act.put, List.setIfInBounds_toArray, List.set_cons_zero, List.set_cons_succ, i64_w, i32_w]
                      rfl
                    refine pure_ (i := 6) (N := (some 124)) (v := ?_) (a' := ?_) #[true, true, true, true, true, true, true, false, false] rfl rfl (by kernel_rfl) (fun _ _ _ h => h) (Or.inl ⟨by rfl, ?_⟩) ?_ ?_
                    rotate_left
                    · intro w'
                      go_simp
                      with_reducible rfl
                    rotate_left
                    · simp only [Act.put, List.setIfInBounds_toArray, List.set_cons_zero, List.set_cons_succ, i64_w, i32_w]
                      rfl
                    refine pure_ (i := 7) (N := (some 14)) (v := ?_) (a' := ?_) #[true, true, true, true, true, true, true, true, false] rfl rfl (by kernel_rfl) (fun _ _ _ h => h) (Or.inl ⟨by rfl, ?_⟩) ?_ ?_
                    rotate_left
                    · intro w'
                      go_simp
                      with_reducible rfl
                    rotate_left
                    · simp only [Act.put, List.setIfInBounds_toArray, List.set_cons_zero, List.set_cons_succ, i64_w, i32_w]
                      rfl
                    refine pure_ (i := 8) (N := (some 15)) (v := ?_) (a' := ?_) #[true, true, true, true, true, true, true, true, true] rfl rfl (by kernel_rfl) (fun _ _ _ h => h) (Or.inl ⟨by rfl, ?_⟩) ?_ ?_
                    rotate_left
                    · intro w'
                      go_simp
                      with_reducible rfl
                    rotate_left
                    · simp only [Act.put, List.setIfInBounds_toArray, List.set_cons_zero, List.set_cons_succ, i64_w, i32_w]
                      rfl
                    refine done_ (by kernel_rfl) ?_
                    have HY := Aside0.mk (HX.out.later hHeld)
                    clear hHeld
                    have cg := HY.out.gone.cell nn HNN.out.2
                    have cn := HY.out.now.cell nn HNN.out.2
                    cases vs
                    · clear cg cn
                      go_wp2_with fail
                      go_roundg kn
                      case measure => omega
                      case rel => exact ⟨nn + 1, _, by go_num, by have := HNN.out; omega, ⟨HY.out, HGX.out⟩⟩
                    · obtain ⟨m, hm⟩ := Option.isSome_iff_exists.1 HVS.out.symm
                      obtain ⟨v1, v2, v3⟩ := HVL.out m hm
                      have hG : (fun m => if m = nn then true else G2 m) nn = false := by
                        cases hG : (fun m => if m = nn then true else G2 m) nn
                        · rfl
                        · exact absurd (HGX.out nn HNN.out.2 hG) v1
                      first
                      | rw [hG] at cg
                      | rw [show (if nn = nn then true else G2 nn) = false from hG] at cg
                      rw [v2] at cn
                      have v4 : ¬ m = 0 := by omega
                      have v5 : (m == 0) = false := beq_eq_false_iff_ne.2 v4
                      clear hG v1 v2 hm
                      go_wp2_with fail
                      go_roundg kn
                      case measure => omega
                      case rel => exact ⟨nn + 1, _, by go_num, by have := HNN.out; omega, ⟨HY.out, HGX.out⟩⟩
                  · have y1 : 0 < nv := by omega
                    have y2 : decide (0 < nv) = true := decide_eq_true y1
                    go_upto_region 31 with ((with_reducible refine at_store 4 (.tmp 97) (.const (.bool true)) ?_); refine wpList_storeK rfl 4 (.tmp 97) (.const (.bool true)) rfl rfl _ _ rfl rfl _ HST.out ?_)
                    clear ch cn n1 n2 z1 z2 z3 y1 y2 y3
                    have HVAL : Aside0 (∀ W, Below wE.heap.size wE W → Calls Tryz.prog 19 #[.agg (bookCells B2 A1 c1 A2 c2).toArray, .agg (encK (keyN nn)).toArray, .int .i64 0] W fun e w' => e = .returned (.tuple #[.int .i64 ((validOf B2 (keyN nn) 0).getD 0), .bool (validOf B2 (keyN nn) 0).isSome]) ∧ Below W.heap.size W w') := ⟨fun W hb => by
                      have := valid_any B2 (keyN nn) 0 _ 0 W ⟨A1, c1, A2, c2, rfl, HX.out.book.lists.below hb⟩ HX.out.dir.wf.few
                      rw [validRes_parts] at this
                      exact this⟩
                    have HLB : Aside0 (∀ W, Below wE.heap.size wE W → (Instr.loadAt 43 (.pointer (some ⟨bk, 0, none⟩))).run Tryz.prog W = .ok (.agg (bookCells B2 A1 c1 A2 c2).toArray) W) := ⟨fun W hb => run_loadAtK Tryz.prog W 43 5 Tryz.isAgg43 Tryz.sizeOf43 bk 0 (bookCells B2 A1 c1 A2 c2) rfl (cells_of_heap (HX.out.book.later hb).at_)⟩
                    have HKY : Aside0 (∀ W, Calls Tryz.prog 18 #[.int .i64 nn] W fun e w' => e = .returned (.agg (encK (keyN nn)).toArray) ∧ Below W.heap.size W w') := ⟨fun W => key_any nn (by have := HNN.out; omega) W⟩
                    obtain ⟨vm, hvm⟩ : ∃ vm, vm = (validOf B2 (keyN nn) 0).getD 0 := ⟨_, rfl⟩
                    obtain ⟨vs, hvs⟩ : ∃ vs, vs = (validOf B2 (keyN nn) 0).isSome := ⟨_, rfl⟩
                    obtain ⟨KA, hKA⟩ : ∃ KA, KA = (encK (keyN nn)).toArray := ⟨_, rfl⟩
                    obtain ⟨BA, hBA⟩ : ∃ BA, BA = (bookCells B2 A1 c1 A2 c2).toArray := ⟨_, rfl⟩
                    rw [← hvm, ← hvs, ← hKA, ← hBA] at HVAL
                    rw [← hKA] at HKY
                    rw [← hBA] at HLB
                    have HVS := Aside0.mk hvs
                    clear hvm hvs hKA hBA
                    refine start_ (n := 9) (S := fun W => Below wE.heap.size wE W) (ds := []) #[false, false, false, false, false, false, false, false, false] (by kernel_rfl) rfl rfl (Below.refl wE.heap.size wE).drew (fun hHeld => ?_)
                    generalize World.drew _ = v5 at hHeld ⊢
                    refine pure_ (i := 1) (N := (some 120)) (v := ?_) (a' := ?_) #[false, true, false, false, false, false, false, false, false] rfl rfl (by kernel_rfl) (fun _ _ _ h => h) (Or.inl ⟨by rfl, ?_⟩) ?_ ?_
                    rotate_left
                    · intro w'
                      go_simp
                      with_reducible rfl
                    rotate_left
                    · simp only [Act.put, List.setIfInBounds_toArray, List.set_cons_zero, List.set_cons_succ, i64_w, i32_w]
                      rfl
                    refine take_ (i := 0) (N := (some 119)) (v := _) (a' := ?_) #[true, true, false, false, false, false, false, false, false] rfl rfl (by kernel_rfl) (fun _ _ _ h => h) (Or.inl ⟨by rfl, fun w' hs => yields_load 43 (.tmp 9) _ rfl _ _ rfl _ (HLB.out w' hs)⟩) hHeld ?_ ?_
                    rotate_left
                    · simp only [Act.put, List.setIfInBounds_toArray, List.set_cons_zero, List.set_cons_succ, i64_w, i32_w]
                      rfl
                    refine one_ (i := 2) (N := (some 121)) #[true, true, true, false, false, false, false, false, false] rfl rfl (by kernel_rfl) (by decide) (fun K hK => ?_)
                    refine goes_ Tryz.func18 (by kernel_rfl) rfl #[.int .i64 nn] (by rfl) rfl rfl (by (try simp only [List.map_toArray, List.map_cons, List.map_nil]); first | done | rfl) ?_
                    refine (HKY.out _).mono ?_
                    rintro e v5c ⟨rfl, hb⟩
                    refine ⟨_, rfl, ?_⟩
                    have hS_ := below_step hHeld hb
                    clear hb
                    refine hK.out _ _ hS_ (fun hHeld => ?_)
                    clear hK K
                    refine norm_ (a' := ?_) ?_ ?_
                    rotate_left
                    · show Act.put _ (some 121) _ = _
                      simp only [Act.put, List.setIfInBounds_toArray, List.set_cons_zero, List.set_cons_succ, i64_w, i32_w]
                      rfl
                    refine one_ (i := 3) (N := (some 122)) #[true, true, true, true, false, false, false, false, false] rfl rfl (by kernel_rfl) (by decide) (fun K hK => ?_)
                    refine goes_ Tryz.func19 (by kernel_rfl) rfl #[.agg BA, .agg KA, .int .i64 0] (by rfl) rfl rfl (by (try simp only [List.map_toArray, List.map_cons, List.map_nil]); first | done | rfl) ?_
                    refine (HVAL.out _ hHeld).mono ?_
                    rintro e v5c ⟨rfl, hb⟩
                    refine ⟨_, rfl, ?_⟩
                    have hS_ := below_step hHeld hb
                    clear hb
                    refine hK.out _ _ hS_ (fun hHeld => ?_)
                    clear hK K
                    refine norm_ (a' := ?_) ?_ ?_
                    rotate_left
                    · show Act.put _ (some 122) _ = _
                      simp only [Act.put, List.setIfInBounds_toArray, List.set_cons_zero, List.set_cons_succ, i64_w, i32_w]
                      rfl
                    refine pure_ (i := 4) (N := (some 118)) (v := ?_) (a' := ?_) #[true, true, true, true, true, false, false, false, false] rfl rfl (by kernel_rfl) (fun _ _ _ h => h) (Or.inl ⟨by rfl, ?_⟩) ?_ ?_
                    rotate_left
                    · intro w'
                      go_simp
                      with_reducible rfl
                    rotate_left
                    · simp only [Act.put, List.setIfInBounds_toArray, List.set_cons_zero, List.set_cons_succ, i64_w, i32_w]
                      rfl
                    refine pure_ (i := 5) (N := (some 123)) (v := ?_) (a' := ?_) #[true, true, true, true, true, true, false, false, false] rfl rfl (by kernel_rfl) (fun _ _ _ h => h) (Or.inl ⟨by rfl, ?_⟩) ?_ ?_
                    rotate_left
                    · intro w'
                      go_simp
                      with_reducible rfl
                    rotate_left
                    · simp only [Act.put, List.setIfInBounds_toArray, List.set_cons_zero, List.set_cons_succ, i64_w, i32_w]
                      rfl
                    refine pure_ (i := 6) (N := (some 124)) (v := ?_) (a' := ?_) #[true, true, true, true, true, true, true, false, false] rfl rfl (by kernel_rfl) (fun _ _ _ h => h) (Or.inl ⟨by rfl, ?_⟩) ?_ ?_
                    rotate_left
                    · intro w'
                      go_simp
                      with_reducible rfl
                    rotate_left
                    · simp only [Act.put, List.setIfInBounds_toArray, List.set_cons_zero, List.set_cons_succ, i64_w, i32_w]
                      rfl
                    refine pure_ (i := 7) (N := (some 14)) (v := ?_) (a' := ?_) #[true, true, true, true, true, true, true, true, false] rfl rfl (by kernel_rfl) (fun _ _ _ h => h) (Or.inl ⟨by rfl, ?_⟩) ?_ ?_
                    rotate_left
                    · intro w'
                      go_simp
                      with_reducible rfl
                    rotate_left
                    · simp only [Act.put, List.setIfInBounds_toArray, List.set_cons_zero, List.set_cons_succ, i64_w, i32_w]
                      rfl
                    refine pure_ (i := 8) (N := (some 15)) (v := ?_) (a' := ?_) #[true, true, true, true, true, true, true, true, true] rfl rfl (by kernel_rfl) (fun _ _ _ h => h) (Or.inl ⟨by rfl, ?_⟩) ?_ ?_
                    rotate_left
                    · intro w'
                      go_simp
                      with_reducible rfl
                    rotate_left
                    · simp only [Act.put, List.setIfInBounds_toArray, List.set_cons_zero, List.set_cons_succ, i64_w, i32_w]
                      rfl
                    refine done_ (by kernel_rfl) ?_
                    have HY := Aside0.mk (HX.out.later hHeld)
                    clear hHeld
                    have cg := HY.out.gone.cell nn HNN.out.2
                    have cn := HY.out.now.cell nn HNN.out.2
                    cases vs
                    · clear cg cn
                      go_wp2_with fail
                      go_roundg kn
                      case measure => omega
                      case rel => exact ⟨nn + 1, _, by go_num, by have := HNN.out; omega, ⟨HY.out, HGX.out⟩⟩
                    · obtain ⟨m, hm⟩ := Option.isSome_iff_exists.1 HVS.out.symm
                      obtain ⟨v1, v2, v3⟩ := HVL.out m hm
                      have hG : (fun m => if m = nn then true else G2 m) nn = false := by
                        cases hG : (fun m => if m = nn then true else G2 m) nn
                        · rfl
                        · exact absurd (HGX.out nn HNN.out.2 hG) v1
                      first
                      | rw [hG] at cg
                      | rw [show (if nn = nn then true else G2 nn) = false from hG] at cg
                      rw [v2] at cn
                      have v4 : ¬ m = 0 := by omega
                      have v5 : (m == 0) = false := beq_eq_false_iff_ne.2 v4
                      clear hG v1 v2 hm
                      go_wp2_with fail
                      go_roundg kn
                      case measure => omega
                      case rel => exact ⟨nn + 1, _, by go_num, by have := HNN.out; omega, ⟨HY.out, HGX.out⟩⟩
            · have d1 : decide ((nn : Int) < 30) = false := decide_eq_false (by omega)
              have hn30 : nn = 30 := by omega
              subst hn30
              obtain ⟨W', hst, hd, hg, hh⟩ := HR2.out.1.turn
              have hlo := HR2.out.1.loadNow
              obtain ⟨RA, hRA⟩ : ∃ RA, RA = (row30 fun n => Value.int .i64 (nodeOf B2 (keyN n))).toArray := ⟨_, rfl⟩
              rw [← hRA] at hst hlo
              have HST := Aside0.mk hst
              have HLO := Aside0.mk hlo
              have HT := Aside0.mk (And.intro hd (And.intro hg hh))
              clear hst hlo hd hg hh hRA
              go_wp2_with (first | ((with_reducible refine at_load 27 (.tmp 10) ?_); refine wpList_loadK rfl 27 (.tmp 10) rfl _ rfl _ HLO.out ?_) | ((with_reducible refine at_store 27 (.tmp 5) (.tmp 137) ?_); refine wpList_storeK rfl 27 (.tmp 5) (.tmp 137) rfl rfl _ _ rfl rfl _ HST.out ?_))
              go_roundg ko
              case measure => have := HIK.out; omega
              case rel => exact ⟨i + 1, B2, G2, by go_num, by have := HIK.out; omega, ⟨by have := HLT.out; omega⟩, ⟨HT.out.1, HT.out.2.1, HT.out.2.2, HR2.out.2⟩⟩
    · rcases (show l.length ≤ i ∨ (i < l.length ∧ 100 ≤ i) by omega) with hA | hA
      · have d3 : decide ((i : Int) < (l.length : Int)) = false := decide_eq_false (by omega)
        have d1 : ((i : Int) < (l.length : Int)) = False := eq_false (by omega)
        clear hlt hA
        go_wp2_with fail
        go_ret
        exact ⟨rfl, below_step HB1.out HD.out.1.fr⟩
      · have d3 : decide ((i : Int) < (l.length : Int)) = true := decide_eq_true (by omega)
        have d4 : decide ((i : Int) < 100) = false := decide_eq_false (by omega)
        have d1 : ((i : Int) < (l.length : Int)) = True := eq_true (by omega)
        have d2 : ((i : Int) < 100) = False := eq_false (by omega)
        clear hlt hA
        go_wp2_with fail
        go_ret
        exact ⟨rfl, below_step HB1.out HD.out.1.fr⟩
end Go.Proofs.YthnpiimiimiijaaGreatDoor.Dir
