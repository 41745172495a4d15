/- register, of an op's book. -/
import Derived.Test.YthnpiimiimiijaaGreatDoorDirOps2
import Derived.Test.YthnpiimiimiijaaGreatDoorDirBd
namespace Go.Proofs.YthnpiimiimiijaaGreatDoor.Dir
open Go Go.RowKit Go.Proofs Go.Proofs.YthnpiimiimiijaaGreatDoorW.PrintWords Go.Proofs.YthnpiimiimiijaaGreatDoorW.PrintLast Go.Proofs.YthnpiimiimiijaaGreatDoorW.PrintMore
set_option linter.unusedVariables false
set_option linter.unusedSimpArgs false

theorem OnBook.keep1 {w W W' : World} {base q : Nat} {B : Book} {A1 : Option Addr} {c1 : Nat} {A2 : Option Addr} {c2 bx : Nat} {cs : List Value} {T : TypeId} (h : OnBook w W base q B A1 c1 A2 c2 bx cs T) (hg : W.grownBy W' (Value.slice A1 B.devs.length c1).ownBlock) :
    W'.heap[q]? = some (.cells (bookCells B A1 c1 A2 c2).toArray 43 (0, 0)) ∧ W'.cell? ⟨q, 2, none⟩ = some (.slice A1 B.devs.length c1) ∧ W'.frozen? ⟨q, 2, none⟩ = false := by
  have hq : W'.heap[q]? = some (.cells (bookCells B A1 c1 A2 c2).toArray 43 (0, 0)) := (hg.block q h.nx.lt (fun e => own_ne h.nx.lists.1 h.nx.box (by decide) e)).trans h.nx.box
  refine ⟨hq, ?_, ?_⟩
  · rw [cell_of_heap hq]; rfl
  · exact frozen_of_heap hq
/-- A book whose list of devices is another one. -/
theorem next_list {W : World} {base q : Nat} {B B' : Book} {A1 A1' : Option Addr} {c1 c1' : Nat} {A2 : Option Addr} {c2 : Nat} (hq : W.heap[q]? = some (.cells (bookCells B A1 c1 A2 c2).toArray 43 (0, 0))) (hd : W.ownsRow base 46 35 (.slice A1' B'.devs.length c1') B'.devs.length (flatD B'.devs)) (hs : W.ownsRow base 34 32 (.slice A2 B.spent.length c2) B.spent.length (flatK B.spent))
    (hlow : base ≤ q) (e1 : B'.ver = B.ver) (e2 : B'.clock = B.clock) (e3 : B'.spent = B.spent) (e4 : B'.acl = B.acl) : NextIs (W.setCell ⟨q, 2, none⟩ (.slice A1' B'.devs.length c1')) base q B' A1' c1' A2 c2 := by
  have n1 : ∀ k, (Value.slice A1' B'.devs.length c1').ownBlock = some k → k ≠ q := fun k hk e => own_ne hd hq (by decide) (by rw [hk, e])
  have n2 : ∀ k, (Value.slice A2 B.spent.length c2).ownBlock = some k → k ≠ q := fun k hk e => own_ne hs hq (by decide) (by rw [hk, e])
  have hd' := ownsRow_setCell_other hd (a := ⟨q, 2, none⟩) n1 (.slice A1' B'.devs.length c1')
  have hs' := ownsRow_setCell_other hs (a := ⟨q, 2, none⟩) n2 (.slice A1' B'.devs.length c1')
  refine ⟨?_, ⟨hd', by rw [e3]; exact hs', own_apart hd' (by rw [e3]; exact hs') (by decide)⟩, hlow, n1, by rw [e3]; exact n2⟩
  rw [heap_setCell_same W q 2 _ _ _ hq]
  simp only [bookCells, e1, e2, e3, e4]
  rfl
theorem execOp_build3 (P : Program) (w : World) (t : TypeId) (x0 x1 x2 : Operand) (o : Oper) (ho : o.op = .build t #[(0, x0), (1, x1), (2, x2)]) (a : Act) (v0 v1 v2 : Value) (h0 : a.eval x0 = v0) (h1 : a.eval x1 = v1) (h2 : a.eval x2 = v2) (r : Value) (w' : World) (hr : (Instr.build t #[(0, v0), (1, v1), (2, v2)]).run P w = .ok r w') : (execOp a.eval o).run P w = .ok (.value r) w' := by
  unfold execOp
  simp only [ho, Sem.run_bind]
  simp [h0, h1, h2, hr]
theorem at_build {P : Program} {ops : Array Oper} {Q : Exit → Act → World → Prop} {rest : List Oper} {a : Act} {w : World} {dst : Option Tmp} {ty : TypeId} {pos : String} {after : Array Edge} {g : Option (Nat × Bool)} (t : TypeId) (x : Array (Nat × Operand)) (h : wpList P ops Q (⟨dst, .build t x, ty, pos, after, g⟩ :: rest) a w) : wpList P ops Q (⟨dst, .build t x, ty, pos, after, g⟩ :: rest) a w := h
theorem wpList_build3 {P : Program} {w : World} {ops : Array Oper} {rest : List Oper} {o : Oper} {a : Act} {Q : Exit → Act → World → Prop} (hgd : o.guard = none) (t : TypeId) (x0 x1 x2 : Operand) (ho : o.op = .build t #[(0, x0), (1, x1), (2, x2)]) (v0 v1 v2 : Value) (h0 : a.eval x0 = v0) (h1 : a.eval x1 = v1) (h2 : a.eval x2 = v2) (r : Value) (w' : World)
    (hr : (Instr.build t #[(0, v0), (1, v1), (2, v2)]).run P w = .ok r w') (h : wpList P ops Q rest (a.put o.dst r) w') : wpList P ops Q (o :: rest) a w :=
  wpList_plain hgd fun K hK => by
    unfold Oper.wp
    rw [execOp_build3 P w t x0 x1 x2 o ho a v0 v1 v2 h0 h1 h2 r w' hr]
    exact hK _ _ h

set_option maxHeartbeats 4000000 in
set_option maxRecDepth 100000 in
theorem register_any (w : World) (base q : Nat) (B : Book) (A1 : Option Addr) (c1 : Nat) (A2 : Option Addr) (c2 : Nat) (o : Op) (h : NextIs w base q B A1 c1 A2 c2) (hw : WF B) (hb : base ≤ w.heap.size) (h1 : -9223372036854775808 ≤ o.node) (h2 : o.node ≤ 9223372036854775807) :
    Calls Tryz.prog 80 #[.pointer (some ⟨q, 0, none⟩), .agg (encO o).toArray] w fun e w' => OpPost w base q (registerOf B o) e w' := by
  obtain ⟨W0, hW0⟩ : ∃ W0, W0 = w.alloc (.cells (encO o).toArray 36) := ⟨_, rfl⟩
  have HS : Aside0 (OnBook w W0 base q B A1 c1 A2 c2 w.heap.size (encO o) 36) := ⟨by rw [hW0]; exact OnBook.start w h hb _ _⟩
  have hat := at_any W0 base q B A1 c1 A2 c2 o.node HS.out.nx hw h1 h2
  have HWF := Aside0.mk hw
  obtain ⟨o0, o1, o34, o35, o36⟩ := HS.out.op
  clear h h1 h2 hw
  by_cases e1 : o.node < 1
  · have hX : registerOf B o = (B, 220) := by unfold registerOf; rw [if_pos (.inl e1)]
    rw [hX]
    have d1 : decide (o.node < 1) = true := decide_eq_true e1
    have HAT := Aside0.mk hat
    clear e1 hX hat
    go_enter Tryz.func80, Tryz.ntmps80
    go_upto_region 1 with fail
    rw [← hW0]
    clear hW0
    go_wp2_with fail
    refine HAT.out.mono ?_
    rintro e w1 ⟨⟨i, rfl, hi, hpos⟩, hb1⟩
    have HS1 := Aside0.mk (HS.out.later hb1)
    have HI := Aside0.mk (And.intro hi hpos)
    obtain ⟨o0, o1, o34, o35, o36⟩ := HS1.out.op
    obtain ⟨s0, s1, s2, s3, s4, sf⟩ := HS1.out.nx.cells
    clear hb1 hi hpos
    go_wp2_with fail
    go_ret
    exact HS1.out.post B 220 (by decide)
  · have d1 : decide (o.node < 1) = false := decide_eq_false e1
    by_cases e2 : 8 < o.node
    · have hX : registerOf B o = (B, 220) := by unfold registerOf; rw [if_pos (.inr (.inl e2))]
      rw [hX]
      have d2 : decide (8 < o.node) = true := decide_eq_true e2
      have HAT := Aside0.mk hat
      clear e1 e2 hX hat
      go_enter Tryz.func80, Tryz.ntmps80
      go_upto_region 1 with fail
      rw [← hW0]
      clear hW0
      go_wp2_with fail
      refine HAT.out.mono ?_
      rintro e w1 ⟨⟨i, rfl, hi, hpos⟩, hb1⟩
      have HS1 := Aside0.mk (HS.out.later hb1)
      have HI := Aside0.mk (And.intro hi hpos)
      obtain ⟨o0, o1, o34, o35, o36⟩ := HS1.out.op
      obtain ⟨s0, s1, s2, s3, s4, sf⟩ := HS1.out.nx.cells
      clear hb1 hi hpos
      go_wp2_with fail
      go_ret
      exact HS1.out.post B 220 (by decide)
    · have d2 : decide (8 < o.node) = false := decide_eq_false e2
      have E12 := Aside0.mk (And.intro e1 e2)
      clear e1 e2
      cases hh : hasD B.devs o.node with
      | true =>
        obtain ⟨g1, g2, g3, g4⟩ := has_at HWF.out.devs hh
        obtain ⟨g, rfl⟩ := owned_at HS.out.nx.lists.1 (by omega)
        have G2 := Aside0.mk g2
        have G1 := Aside0.mk g1
        simp only [hh] at hat
        have HAT := Aside0.mk hat
        cases hrv : (devAt B o.node).rev with
        | false =>
          have hX : registerOf B o = (B, 220) := by unfold registerOf; rw [if_pos (.inr (.inr ⟨hh, hrv⟩))]
          rw [hX]
          have HRV := Aside0.mk hrv
          clear hX hat hh g1 g2 g3 g4 hrv
          go_enter Tryz.func80, Tryz.ntmps80
          go_upto_region 1 with fail
          rw [← hW0]
          clear hW0
          go_wp2_with fail
          refine HAT.out.mono ?_
          rintro e w1 ⟨⟨i, rfl, hi, hpos⟩, hb1⟩
          have HS1 := Aside0.mk (HS.out.later hb1)
          have HI := Aside0.mk (And.intro hi hpos)
          obtain ⟨o0, o1, o34, o35, o36⟩ := HS1.out.op
          obtain ⟨s0, s1, s2, s3, s4, sf⟩ := HS1.out.nx.cells
          clear hb1 hi hpos
          obtain rfl : i = posD B.devs o.node := HI.out.2 (.inl trivial)
          have hin : (posD B.devs o.node : Int) < (B.devs.length : Int) := by have := G1.out; omega
          have hcr := dev_cell HS1.out.nx G2.out (revOfD _)
          rw [HRV.out] at hcr
          go_wp2_with fail
          go_ret
          exact HS1.out.post B 220 (by decide)
        | true =>
          have HRV := Aside0.mk hrv
          by_cases hfr : freshOf B o true = 0
          · have hX : registerOf B o = ({ spendOf B (devAt B o.node).key with devs := B.devs.set (posD B.devs o.node) (devOf o) }, 0) := by
              unfold registerOf
              rw [if_neg (fun hc => hc.elim E12.out.1 (fun hc => hc.elim E12.out.2 (fun hc => absurd (hc.2.symm.trans hrv) (by decide)))), hh, if_pos hfr, if_pos rfl]
            rw [hX]
            have HFR := Aside0.mk hfr
            clear hX hat hh g1 g2 g3 g4 hrv hfr
            go_enter Tryz.func80, Tryz.ntmps80
            go_upto_region 1 with fail
            rw [← hW0]
            clear hW0
            go_wp2_with fail
            refine HAT.out.mono ?_
            rintro e w1 ⟨⟨i, rfl, hi, hpos⟩, hb1⟩
            have HS1 := Aside0.mk (HS.out.later hb1)
            have HI := Aside0.mk (And.intro hi hpos)
            obtain ⟨o0, o1, o34, o35, o36⟩ := HS1.out.op
            obtain ⟨s0, s1, s2, s3, s4, sf⟩ := HS1.out.nx.cells
            clear hb1 hi hpos
            obtain rfl : i = posD B.devs o.node := HI.out.2 (.inl trivial)
            have hin : (posD B.devs o.node : Int) < (B.devs.length : Int) := by have := G1.out; omega
            have hcr := dev_cell HS1.out.nx G2.out (revOfD _)
            rw [HRV.out] at hcr
            have lo := Aside0.mk (run_loadAtK Tryz.prog w1 36 37 Tryz.isAgg36 Tryz.sizeOf36 w.heap.size 0 (encO o) (encO_len o) (cells_of_heap HS1.out.bx))
            have HFC := Aside0.mk (fresh_any w1 base q B (some ⟨g, 0, none⟩) c1 A2 c2 o true HS1.out.nx HWF.out.few HS1.out.base_le)
            clear o34 o35 o36
            go_wp2_with ((with_reducible refine at_load 36 (.tmp 3) ?_); refine wpList_loadK rfl 36 (.tmp 3) rfl _ rfl _ lo.out ?_)
            refine HFC.out.mono ?_
            rintro e w2 ⟨rfl, hob⟩
            have HS2 := Aside0.mk (HS1.out.later hob.all)
            clear hob o0 o1 s0 s1 s2 s3 s4 sf
            clear hcr
            rw [HFR.out]
            obtain ⟨o0, o1, o34, o35, o36⟩ := HS2.out.op
            have lk := Aside0.mk (run_loadAtK Tryz.prog w2 34 32 Tryz.isAgg34 Tryz.sizeOf34 w.heap.size 2 (encK o.key) (encK_len _) (fun j v hj => by rw [cell_of_heap HS2.out.bx]; exact keyOfO o j v hj))
            have bd' := Aside0.mk (run_buildDev w2 o.node o.exp o.key)
            have st := Aside0.mk (fun (c : Array Value) (hc : c.size = 35) => run_storeNew Tryz.prog w2 46 35 sizeD c (encD (devOf o)).toArray hc (by simpa using encD_len (devOf o)) (by simpa using encD_one (devOf o)))
            go_upto_region 9 with (first
              | ((with_reducible refine at_load 34 (.tmp 47) ?_); refine wpList_loadK rfl 34 (.tmp 47) rfl _ rfl _ lk.out ?_)
              | ((with_reducible refine at_build 46 #[(0, .tmp 46), (1, .tmp 48), (2, .tmp 50)] ?_); refine wpList_build3 rfl 46 (.tmp 46) (.tmp 48) (.tmp 50) rfl _ _ _ rfl rfl rfl _ _ bd'.out ?_)
              | ((with_reducible refine at_store 46 (.tmp 8) (.tmp 51) ?_); refine wpList_storeK rfl 46 (.tmp 8) (.tmp 51) rfl rfl _ _ rfl rfl _ (st.out _ rfl) ?_))
            obtain ⟨W3, hW3⟩ : ∃ W3, W3 = w2.alloc (.cells (encD (devOf o)).toArray 46) := ⟨_, rfl⟩
            obtain ⟨bd, hbd⟩ : ∃ bd, bd = w2.heap.size := ⟨_, rfl⟩
            have hbd3 : W3.heap[bd]? = some (.cells (encD (devOf o)).toArray 46 (0, 0)) := by rw [hW3, hbd]; exact heap_alloc_new w2 _
            have HS3 := Aside0.mk (show OnBook w W3 base q B (some ⟨g, 0, none⟩) c1 A2 c2 w.heap.size (encO o) 36 by rw [hW3]; exact HS2.out.later ((Below.refl _ w2).alloc (Nat.le_refl _) _))
            have HD3 := Aside0.mk hbd3
            rw [← hW3, ← hbd]
            clear hW3 hbd hbd3 o0 o1 o34 o35 o36 lk bd' st
            obtain ⟨s0, s1, s2, s3, s4, sf⟩ := HS3.out.nx.cells
            have hbdne : bd ≠ q := fun e => by have h4 := HS3.out.nx.box; rw [← e, HD3.out] at h4; have h5 := Option.some.inj h4; injection h5 with _ h6; exact absurd h6 (by decide)
            have ls := Aside0.mk (run_loadAtK Tryz.prog W3 34 32 Tryz.isAgg34 Tryz.sizeOf34 g (posD B.devs o.node * 35 + 1) (encK (devAt B o.node).key) (encK_len _) (fun j v hj => by
              have h3 := dev_cell HS3.out.nx G2.out (keyOfD (devAt B o.node) j v hj)
              rw [← Nat.add_assoc] at h3
              exact h3))
            have HSP := Aside0.mk (spend_any W3 base q B (some ⟨g, 0, none⟩) c1 A2 c2 (devAt B o.node).key HS3.out.nx HWF.out.spent HWF.out.len HS3.out.base_le)
            go_wp2_with ((with_reducible refine at_load 34 (.tmp 60) ?_); refine wpList_loadK rfl 34 (.tmp 60) rfl _ rfl _ ls.out ?_)
            refine HSP.out.mono ?_
            rintro e w4 ⟨rfl, ⟨A2', c2', hn4⟩, hf4, hs4, hk4⟩
            have hbd4 := (hk4 _ (Array.getElem?_eq_some_iff.1 HD3.out).1 hbdne (fun e => own_ne HS3.out.nx.lists.2.1 HD3.out (by decide) e)).trans HD3.out
            have HT : Aside0 (OnBook w4 w4 base q (spendOf B (devAt B o.node).key) (some ⟨g, 0, none⟩) c1 A2' c2' bd (encD (devOf o)) 46) := ⟨⟨hn4, hbd4, Below.refl _ _, Nat.le_trans HS3.out.base_le hs4⟩⟩
            have HF4 := Aside0.mk hf4
            clear hn4 hf4 hs4 hk4 hbd4 s0 s1 s2 s3 s4 sf hbdne ls
            go_wp2_with fail
            refine start_ (n := 8) (S := fun W => OnBook w4 W base q (spendOf B (devAt B o.node).key) (some ⟨g, 0, none⟩) c1 A2' c2' bd (encD (devOf o)) 46) (ds := [7]) #[false, false, false, false, false, false, false, false] (by kernel_rfl) rfl rfl HT.out.drew (fun hHeld => ?_)
            generalize World.drew _ = w5 at hHeld ⊢
            refine pure_ (i := 0) (N := (some 63)) (v := ?_) (a' := ?_) #[true, false, false, false, false, false, false, false] rfl rfl (by kernel_rfl) (fun _ _ _ h => h) (Or.inl ⟨by rfl, ?_⟩) ?_ ?_
            rotate_left
            · intro w'
              go_simp
              with_reducible rfl
            rotate_left
            · simp only [Act.put, List.setIfInBounds_toArray, List.set_cons_zero, List.set_cons_succ, i64_w, i32_w]
              rfl
            refine pure_ (i := 1) (N := (some 64)) (v := ?_) (a' := ?_) #[true, true, false, false, false, false, false, false] rfl rfl (by kernel_rfl) (fun _ _ _ h => h) (Or.inl ⟨by rfl, ?_⟩) ?_ ?_
            rotate_left
            · intro w'
              go_simp
              with_reducible rfl
            rotate_left
            · simp only [Act.put, List.setIfInBounds_toArray, List.set_cons_zero, List.set_cons_succ, i64_w, i32_w]
              rfl
            refine pure_ (i := 2) (N := (some 65)) (v := ?_) (a' := ?_) #[true, true, true, false, false, false, false, false] rfl rfl (by kernel_rfl) (fun _ _ _ h => h) (Or.inl ⟨by rfl, ?_⟩) ?_ ?_
            rotate_left
            · intro w'
              go_simp
              with_reducible rfl
            rotate_left
            · simp only [Act.put, List.setIfInBounds_toArray, List.set_cons_zero, List.set_cons_succ, i64_w, i32_w]
              rfl
            refine pure_ (i := 4) (N := (some 67)) (v := ?_) (a' := ?_) #[true, true, true, false, true, false, false, false] rfl rfl (by kernel_rfl) (fun _ _ _ h => h) (Or.inl ⟨by rfl, ?_⟩) ?_ ?_
            rotate_left
            · intro w'
              go_simp
              with_reducible rfl
            rotate_left
            · simp only [Act.put, List.setIfInBounds_toArray, List.set_cons_zero, List.set_cons_succ, i64_w, i32_w]
              rfl
            refine take_ (i := 3) (N := (some 66)) (v := ?_) (a' := ?_) #[true, true, true, true, true, false, false, false] rfl rfl (by kernel_rfl) (fun _ _ _ h => h) (Or.inl ⟨by rfl, ?_⟩) hHeld ?_ ?_
            rotate_left
            · rintro w' hs
              obtain ⟨s0, s1, s2, s3, s4, sf⟩ := hs.nx.cells
              replace s2 : w'.cell? ⟨q, 2, none⟩ = some (.slice (some ⟨g, 0, none⟩) B.devs.length c1) := s2
              go_simp
              with_reducible rfl
            rotate_left
            · simp only [Act.put, List.setIfInBounds_toArray, List.set_cons_zero, List.set_cons_succ, i64_w, i32_w]
              rfl
            refine take_ (i := 5) (N := (some 68)) (v := _) (a' := ?_) #[true, true, true, true, true, true, false, false] rfl rfl (by kernel_rfl) (fun _ _ _ h => h) (Or.inl ⟨by rfl, fun w' hs => yields_load 46 (.tmp 8) _ rfl _ _ rfl _ (run_loadAtK Tryz.prog w' 46 35 Tryz.isAgg46 Tryz.sizeOf46 bd 0 (encD (devOf o)) (encD_len _) (cells_of_heap hs.bx))⟩) hHeld ?_ ?_
            rotate_left
            · simp only [Act.put, List.setIfInBounds_toArray, List.set_cons_zero, List.set_cons_succ, i64_w, i32_w]
              rfl
            refine pure_ (i := 6) (N := (some 69)) (v := ?_) (a' := ?_) #[true, true, true, true, true, true, true, false] rfl rfl (by kernel_rfl) (fun _ _ _ h => h) (Or.inl ⟨by rfl, ?_⟩) ?_ ?_
            rotate_left
            · intro w'
              go_simp
              with_reducible rfl
            rotate_left
            · simp only [Act.put, List.setIfInBounds_toArray, List.set_cons_zero, List.set_cons_succ, i64_w, i32_w]
              rfl
            obtain ⟨w6, st6, ho6, hg6⟩ := put_dev hHeld.nx.lists.1 rfl 46 35 Tryz.sizeOf46 (posD B.devs o.node) (devAt B o.node) (devOf o) G2.out 0 (.agg (encD (devOf o)).toArray) (encD (devOf o)) (by simp [Value.cells]) (encD_len _) (by decide) (encD_one _) (encD_all _ _)
            have ST6 := Aside0.mk st6
            have HP6 := Aside0.mk (And.intro ho6 hg6)
            have HH := Aside0.mk hHeld
            clear st6 ho6 hg6 hHeld
            refine last_ (i := 7) (N := none) #[true, true, true, true, true, true, true, true] rfl rfl (by kernel_rfl) (by decide) (fun K hK => ?_)
            refine store_ (w1 := w6) (by rfl) rfl ?_ ?_
            · exact runs_store 46 (.tmp 69) (.tmp 68) _ rfl _ _ _ rfl rfl _ ST6.out
            skip
            refine hK.out _ _ ?_
            clear hK K
            refine norm_ (a' := ?_) ?_ ?_
            rotate_left
            · show Act.put _ none _ = _
              simp only [Act.put, List.setIfInBounds_toArray, List.set_cons_zero, List.set_cons_succ, i64_w, i32_w]
              rfl
            refine done_ (by kernel_rfl) ?_
            go_wp2
            go_ret
            have hn7 := next_devs HH.out.nx (B.devs.set (posD B.devs o.node) (devOf o)) (by rw [List.length_set]; rfl) HP6.out.1 HP6.out.2
            have hfr := below_grown HP6.out.2 HH.out.base_le (own_low HH.out.nx.lists.1)
            have hall := HS3.out.fr.trans (HF4.out.trans (HH.out.fr.trans hfr))
            exact ⟨rfl, fun _ => ⟨_, _, _, _, hn7⟩, hall, hall.size⟩
          · have hX : registerOf B o = (B, freshOf B o true) := by
              unfold registerOf
              rw [if_neg (fun hc => hc.elim E12.out.1 (fun hc => hc.elim E12.out.2 (fun hc => absurd (hc.2.symm.trans hrv) (by decide)))), hh, if_neg hfr]
            rw [hX]
            have HFR := Aside0.mk hfr
            have hq0 : (freshOf B o true == 0) = false := by rw [beq_eq_false_iff_ne]; exact hfr
            clear hX hat hh g1 g2 g3 g4 hrv hfr
            go_enter Tryz.func80, Tryz.ntmps80
            go_upto_region 1 with fail
            rw [← hW0]
            clear hW0
            go_wp2_with fail
            refine HAT.out.mono ?_
            rintro e w1 ⟨⟨i, rfl, hi, hpos⟩, hb1⟩
            have HS1 := Aside0.mk (HS.out.later hb1)
            have HI := Aside0.mk (And.intro hi hpos)
            obtain ⟨o0, o1, o34, o35, o36⟩ := HS1.out.op
            obtain ⟨s0, s1, s2, s3, s4, sf⟩ := HS1.out.nx.cells
            clear hb1 hi hpos
            obtain rfl : i = posD B.devs o.node := HI.out.2 (.inl trivial)
            have hin : (posD B.devs o.node : Int) < (B.devs.length : Int) := by have := G1.out; omega
            have hcr := dev_cell HS1.out.nx G2.out (revOfD _)
            rw [HRV.out] at hcr
            have lo := Aside0.mk (run_loadAtK Tryz.prog w1 36 37 Tryz.isAgg36 Tryz.sizeOf36 w.heap.size 0 (encO o) (encO_len o) (cells_of_heap HS1.out.bx))
            have HFC := Aside0.mk (fresh_any w1 base q B (some ⟨g, 0, none⟩) c1 A2 c2 o true HS1.out.nx HWF.out.few HS1.out.base_le)
            clear o34 o35 o36
            go_wp2_with ((with_reducible refine at_load 36 (.tmp 3) ?_); refine wpList_loadK rfl 36 (.tmp 3) rfl _ rfl _ lo.out ?_)
            refine HFC.out.mono ?_
            rintro e w2 ⟨rfl, hob⟩
            have HS2 := Aside0.mk (HS1.out.later hob.all)
            clear hob o0 o1 s0 s1 s2 s3 s4 sf
            go_wp2_with fail
            go_ret
            exact HS2.out.post B _ HFR.out
      | false =>
        simp only [hh] at hat
        have HAT := Aside0.mk hat
        by_cases hfr : freshOf B o false = 0
        · have hX : registerOf B o = ({ B with devs := insertAt B.devs (posD B.devs o.node) (devOf o) }, 0) := by
            unfold registerOf
            rw [if_neg (fun hc => hc.elim E12.out.1 (fun hc => hc.elim E12.out.2 (fun hc => absurd (hc.1.symm.trans hh) (by decide)))), hh, if_pos hfr, if_neg (by decide)]
          rw [hX]
          have HFR := Aside0.mk hfr
          have HF := Aside0.mk HWF.out.few
          clear hX hat hh hfr
          go_enter Tryz.func80, Tryz.ntmps80
          go_upto_region 1 with fail
          rw [← hW0]
          clear hW0
          go_wp2_with fail
          refine HAT.out.mono ?_
          rintro e w1 ⟨⟨i, rfl, hi, hpos⟩, hb1⟩
          have HS1 := Aside0.mk (HS.out.later hb1)
          have HI := Aside0.mk (And.intro hi hpos)
          obtain ⟨o0, o1, o34, o35, o36⟩ := HS1.out.op
          obtain ⟨s0, s1, s2, s3, s4, sf⟩ := HS1.out.nx.cells
          clear hb1 hi hpos
          have lo := Aside0.mk (run_loadAtK Tryz.prog w1 36 37 Tryz.isAgg36 Tryz.sizeOf36 w.heap.size 0 (encO o) (encO_len o) (cells_of_heap HS1.out.bx))
          have HFC := Aside0.mk (fresh_any w1 base q B A1 c1 A2 c2 o false HS1.out.nx HWF.out.few HS1.out.base_le)
          clear o34 o35 o36
          go_wp2_with ((with_reducible refine at_load 36 (.tmp 3) ?_); refine wpList_loadK rfl 36 (.tmp 3) rfl _ rfl _ lo.out ?_)
          refine HFC.out.mono ?_
          rintro e w2 ⟨rfl, hob⟩
          have HS2 := Aside0.mk (HS1.out.later hob.all)
          clear hob o0 o1 s0 s1 s2 s3 s4 sf
          rw [HFR.out]
          obtain ⟨o0, o1, o34, o35, o36⟩ := HS2.out.op
          have lk := Aside0.mk (run_loadAtK Tryz.prog w2 34 32 Tryz.isAgg34 Tryz.sizeOf34 w.heap.size 2 (encK o.key) (encK_len _) (fun j v hj => by rw [cell_of_heap HS2.out.bx]; exact keyOfO o j v hj))
          have bd' := Aside0.mk (run_buildDev w2 o.node o.exp o.key)
          have st := Aside0.mk (fun (c : Array Value) (hc : c.size = 35) => run_storeNew Tryz.prog w2 46 35 sizeD c (encD (devOf o)).toArray hc (by simpa using encD_len (devOf o)) (by simpa using encD_one (devOf o)))
          go_upto_region 11 with (first
            | ((with_reducible refine at_load 34 (.tmp 47) ?_); refine wpList_loadK rfl 34 (.tmp 47) rfl _ rfl _ lk.out ?_)
            | ((with_reducible refine at_build 46 #[(0, .tmp 46), (1, .tmp 48), (2, .tmp 50)] ?_); refine wpList_build3 rfl 46 (.tmp 46) (.tmp 48) (.tmp 50) rfl _ _ _ rfl rfl rfl _ _ bd'.out ?_)
            | ((with_reducible refine at_store 46 (.tmp 8) (.tmp 51) ?_); refine wpList_storeK rfl 46 (.tmp 8) (.tmp 51) rfl rfl _ _ rfl rfl _ (st.out _ rfl) ?_))
          obtain ⟨W3, hW3⟩ : ∃ W3, W3 = w2.alloc (.cells (encD (devOf o)).toArray 46) := ⟨_, rfl⟩
          obtain ⟨bd, hbd⟩ : ∃ bd, bd = w2.heap.size := ⟨_, rfl⟩
          have hbd3 : W3.heap[bd]? = some (.cells (encD (devOf o)).toArray 46 (0, 0)) := by rw [hW3, hbd]; exact heap_alloc_new w2 _
          have HS3 := Aside0.mk (show OnBook w W3 base q B A1 c1 A2 c2 w.heap.size (encO o) 36 by rw [hW3]; exact HS2.out.later ((Below.refl _ w2).alloc (Nat.le_refl _) _))
          have HD3 := Aside0.mk hbd3
          rw [← hW3, ← hbd]
          clear hW3 hbd hbd3 o0 o1 o34 o35 o36 lk bd' st
          obtain ⟨w4, hw4⟩ : ∃ w4, w4 = W3 := ⟨_, rfl⟩
          rw [← hw4] at HS3 HD3 ⊢
          clear hw4
          have HT : Aside0 (OnBook w4 w4 base q B A1 c1 A2 c2 bd (encD (devOf o)) 46) := ⟨⟨HS3.out.nx, HD3.out, Below.refl _ _, HS3.out.base_le⟩⟩
          refine start_ (n := 12) (S := fun W => OnBook w4 W base q B A1 c1 A2 c2 bd (encD (devOf o)) 46) (ds := [8, 11]) #[false, false, false, false, false, false, false, false, false, false, false, false] (by kernel_rfl) rfl rfl HT.out.drew (fun hHeld => ?_)
          generalize World.drew _ = w6 at hHeld ⊢
          refine pure_ (i := 0) (N := (some 70)) (v := ?_) (a' := ?_) #[true, false, false, false, false, false, false, false, false, false, false, false] rfl rfl (by kernel_rfl) (fun _ _ _ h => h) (Or.inl ⟨by rfl, ?_⟩) ?_ ?_
          rotate_left
          · intro w'
            go_simp
            with_reducible rfl
          rotate_left
          · simp only [Act.put, List.setIfInBounds_toArray, List.set_cons_zero, List.set_cons_succ, i64_w, i32_w]
            rfl
          refine pure_ (i := 1) (N := (some 71)) (v := ?_) (a' := ?_) #[true, true, false, false, false, false, false, false, false, false, false, false] rfl rfl (by kernel_rfl) (fun _ _ _ h => h) (Or.inl ⟨by rfl, ?_⟩) ?_ ?_
          rotate_left
          · intro w'
            go_simp
            with_reducible rfl
          rotate_left
          · simp only [Act.put, List.setIfInBounds_toArray, List.set_cons_zero, List.set_cons_succ, i64_w, i32_w]
            rfl
          refine pure_ (i := 2) (N := (some 72)) (v := ?_) (a' := ?_) #[true, true, true, false, false, false, false, false, false, false, false, false] rfl rfl (by kernel_rfl) (fun _ _ _ h => h) (Or.inl ⟨by rfl, ?_⟩) ?_ ?_
          rotate_left
          · intro w'
            go_simp
            with_reducible rfl
          rotate_left
          · simp only [Act.put, List.setIfInBounds_toArray, List.set_cons_zero, List.set_cons_succ, i64_w, i32_w]
            rfl
          refine pure_ (i := 3) (N := (some 73)) (v := ?_) (a' := ?_) #[true, true, true, true, false, false, false, false, false, false, false, false] rfl rfl (by kernel_rfl) (fun _ _ _ h => h) (Or.inl ⟨by rfl, ?_⟩) ?_ ?_
          rotate_left
          · intro w'
            go_simp
            with_reducible rfl
          rotate_left
          · simp only [Act.put, List.setIfInBounds_toArray, List.set_cons_zero, List.set_cons_succ, i64_w, i32_w]
            rfl
          refine pure_ (i := 5) (N := (some 75)) (v := ?_) (a' := ?_) #[true, true, true, true, false, true, false, false, false, false, false, false] rfl rfl (by kernel_rfl) (fun _ _ _ h => h) (Or.inl ⟨by rfl, ?_⟩) ?_ ?_
          rotate_left
          · intro w'
            go_simp
            with_reducible rfl
          rotate_left
          · simp only [Act.put, List.setIfInBounds_toArray, List.set_cons_zero, List.set_cons_succ, i64_w, i32_w]
            rfl
          refine take_ (i := 4) (N := (some 74)) (v := ?_) (a' := ?_) #[true, true, true, true, true, true, false, false, false, false, false, false] rfl rfl (by kernel_rfl) (fun _ _ _ h => h) (Or.inl ⟨by rfl, ?_⟩) hHeld ?_ ?_
          rotate_left
          · rintro w' hs
            obtain ⟨s0, s1, s2, s3, s4, sf⟩ := hs.nx.cells
            go_simp
            with_reducible rfl
          rotate_left
          · simp only [Act.put, List.setIfInBounds_toArray, List.set_cons_zero, List.set_cons_succ, i64_w, i32_w]
            rfl
          refine take_ (i := 6) (N := (some 76)) (v := _) (a' := ?_) #[true, true, true, true, true, true, true, false, false, false, false, false] rfl rfl (by kernel_rfl) (fun _ _ _ h => h) (Or.inl ⟨by rfl, fun w' hs => yields_load 46 (.tmp 8) _ rfl _ _ rfl _ (run_loadAtK Tryz.prog w' 46 35 Tryz.isAgg46 Tryz.sizeOf46 bd 0 (encD (devOf o)) (encD_len _) (cells_of_heap hs.bx))⟩) hHeld ?_ ?_
          rotate_left
          · simp only [Act.put, List.setIfInBounds_toArray, List.set_cons_zero, List.set_cons_succ, i64_w, i32_w]
            rfl
          refine one_ (i := 7) (N := (some 77)) #[true, true, true, true, true, true, true, true, false, false, false, false] rfl rfl (by kernel_rfl) (by decide) (fun K hK => ?_)
          refine value_ (v := .slice (some ⟨w6.heap.size, 0, none⟩) 1 1) (w1 := w6.alloc (.cells (encD (devOf o)).toArray 46)) (by rfl) rfl ?_ ?_
          · exact execOp_buildSlice _ _ 40 (.tmp 76) _ rfl _ _ rfl _ _ (buildD w6 (devOf o))
          have HLT := Aside0.mk (fun (k : Nat) (hk : (Value.slice A1 B.devs.length c1).ownBlock = some k) => own_lt hHeld.nx.lists.1 k hk)
          have HV := Aside0.mk (heap_alloc_new w6 (.cells (encD (devOf o)).toArray 46))
          have hS_ := hHeld.later (hb := (Below.refl _ w6).alloc (Nat.le_refl _) (.cells (encD (devOf o)).toArray 46))
          obtain ⟨W7, hW7⟩ : ∃ W7, W7 = w6.alloc (.cells (encD (devOf o)).toArray 46) := ⟨_, rfl⟩
          rw [← hW7] at HV hS_ ⊢
          clear hW7
          refine hK.out _ _ hS_ (fun hHeld => ?_)
          clear hK K
          refine norm_ (a' := ?_) ?_ ?_
          rotate_left
          · show Act.put _ (some 77) _ = _
            simp only [Act.put, List.setIfInBounds_toArray, List.set_cons_zero, List.set_cons_succ, i64_w, i32_w]
            rfl
          refine last_ (i := 8) (N := (some 78)) #[true, true, true, true, true, true, true, true, true, false, false, false] rfl rfl (by kernel_rfl) (by decide) (fun K hK => ?_)
          refine goes_ Tryz.func119 (by kernel_rfl) rfl #[.slice A1 B.devs.length c1, .int .i64 i, .slice (some ⟨w6.heap.size, 0, none⟩) 1 1] (by rfl) rfl rfl (by (try simp only [List.map_toArray, List.map_cons, List.map_nil]); first | done | rfl) ?_
          refine (insert119 W7 base A1 c1 B.devs.length i (flatD B.devs) (encD (devOf o)) w6.heap.size hHeld.nx.lists.1 HI.out.1 (by have := HF.out.1; omega) HV.out (encD_len _) (flatD_one _) (encD_one _) (fun k hk e => by have := HLT.out k hk; omega) hHeld.base_le).mono ?_
          rintro e w6c ⟨A1', c1', rfl, hown, hgr⟩
          refine ⟨_, rfl, ?_⟩
          have HO := Aside0.mk (And.intro hown hgr)
          have HH := Aside0.mk hHeld
          clear hown hgr hHeld hS_
          refine hK.out _ _ ?_
          clear hK K
          refine norm_ (a' := ?_) ?_ ?_
          rotate_left
          · show Act.put _ (some 78) _ = _
            simp only [Act.put, List.setIfInBounds_toArray, List.set_cons_zero, List.set_cons_succ, i64_w, i32_w]
            rfl
          refine pure_ (i := 9) (N := (some 79)) (v := ?_) (a' := ?_) #[true, true, true, true, true, true, true, true, true, true, false, false] rfl rfl (by kernel_rfl) (fun _ _ _ h => h) (Or.inl ⟨by rfl, ?_⟩) ?_ ?_
          rotate_left
          · intro w'
            go_simp
            with_reducible rfl
          rotate_left
          · simp only [Act.put, List.setIfInBounds_toArray, List.set_cons_zero, List.set_cons_succ, i64_w, i32_w]
            rfl
          refine pure_ (i := 10) (N := (some 80)) (v := ?_) (a' := ?_) #[true, true, true, true, true, true, true, true, true, true, true, false] rfl rfl (by kernel_rfl) (fun _ _ _ h => h) (Or.inl ⟨by rfl, ?_⟩) ?_ ?_
          rotate_left
          · intro w'
            go_simp
            with_reducible rfl
          rotate_left
          · simp only [Act.put, List.setIfInBounds_toArray, List.set_cons_zero, List.set_cons_succ, i64_w, i32_w]
            rfl
          refine last_ (i := 11) (N := none) #[true, true, true, true, true, true, true, true, true, true, true, true] rfl rfl (by kernel_rfl) (by decide) (fun K hK => ?_)
          refine store_ (w1 := w6c.setCell ⟨q, 2, none⟩ (.slice A1' (B.devs.length + 1) c1')) (by rfl) rfl ?_ ?_
          · exact runs_store 40 (.tmp 80) (.tmp 78) _ rfl _ _ _ rfl rfl _ (run_storeAt1 Tryz.prog w6c 40 Tryz.sizeOf40 q 2 _ rfl rfl _ (HH.out.keep1 HO.out.2).2.1 (HH.out.keep1 HO.out.2).2.2)
          skip
          refine hK.out _ _ ?_
          clear hK K
          refine norm_ (a' := ?_) ?_ ?_
          rotate_left
          · show Act.put _ none _ = _
            simp only [Act.put, List.setIfInBounds_toArray, List.set_cons_zero, List.set_cons_succ, i64_w, i32_w]
            rfl
          refine done_ (by kernel_rfl) ?_
          go_wp2
          go_ret
          obtain ⟨hq, -, -⟩ := HH.out.keep1 HO.out.2
          have hrow := HO.out.1
          have hfl : flatD (insertAt B.devs i (devOf o)) = (flatD B.devs).take (i * 35) ++ encD (devOf o) ++ (flatD B.devs).drop (i * 35) := flat_insert encD 35 encD_len B.devs i (devOf o) HI.out.1
          rw [← hfl] at hrow
          have hlen : (insertAt B.devs i (devOf o)).length = B.devs.length + 1 := len_insertAt _ _ _
          have hsp : w6c.ownsRow base 34 32 (.slice A2 B.spent.length c2) B.spent.length (flatK B.spent) := HH.out.nx.lists.2.1.kept HO.out.2 (by
            cases hk : (Value.slice A2 B.spent.length c2).ownBlock with
            | none => exact .inl rfl
            | some k => exact .inr (fun e => HH.out.nx.lists.2.2 k e.symm hk))
          have hfr := below_grown HO.out.2 HH.out.base_le (fun k hk => own_base HH.out.nx.lists.1 k hk)
          have hall := HS3.out.fr.trans ((HH.out.fr.trans hfr).setCell HH.out.nx.low (p := ⟨q, 2, none⟩) (.slice A1' (B.devs.length + 1) c1'))
          have hpi : i = posD B.devs o.node := HI.out.2 (.inr (by have := E12.out.1; omega))
          refine ⟨rfl, fun _ => ⟨A1', c1', A2, c2, ?_⟩, hall, hall.size⟩
          rw [← hpi, ← hlen]
          exact next_list (B' := { B with devs := insertAt B.devs i (devOf o) }) hq (by rw [hlen]; exact hrow) hsp HH.out.nx.low rfl rfl rfl rfl
        · have hX : registerOf B o = (B, freshOf B o false) := by
            unfold registerOf
            rw [if_neg (fun hc => hc.elim E12.out.1 (fun hc => hc.elim E12.out.2 (fun hc => absurd (hc.1.symm.trans hh) (by decide)))), hh, if_neg hfr]
          rw [hX]
          have HFR := Aside0.mk hfr
          have hq0 : (freshOf B o false == 0) = false := by rw [beq_eq_false_iff_ne]; exact hfr
          clear hX hat hh hfr
          go_enter Tryz.func80, Tryz.ntmps80
          go_upto_region 1 with fail
          rw [← hW0]
          clear hW0
          go_wp2_with fail
          refine HAT.out.mono ?_
          rintro e w1 ⟨⟨i, rfl, hi, hpos⟩, hb1⟩
          have HS1 := Aside0.mk (HS.out.later hb1)
          have HI := Aside0.mk (And.intro hi hpos)
          obtain ⟨o0, o1, o34, o35, o36⟩ := HS1.out.op
          obtain ⟨s0, s1, s2, s3, s4, sf⟩ := HS1.out.nx.cells
          clear hb1 hi hpos
          have lo := Aside0.mk (run_loadAtK Tryz.prog w1 36 37 Tryz.isAgg36 Tryz.sizeOf36 w.heap.size 0 (encO o) (encO_len o) (cells_of_heap HS1.out.bx))
          have HFC := Aside0.mk (fresh_any w1 base q B A1 c1 A2 c2 o false HS1.out.nx HWF.out.few HS1.out.base_le)
          clear o34 o35 o36
          go_wp2_with ((with_reducible refine at_load 36 (.tmp 3) ?_); refine wpList_loadK rfl 36 (.tmp 3) rfl _ rfl _ lo.out ?_)
          refine HFC.out.mono ?_
          rintro e w2 ⟨rfl, hob⟩
          have HS2 := Aside0.mk (HS1.out.later hob.all)
          clear hob o0 o1 s0 s1 s2 s3 s4 sf
          go_wp2_with fail
          go_ret
          exact HS2.out.post B _ HFR.out
end Go.Proofs.YthnpiimiimiijaaGreatDoor.Dir
