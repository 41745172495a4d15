/- revoke and rotate, of an op's book. -/
import Derived.Test.YthnpiimiimiijaaGreatDoorDirOps1
namespace Go.Proofs.YthnpiimiimiijaaGreatDoor.Dir
open Go Go.RowKit Go.Proofs Go.Proofs.YthnpiimiimiijaaGreatDoorW.PrintWords Go.Proofs.YthnpiimiimiijaaGreatDoorW.PrintLast Go.Proofs.YthnpiimiimiijaaGreatDoorW.PrintMore
set_option linter.unusedVariables false
set_option linter.unusedSimpArgs false

theorem run_loadAt1 (P : Program) (w : World) (t : TypeId) (hA : ∀ w, (isAgg t).run P w = .ok false w) (a : Addr) (v : Value) (hc : w.cell? a = some v) : (Instr.loadAt t (.pointer (some a))).run P w = .ok v w := by
  simp only [Instr.loadAt, Instr.sureAddr, loadVar, Sem.run_bind, Sem.run_pure, Result.andThen_ok, hA, Bool.false_eq_true, if_false, run_load, hc]
theorem set_here {l : List Dev} {i : Nat} {d d' : Dev} (h : l[i]? = some d) : (l.set i d')[i]? = some d' := by rw [List.getElem?_set, if_pos rfl, if_pos (List.getElem?_eq_some_iff.1 h).1]
theorem below_grown {w w' : World} {base : Nat} {r : Option Nat} (h : w.grownBy w' r) (hb : base ≤ w.heap.size) (hr : ∀ k, r = some k → base ≤ k) : Below base w w' := (Below.refl _ w).grown h hb hr
theorem own_low {w : World} {base : Nat} {e : TypeId} {size n c g : Nat} {xs : List Value} (h : w.ownsRow base e size (.slice (some ⟨g, 0, none⟩) n c) n xs) : ∀ k, some g = some k → base ≤ k := fun k hk => own_base h k hk

set_option maxHeartbeats 4000000 in
set_option maxRecDepth 100000 in
theorem revoke_any (w : World) (base q : Nat) (B : Book) (A1 : Option Addr) (c1 : Nat) (A2 : Option Addr) (c2 : Nat) (o : Op) (h : NextIs w base q B A1 c1 A2 c2) (hw : WF B) (hb : base ≤ w.heap.size) (h1 : -9223372036854775808 ≤ o.node) (h2 : o.node ≤ 9223372036854775807) :
    Calls Tryz.prog 82 #[.pointer (some ⟨q, 0, none⟩), .agg (encO o).toArray] w fun e w' => OpPost w base q (revokeOf B o) e w' := by
  obtain ⟨W0, hW0⟩ : ∃ W0, W0 = w.alloc (.cells (encO o).toArray 36) := ⟨_, rfl⟩
  have HS : Aside0 (OnBook w W0 base q B A1 c1 A2 c2 w.heap.size (encO o) 36) := ⟨by rw [hW0]; exact OnBook.start w h hb _ _⟩
  have hlv := live_any W0 base q B A1 c1 A2 c2 o.node HS.out.nx hw h1 h2
  have HWF := Aside0.mk hw
  obtain ⟨o0, o1, o34, o35, o36⟩ := HS.out.op
  clear h h1 h2 hw
  by_cases hl : liveOf B o.node = 0
  · have hX : revokeOf B o = ({ B with devs := B.devs.set (posD B.devs o.node) { devAt B o.node with rev := true } }, 0) := by unfold revokeOf; rw [if_pos hl]
    obtain ⟨g1, g2, g3, g4⟩ := has_at HWF.out.devs (live_ok hl).1
    simp only [if_pos hl] at hlv
    have HLV := Aside0.mk hlv
    have G2 := Aside0.mk g2
    rw [hX]
    clear hl hX hlv g1 g2 g3 g4
    go_enter Tryz.func82, Tryz.ntmps82
    go_upto_region 1 with fail
    rw [← hW0]
    clear hW0
    go_wp2_with fail
    refine HLV.out.mono ?_
    rintro e w1 ⟨⟨g, rfl, rfl⟩, hb1⟩
    have HS1 := Aside0.mk (HS.out.later hb1)
    obtain ⟨w2, st, ho, hg⟩ := put_dev HS1.out.nx.lists.1 rfl 4 1 Tryz.sizeOf4 (posD B.devs o.node) (devAt B o.node) { devAt B o.node with rev := true } G2.out 34 (.bool true) [.bool true] rfl rfl (by decide) (by intro u hu; simp at hu; subst hu; rfl) (encD_rev _ true)
    have ST := Aside0.mk st
    have HP := Aside0.mk (And.intro ho hg)
    clear st ho hg hb1
    go_wp2_with ((with_reducible refine at_store 4 (.tmp 18) (.const (.bool true)) ?_); refine wpList_storeK rfl 4 (.tmp 18) (.const (.bool true)) rfl rfl _ _ rfl rfl _ ST.out ?_)
    go_ret
    have hfr := below_grown HP.out.2 HS1.out.base_le (own_low HS1.out.nx.lists.1)
    exact ⟨rfl, fun _ => ⟨_, _, _, _, next_devs HS1.out.nx _ (by rw [List.length_set]) HP.out.1 HP.out.2⟩, HS1.out.fr.trans hfr, (HS1.out.fr.trans hfr).size⟩
  · have hX : revokeOf B o = (B, liveOf B o.node) := by unfold revokeOf; rw [if_neg hl]
    simp only [if_neg hl] at hlv
    have HLV := Aside0.mk hlv
    rw [hX]
    have hq0 : (liveOf B o.node == 0) = false := by rw [beq_eq_false_iff_ne]; exact hl
    have HL := Aside0.mk hl
    clear hl hX hlv
    generalize liveOf B o.node = le at *
    go_enter Tryz.func82, Tryz.ntmps82
    go_upto_region 1 with fail
    rw [← hW0]
    clear hW0
    go_wp2_with fail
    refine HLV.out.mono ?_
    rintro e w1 ⟨rfl, hb1⟩
    have HS1 := Aside0.mk (HS.out.later hb1)
    clear hb1
    go_wp2_with fail
    go_ret
    exact HS1.out.post B le HL.out

set_option maxHeartbeats 4000000 in
set_option maxRecDepth 100000 in
theorem rotate_any (w : World) (base q : Nat) (B : Book) (A1 : Option Addr) (c1 : Nat) (A2 : Option Addr) (c2 : Nat) (o : Op) (h : NextIs w base q B A1 c1 A2 c2) (hw : WF B) (hb : base ≤ w.heap.size) (h1 : -9223372036854775808 ≤ o.node) (h2 : o.node ≤ 9223372036854775807) :
    Calls Tryz.prog 81 #[.pointer (some ⟨q, 0, none⟩), .agg (encO o).toArray] w fun e w' => OpPost w base q (rotateOf B o) e w' := by
  obtain ⟨W0, hW0⟩ : ∃ W0, W0 = w.alloc (.cells (encO o).toArray 36) := ⟨_, rfl⟩
  have HS : Aside0 (OnBook w W0 base q B A1 c1 A2 c2 w.heap.size (encO o) 36) := ⟨by rw [hW0]; exact OnBook.start w h hb _ _⟩
  have hlv := live_any W0 base q B A1 c1 A2 c2 o.node HS.out.nx hw h1 h2
  have HWF := Aside0.mk hw
  obtain ⟨o0, o1, o34, o35, o36⟩ := HS.out.op
  clear h h1 h2 hw
  by_cases hl : liveOf B o.node = 0
  · obtain ⟨g1, g2, g3, g4⟩ := has_at HWF.out.devs (live_ok hl).1
    have hrv := (live_ok hl).2
    simp only [if_pos hl] at hlv
    have HLV := Aside0.mk hlv
    have G2 := Aside0.mk g2
    have G3 := Aside0.mk (And.intro g3 hrv)
    by_cases hfr : freshOf B o true = 0
    · have hX : rotateOf B o = ({ spendOf B (devAt B o.node).key with devs := B.devs.set (posD B.devs o.node) (devOf o) }, 0) := by unfold rotateOf; rw [if_pos hl, if_pos hfr]
      rw [hX]
      have HFR := Aside0.mk hfr
      clear hl hX hlv g1 g2 g3 g4 hrv hfr
      go_enter Tryz.func81, Tryz.ntmps81
      go_upto_region 1 with fail
      rw [← hW0]
      clear hW0
      go_wp2_with fail
      refine HLV.out.mono ?_
      rintro e w1 ⟨⟨g, rfl, rfl⟩, hb1⟩
      have HS1 := Aside0.mk (HS.out.later hb1)
      have lo := Aside0.mk (run_loadAtK Tryz.prog w1 36 37 Tryz.isAgg36 Tryz.sizeOf36 w.heap.size 0 (encO o) (encO_len o) (cells_of_heap HS1.out.bx))
      have HFC := Aside0.mk (fresh_any w1 base q B (some ⟨g, 0, none⟩) c1 A2 c2 o true HS1.out.nx HWF.out.few HS1.out.base_le)
      clear hb1 o0 o1 o34 o35 o36
      go_wp2_with ((with_reducible refine at_load 36 (.tmp 3) ?_); refine wpList_loadK rfl 36 (.tmp 3) rfl _ rfl _ lo.out ?_)
      refine HFC.out.mono ?_
      rintro e w2 ⟨rfl, hob⟩
      rw [HFR.out]
      have HS2 := Aside0.mk (HS1.out.later hob.all)
      have lk := Aside0.mk (run_loadAtK Tryz.prog w2 34 32 Tryz.isAgg34 Tryz.sizeOf34 g (posD B.devs o.node * 35 + 1) (encK (devAt B o.node).key) (encK_len _) (fun j v hj => by
        have h3 := dev_cell HS2.out.nx G2.out (keyOfD (devAt B o.node) j v hj)
        rw [← Nat.add_assoc] at h3
        exact h3))
      have HSP := Aside0.mk (spend_any w2 base q B (some ⟨g, 0, none⟩) c1 A2 c2 (devAt B o.node).key HS2.out.nx HWF.out.spent HWF.out.len HS2.out.base_le)
      clear hob
      go_wp2_with ((with_reducible refine at_load 34 (.tmp 25) ?_); refine wpList_loadK rfl 34 (.tmp 25) rfl _ rfl _ lk.out ?_)
      refine HSP.out.mono ?_
      rintro e w3 ⟨rfl, ⟨A2', c2', hn3⟩, hf3, hs3, hk3⟩
      have hbx3 : w3.heap[w.heap.size]? = some (.cells (encO o).toArray 36 (0, 0)) := (hk3 _ (Array.getElem?_eq_some_iff.1 HS2.out.bx).1 (fun e => by have h4 := HS2.out.nx.box; rw [← e, HS2.out.bx] at h4; have h5 := Option.some.inj h4; injection h5 with _ h6; exact absurd h6 (by decide)) (fun e => own_ne HS2.out.nx.lists.2.1 HS2.out.bx (by decide) e)).trans HS2.out.bx
      have HT : Aside0 (OnBook w3 w3 base q (spendOf B (devAt B o.node).key) (some ⟨g, 0, none⟩) c1 A2' c2' w.heap.size (encO o) 36) := ⟨⟨hn3, hbx3, Below.refl _ _, Nat.le_trans HS2.out.base_le hs3⟩⟩
      have HF3 := Aside0.mk hf3
      clear hn3 hf3 hs3 hk3 hbx3
      go_wp2_with fail
      refine start_ (n := 12) (S := fun W => W.heap[w.heap.size]? = some (.cells (encO o).toArray 36 (0, 0))) (ds := []) #[false, false, false, false, false, false, false, false, false, false, false, false] (by kernel_rfl) rfl rfl HT.out.drew.bx (fun hHeld => ?_)
      skip
      refine pure_ (i := 0) (N := (some 28)) (v := ?_) (a' := ?_) #[true, false, false, false, false, false, false, false, false, false, false, false] rfl rfl (by kernel_rfl) (fun _ _ _ h => h) (Or.inl ⟨by rfl, ?_⟩) ?_ ?_
      rotate_left
      · intro w'
        go_simp
        with_reducible rfl
      rotate_left
      · simp only [Act.put, List.setIfInBounds_toArray, List.set_cons_zero, List.set_cons_succ, i64_w, i32_w]
        rfl
      refine pure_ (i := 1) (N := (some 29)) (v := ?_) (a' := ?_) #[true, true, false, false, false, false, false, false, false, false, false, false] rfl rfl (by kernel_rfl) (fun _ _ _ h => h) (Or.inl ⟨by rfl, ?_⟩) ?_ ?_
      rotate_left
      · intro w'
        go_simp
        with_reducible rfl
      rotate_left
      · simp only [Act.put, List.setIfInBounds_toArray, List.set_cons_zero, List.set_cons_succ, i64_w, i32_w]
        rfl
      refine pure_ (i := 2) (N := (some 30)) (v := ?_) (a' := ?_) #[true, true, true, false, false, false, false, false, false, false, false, false] rfl rfl (by kernel_rfl) (fun _ _ _ h => h) (Or.inl ⟨by rfl, ?_⟩) ?_ ?_
      rotate_left
      · intro w'
        go_simp
        with_reducible rfl
      rotate_left
      · simp only [Act.put, List.setIfInBounds_toArray, List.set_cons_zero, List.set_cons_succ, i64_w, i32_w]
        rfl
      refine pure_ (i := 4) (N := (some 32)) (v := ?_) (a' := ?_) #[true, true, true, false, true, false, false, false, false, false, false, false] rfl rfl (by kernel_rfl) (fun _ _ _ h => h) (Or.inl ⟨by rfl, ?_⟩) ?_ ?_
      rotate_left
      · intro w'
        go_simp
        with_reducible rfl
      rotate_left
      · simp only [Act.put, List.setIfInBounds_toArray, List.set_cons_zero, List.set_cons_succ, i64_w, i32_w]
        rfl
      refine take_ (i := 3) (N := (some 31)) (v := _) (a' := ?_) #[true, true, true, true, true, false, false, false, false, false, false, false] rfl rfl (by kernel_rfl) (fun _ _ _ h => h) (Or.inl ⟨by rfl, fun w' hs => yields_load 34 (.tmp 30) _ rfl _ _ rfl _ (run_loadAtK Tryz.prog w' 34 32 Tryz.isAgg34 Tryz.sizeOf34 w.heap.size 2 (encK o.key) (encK_len _) (fun j v hj => by rw [cell_of_heap hs]; exact keyOfO o j v hj))⟩) hHeld ?_ ?_
      rotate_left
      · simp only [Act.put, List.setIfInBounds_toArray, List.set_cons_zero, List.set_cons_succ, i64_w, i32_w]
        rfl
      refine pure_ (i := 6) (N := (some 34)) (v := ?_) (a' := ?_) #[true, true, true, true, true, false, true, false, false, false, false, false] rfl rfl (by kernel_rfl) (fun _ _ _ h => h) (Or.inl ⟨by rfl, ?_⟩) ?_ ?_
      rotate_left
      · intro w'
        go_simp
        with_reducible rfl
      rotate_left
      · simp only [Act.put, List.setIfInBounds_toArray, List.set_cons_zero, List.set_cons_succ, i64_w, i32_w]
        rfl
      refine pure_ (i := 7) (N := (some 35)) (v := ?_) (a' := ?_) #[true, true, true, true, true, false, true, true, false, false, false, false] rfl rfl (by kernel_rfl) (fun _ _ _ h => h) (Or.inl ⟨by rfl, ?_⟩) ?_ ?_
      rotate_left
      · intro w'
        go_simp
        with_reducible rfl
      rotate_left
      · simp only [Act.put, List.setIfInBounds_toArray, List.set_cons_zero, List.set_cons_succ, i64_w, i32_w]
        rfl
      refine take_ (i := 5) (N := (some 33)) (v := ?_) (a' := ?_) #[true, true, true, true, true, true, true, true, false, false, false, false] rfl rfl (by kernel_rfl) (fun _ _ _ h => h) (Or.inl ⟨by rfl, ?_⟩) hHeld ?_ ?_
      rotate_left
      · rintro w' hs
        have o34 : w'.cell? ⟨w.heap.size, 34, none⟩ = some (.int .i64 o.exp) := by rw [cell_of_heap hs]; exact tailOfO o 0
        go_simp
        with_reducible rfl
      rotate_left
      · simp only [Act.put, List.setIfInBounds_toArray, List.set_cons_zero, List.set_cons_succ, i64_w, i32_w]
        rfl
      obtain ⟨w6, st6, ho6, hg6⟩ := put_dev HT.out.drew.nx.lists.1 rfl 34 32 Tryz.sizeOf34 (posD B.devs o.node) (devAt B o.node) { devAt B o.node with key := o.key } G2.out 1 (.agg (encK o.key).toArray) (encK o.key) (by simp [Value.cells]) (encK_len _) (by decide) (encK_one _) (encD_key _ _)
      have ST6 := Aside0.mk st6
      clear st6
      refine one_ (i := 8) (N := none) #[true, true, true, true, true, true, true, true, true, false, false, false] rfl rfl (by kernel_rfl) (by decide) (fun K hK => ?_)
      refine store_ (w1 := w6) (by rfl) rfl ?_ ?_
      · exact runs_store 34 (.tmp 35) (.tmp 31) _ rfl _ _ _ rfl rfl _ ST6.out
      have hS_ := (hg6.block w.heap.size (Array.getElem?_eq_some_iff.1 hHeld).1 (fun e => own_ne HT.out.drew.nx.lists.1 HT.out.drew.bx (by decide) e)).trans hHeld
      have HP6 := Aside0.mk (And.intro ho6 hg6)
      clear ho6 hg6
      refine hK.out _ _ hS_ (fun hHeld => ?_)
      clear hK K
      refine norm_ (a' := ?_) ?_ ?_
      rotate_left
      · show Act.put _ none _ = _
        simp only [Act.put, List.setIfInBounds_toArray, List.set_cons_zero, List.set_cons_succ, i64_w, i32_w]
        rfl
      refine pure_ (i := 9) (N := (some 36)) (v := ?_) (a' := ?_) #[true, true, true, true, true, true, true, true, true, true, false, false] rfl rfl (by kernel_rfl) (fun _ _ _ h => h) (Or.inl ⟨by rfl, ?_⟩) ?_ ?_
      rotate_left
      · intro w'
        go_simp
        with_reducible rfl
      rotate_left
      · simp only [Act.put, List.setIfInBounds_toArray, List.set_cons_zero, List.set_cons_succ, i64_w, i32_w]
        rfl
      refine pure_ (i := 10) (N := (some 37)) (v := ?_) (a' := ?_) #[true, true, true, true, true, true, true, true, true, true, true, false] rfl rfl (by kernel_rfl) (fun _ _ _ h => h) (Or.inl ⟨by rfl, ?_⟩) ?_ ?_
      rotate_left
      · intro w'
        go_simp
        with_reducible rfl
      rotate_left
      · simp only [Act.put, List.setIfInBounds_toArray, List.set_cons_zero, List.set_cons_succ, i64_w, i32_w]
        rfl
      obtain ⟨w7, st7, ho7, hg7⟩ := put_dev HP6.out.1 (by rw [List.length_set]) 3 1 Tryz.sizeOf3 (posD B.devs o.node) ({ devAt B o.node with key := o.key } : Dev) ({ ({ devAt B o.node with key := o.key } : Dev) with exp := o.exp } : Dev) (set_here G2.out) 33 (.int .i64 o.exp) [.int .i64 o.exp] rfl rfl (by decide) (by intro u hu; simp at hu; subst hu; rfl) (encD_exp ({ devAt B o.node with key := o.key } : Dev) o.exp)
      have ST7 := Aside0.mk st7
      have HP7 := Aside0.mk (And.intro ho7 hg7)
      clear st7 ho7 hg7
      refine one_ (i := 11) (N := none) #[true, true, true, true, true, true, true, true, true, true, true, true] rfl rfl (by kernel_rfl) (by decide) (fun K hK => ?_)
      refine store_ (w1 := w7) (by rfl) rfl ?_ ?_
      · exact runs_store 3 (.tmp 37) (.tmp 33) _ rfl _ _ _ rfl rfl _ ST7.out
      have hS_ := (HP7.out.2.block w.heap.size (Array.getElem?_eq_some_iff.1 hHeld).1 (fun e => own_ne HP6.out.1 hHeld (by decide) e)).trans hHeld
      refine hK.out _ _ hS_ (fun hHeld => ?_)
      clear hK K
      refine norm_ (a' := ?_) ?_ ?_
      rotate_left
      · show Act.put _ none _ = _
        simp only [Act.put, List.setIfInBounds_toArray, List.set_cons_zero, List.set_cons_succ, i64_w, i32_w]
        rfl
      refine done_ (by kernel_rfl) ?_
      go_wp2
      go_ret
      have hd2 : ({ ({ devAt B o.node with key := o.key } : Dev) with exp := o.exp } : Dev) = devOf o := by
        have h5 := G3.out.1
        have h6 := G3.out.2
        cases hd : devAt B o.node with
        | mk nd ky ex rv =>
          rw [hd] at h5 h6
          simp only at h5 h6
          subst h5 h6
          rfl
      have hn7 := next_devs HT.out.drew.nx (B.devs.set (posD B.devs o.node) (devOf o)) (by rw [List.length_set]; rfl) (by have h7 := HP7.out.1; rw [List.set_set, hd2] at h7; exact h7) (grownBy_trans HP6.out.2 HP7.out.2)
      have hfr := below_grown (grownBy_trans HP6.out.2 HP7.out.2) HT.out.drew.base_le (own_low HT.out.drew.nx.lists.1)
      have hall := HS2.out.fr.trans (HF3.out.trans ((Below.refl base w3).drew.trans hfr))
      exact ⟨rfl, fun _ => ⟨_, _, _, _, hn7⟩, hall, hall.size⟩
    · have hX : rotateOf B o = (B, freshOf B o true) := by unfold rotateOf; rw [if_pos hl, if_neg hfr]
      rw [hX]
      have hq0 : (freshOf B o true == 0) = false := by rw [beq_eq_false_iff_ne]; exact hfr
      have HFR := Aside0.mk hfr
      clear hl hX hlv g1 g2 g3 g4 hrv hfr
      go_enter Tryz.func81, Tryz.ntmps81
      go_upto_region 1 with fail
      rw [← hW0]
      clear hW0
      go_wp2_with fail
      refine HLV.out.mono ?_
      rintro e w1 ⟨⟨g, rfl, rfl⟩, hb1⟩
      have HS1 := Aside0.mk (HS.out.later hb1)
      have lo := Aside0.mk (run_loadAtK Tryz.prog w1 36 37 Tryz.isAgg36 Tryz.sizeOf36 w.heap.size 0 (encO o) (encO_len o) (cells_of_heap HS1.out.bx))
      have HFC := Aside0.mk (fresh_any w1 base q B (some ⟨g, 0, none⟩) c1 A2 c2 o true HS1.out.nx HWF.out.few HS1.out.base_le)
      clear hb1 o0 o1 o34 o35 o36
      go_wp2_with ((with_reducible refine at_load 36 (.tmp 3) ?_); refine wpList_loadK rfl 36 (.tmp 3) rfl _ rfl _ lo.out ?_)
      refine HFC.out.mono ?_
      rintro e w2 ⟨rfl, hob⟩
      have HS2 := Aside0.mk (HS1.out.later hob.all)
      clear hob
      go_wp2_with fail
      go_ret
      exact HS2.out.post B _ HFR.out
  · have hX : rotateOf B o = (B, liveOf B o.node) := by unfold rotateOf; rw [if_neg hl]
    simp only [if_neg hl] at hlv
    have HLV := Aside0.mk hlv
    rw [hX]
    have hq0 : (liveOf B o.node == 0) = false := by rw [beq_eq_false_iff_ne]; exact hl
    have HL := Aside0.mk hl
    clear hl hX hlv
    generalize liveOf B o.node = le at *
    go_enter Tryz.func81, Tryz.ntmps81
    go_upto_region 1 with fail
    rw [← hW0]
    clear hW0
    go_wp2_with fail
    refine HLV.out.mono ?_
    rintro e w1 ⟨rfl, hb1⟩
    have HS1 := Aside0.mk (HS.out.later hb1)
    clear hb1
    go_wp2_with fail
    go_ret
    exact HS1.out.post B le HL.out
end Go.Proofs.YthnpiimiimiijaaGreatDoor.Dir
