/- The document's directory: next. -/
import Derived.Test.YthnpiimiimiijaaGreatDoorRefE
namespace Go.Proofs.YthnpiimiimiijaaGreatDoor.Dir
open Go Go.RowKit Go.Proofs Go.Proofs.YthnpiimiimiijaaGreatDoorW.PrintWords Go.Proofs.YthnpiimiimiijaaGreatDoorW.PrintLast Go.Proofs.YthnpiimiimiijaaGreatDoorW.PrintMore
set_option linter.unusedVariables false
set_option linter.unusedSimpArgs false
theorem results_row_tmp {P : Program} {fn : Func} {p u : Tmp} {ty : TypeId} (h : fn.results = #[.cell p ty, .tmp u]) (tmps : Array Value) (w : World) (g : Nat) (t : TypeId) (cs : Array Value) (fr : Nat × Nat) (d : TypeDesc)
  (hp : tmps.getD p undef = .pointer (some ⟨g, 0, none⟩)) (hg : w.heap[g]? = some (.cells cs t fr))
  (hu : P.underlying ty = some d) (hd : (match d with | .struct _ | .array _ _ => true | _ => false) = true) (hi : (P.info? ty).map (·.size) = some cs.size) :
  (results fn tmps).run P w = .ok (.tuple #[.agg cs, tmps.getD u undef]) w := by
 rw [results_cell_tmp h, hp]
 simp [asAddr, run_loadVar_row w g t ty cs fr d hg hu hd hi, Result.andThen]
theorem SrcAt.setRow {w : World} {A : Option Addr} {n size : Nat} {xs : List Value} (h : SrcAt w A n size xs) {g : Nat} (hg : ∀ a, A = some a → a.block ≠ g) (cs : Array Value) : SrcAt (w.setRow g cs) A n size xs :=
 ⟨h.1, h.2.1, fun a ha j u hj => by
  rw [cell_setRow_other w g cs _ (by have e : (a.add j).block = a.block := (by unfold Addr.add; split <;> rfl); rw [e]; exact hg a ha)]
  exact h.2.2 a ha j u hj⟩
def NextEnd (w w' : World) (A1 A2 : Option Addr) (R : Book × Int) (e : Ending) : Prop :=
 ∃ A1' c1' A2' c2', e = .returned (.tuple #[.agg (bookCells R.1 A1' c1' A2' c2').toArray, .int .i64 R.2]) ∧ SrcB w' R.1 A1' A2' ∧ NewA w.heap.size w' 46 A1 A1' ∧ NewA w.heap.size w' 34 A2 A2' ∧ Below w.heap.size w w'
theorem room_at {W0 W : World} {r : Nat} {o : Obj} (h : W0.heap[r]? = some o) (hb : Below W0.heap.size W0 W) : W.heap[r]? = some o := (hb.block _ (Array.getElem?_eq_some_iff.1 h).1).trans h
set_option maxHeartbeats 8000000 in
set_option maxRecDepth 100000 in
theorem next_other (B : Book) (A1 : Option Addr) (c1 : Nat) (A2 : Option Addr) (c2 : Nat) (o : Op) (w : World) (h : SrcB w B A1 A2) (hw : WF B) (hk : o.kind ≠ 1 ∧ o.kind ≠ 2 ∧ o.kind ≠ 3 ∧ o.kind ≠ 4 ∧ o.kind ≠ 5) :
  Calls Tryz.prog 55 #[.agg (bookCells B A1 c1 A2 c2).toArray, .agg (encO o).toArray] w fun e w' => NextEnd w w' A1 A2 (nextOf rulesOf B o) e := by
 obtain ⟨W0, hW0⟩ : ∃ W0, W0 = ((w.alloc (.cells (bookCells B A1 c1 A2 c2).toArray 43)).alloc (.cells (encO o).toArray 36)).alloc (.cells #[.int .i64 0, .int .i64 0, .slice none 0 0, .slice none 0 0, .string ⟨#[]⟩] 43) := ⟨_, rfl⟩
 obtain ⟨p, hp⟩ : ∃ p, p = w.heap.size := ⟨_, rfl⟩
 have hsz : (w.alloc (.cells (bookCells B A1 c1 A2 c2).toArray 43)).heap.size = p + 1 := by rw [hp]; simp
 have hsz2 : ((w.alloc (.cells (bookCells B A1 c1 A2 c2).toArray 43)).alloc (.cells (encO o).toArray 36)).heap.size = p + 2 := by rw [hp]; simp
 have hI : InO w W0 p (p + 1) B A1 c1 A2 c2 o := by rw [hW0, hp]; exact (InO.start h).later ((Below.refl _ _).alloc (Nat.le_refl _) _)
 have q3 : W0.heap[p + 2]? = some (.cells ([.int .i64 0, .int .i64 0, .slice none 0 0, .slice none 0 0, .string ⟨#[]⟩] : List Value).toArray 43 (0, 0)) := by rw [hW0, ← hsz2]; exact heap_alloc_new _ _
 have HI := Aside0.mk hI
 have HQ3 := Aside0.mk (And.intro q3 (Array.getElem?_eq_some_iff.1 q3).1)
 have HAR := Aside0.mk h
 have HWF := Aside0.mk hw
 have HSM := Aside0.mk (show B.devs.length ≤ 100000000 ∧ B.spent.length ≤ 100000000 by have := devs_len hw; have := hw.len; omega)
 have HLB := Aside0.mk (fun (W : World) (hb : Below W0.heap.size W0 W) => (hI.later hb).bk.load)
 have HLO := Aside0.mk (fun (W : World) (hb : Below W0.heap.size W0 W) => (hI.later hb).load)
 have HFD := Aside0.mk (find_ref B A1 c1 A2 c2 o.node W0 hI.bk.src)
 have HIX := Aside0.mk (idx_pos hw o.node)
 have HFR := Aside0.mk (fun (m : Bool) (W : World) (hb : Below W0.heap.size W0 W) => fresh_ref B A1 c1 A2 c2 o m W (hI.later hb).bk.src (by have := devs_len hw; omega) (by have := hw.len; omega))
 obtain ⟨ix, hix⟩ : ∃ ix, ix = idxF B.devs o.node 0 := ⟨_, rfl⟩
 rw [← hix] at HFD HIX
 obtain ⟨R, hR⟩ : ∃ R, R = nextOf rulesOf B o := ⟨_, rfl⟩
 have HR := Aside0.mk hR
 rw [← hR]
 obtain ⟨BA, hBA⟩ : ∃ BA, BA = (bookCells B A1 c1 A2 c2).toArray := ⟨_, rfl⟩
 obtain ⟨OA, hOA⟩ : ∃ OA, OA = (encO o).toArray := ⟨_, rfl⟩
 have HBA := Aside0.mk (And.intro hBA (show BA.size = 5 by rw [hBA]; rfl))
 rw [← hBA] at hW0 hsz hsz2 HFD HLB HFR ⊢
 rw [← hOA] at hW0 hsz2 HFR HLO ⊢
 clear hI h hw q3 hix hR hBA hOA
 have HK := Aside0.mk hk
 clear hk
 go_enter Tryz.func55, Tryz.ntmps55
 go_upto_region 1 with fail
 rw [← hW0]
 try rw [hsz2]
 try rw [hsz]
 try rw [← hp]
 have HEQ := Aside0.mk (And.intro hW0 (And.intro hp (And.intro hsz hsz2)))
 clear hW0 hsz hsz2 hp
 obtain ⟨nd, hnd⟩ : ∃ nd, nd = o.node := ⟨_, rfl⟩
 have HND := Aside0.mk hnd
 rw [← hnd] at HFD
 have x1 : W0.cell? ⟨p + 1, 1, none⟩ = some (.int .i64 nd) := by rw [hnd]; exact HI.out.cells.2.1
 clear hnd
 have LB := Aside0.mk (HLB.out W0 (Below.refl _ _))
 go_wp2_with ((with_reducible refine at_load 43 (.tmp 2) ?_); refine wpList_loadK rfl 43 (.tmp 2) rfl _ rfl _ LB.out ?_)
 refine HFD.out.mono ?_
 rintro e w1 ⟨rfl, hb1⟩
 have HB1 := Aside0.mk hb1
 obtain ⟨x0, x1', x34, x35, x36⟩ := (HI.out.later hb1).cells
 obtain ⟨k0, k1, k2, k3, k4⟩ := (HI.out.later hb1).bk.cells
 rw [← HND.out] at x1'
 clear x1 hb1 k0 k4
 obtain ⟨kd, hkd⟩ : ∃ kd, kd = o.kind := ⟨_, rfl⟩
 rw [← hkd] at x0
 have z1 : (kd == 1) = false := beq_eq_false_iff_ne.2 (by rw [hkd]; exact HK.out.1)
 have z2 : (kd == 2) = false := beq_eq_false_iff_ne.2 (by rw [hkd]; exact HK.out.2.1)
 have z3 : (kd == 3) = false := beq_eq_false_iff_ne.2 (by rw [hkd]; exact HK.out.2.2.1)
 have z4 : (kd == 4) = false := beq_eq_false_iff_ne.2 (by rw [hkd]; exact HK.out.2.2.2.1)
 have z5 : (kd == 5) = false := beq_eq_false_iff_ne.2 (by rw [hkd]; exact HK.out.2.2.2.2)
 clear hkd
 have LB2 := Aside0.mk (HLB.out w1 HB1.out)
 obtain ⟨CB, hCB⟩ : ∃ CB, CB = BA := ⟨_, rfl⟩
 have ST := Aside0.mk (store_book w1 (p + 2) _ (room_at HQ3.out.1 HB1.out) rfl B A1 c1 A2 c2)
 have HF := Aside0.mk (setRow_heap w1 (p + 2) _ BA 43 (0, 0) (room_at HQ3.out.1 HB1.out))
 rw [← HBA.out.1] at ST
 have HSZ := Aside0.mk (show CB.size = 5 by rw [hCB]; exact HBA.out.2)
 have HCB := Aside0.mk (show CB = (bookCells B A1 c1 A2 c2).toArray by rw [hCB]; exact HBA.out.1)
 rw [← hCB] at LB2 ST HF
 clear hCB
 go_wp2_with (first | ((with_reducible refine at_load 43 (.tmp 2) ?_); refine wpList_loadK rfl 43 (.tmp 2) rfl _ rfl _ LB2.out ?_) | ((with_reducible refine at_store 43 (.tmp 4) (.tmp 141) ?_); refine wpList_storeK rfl 43 (.tmp 4) (.tmp 141) rfl rfl _ _ rfl rfl _ ST.out ?_))
 try simp only [Exit.inBlock, Exit.then]
 refine bodyPost_ret (results_row_tmp rfl _ _ (p + 2) 43 _ (0, 0) _ rfl HF.out Tryz.underlying43 rfl (by rw [HSZ.out]; kernel_rfl)) rfl ?_
 have hlt0 := HQ3.out.2
 have hfr : Below w.heap.size w (w1.setRow (p + 2) CB) := below_setRow (HI.out.bk.fr.trans ((HB1.out).mono HI.out.bk.fr.size)) (by rw [HEQ.out.2.1]; omega) _
 have hE : R = (B, _) := HR.out.trans (by unfold nextOf; rw [if_neg HK.out.1, if_neg HK.out.2.1, if_neg HK.out.2.2.1, if_neg HK.out.2.2.2.1, if_neg HK.out.2.2.2.2])
 rw [hE]
 refine ⟨A1, c1, A2, c2, by rw [HCB.out]; rfl, ⟨HAR.out.devs.grown hfr, HAR.out.spent.grown hfr, HAR.out.few, HAR.out.len⟩, .inl rfl, .inl rfl, hfr⟩
set_option maxHeartbeats 8000000 in
set_option maxRecDepth 100000 in
theorem next_5 (B : Book) (A1 : Option Addr) (c1 : Nat) (A2 : Option Addr) (c2 : Nat) (o : Op) (w : World) (h : SrcB w B A1 A2) (hw : WF B) (hk : o.kind = 5) :
  Calls Tryz.prog 55 #[.agg (bookCells B A1 c1 A2 c2).toArray, .agg (encO o).toArray] w fun e w' => NextEnd w w' A1 A2 (nextOf rulesOf B o) e := by
 obtain ⟨W0, hW0⟩ : ∃ W0, W0 = ((w.alloc (.cells (bookCells B A1 c1 A2 c2).toArray 43)).alloc (.cells (encO o).toArray 36)).alloc (.cells #[.int .i64 0, .int .i64 0, .slice none 0 0, .slice none 0 0, .string ⟨#[]⟩] 43) := ⟨_, rfl⟩
 obtain ⟨p, hp⟩ : ∃ p, p = w.heap.size := ⟨_, rfl⟩
 have hsz : (w.alloc (.cells (bookCells B A1 c1 A2 c2).toArray 43)).heap.size = p + 1 := by rw [hp]; simp
 have hsz2 : ((w.alloc (.cells (bookCells B A1 c1 A2 c2).toArray 43)).alloc (.cells (encO o).toArray 36)).heap.size = p + 2 := by rw [hp]; simp
 have hI : InO w W0 p (p + 1) B A1 c1 A2 c2 o := by rw [hW0, hp]; exact (InO.start h).later ((Below.refl _ _).alloc (Nat.le_refl _) _)
 have q3 : W0.heap[p + 2]? = some (.cells ([.int .i64 0, .int .i64 0, .slice none 0 0, .slice none 0 0, .string ⟨#[]⟩] : List Value).toArray 43 (0, 0)) := by rw [hW0, ← hsz2]; exact heap_alloc_new _ _
 have HI := Aside0.mk hI
 have HQ3 := Aside0.mk (And.intro q3 (Array.getElem?_eq_some_iff.1 q3).1)
 have HAR := Aside0.mk h
 have HWF := Aside0.mk hw
 have HSM := Aside0.mk (show B.devs.length ≤ 100000000 ∧ B.spent.length ≤ 100000000 by have := devs_len hw; have := hw.len; omega)
 have HLB := Aside0.mk (fun (W : World) (hb : Below W0.heap.size W0 W) => (hI.later hb).bk.load)
 have HLO := Aside0.mk (fun (W : World) (hb : Below W0.heap.size W0 W) => (hI.later hb).load)
 have HFD := Aside0.mk (find_ref B A1 c1 A2 c2 o.node W0 hI.bk.src)
 have HIX := Aside0.mk (idx_pos hw o.node)
 have HFR := Aside0.mk (fun (m : Bool) (W : World) (hb : Below W0.heap.size W0 W) => fresh_ref B A1 c1 A2 c2 o m W (hI.later hb).bk.src (by have := devs_len hw; omega) (by have := hw.len; omega))
 obtain ⟨ix, hix⟩ : ∃ ix, ix = idxF B.devs o.node 0 := ⟨_, rfl⟩
 rw [← hix] at HFD HIX
 obtain ⟨R, hR⟩ : ∃ R, R = nextOf rulesOf B o := ⟨_, rfl⟩
 have HR := Aside0.mk hR
 rw [← hR]
 obtain ⟨BA, hBA⟩ : ∃ BA, BA = (bookCells B A1 c1 A2 c2).toArray := ⟨_, rfl⟩
 obtain ⟨OA, hOA⟩ : ∃ OA, OA = (encO o).toArray := ⟨_, rfl⟩
 have HBA := Aside0.mk (And.intro hBA (show BA.size = 5 by rw [hBA]; rfl))
 rw [← hBA] at hW0 hsz hsz2 HFD HLB HFR ⊢
 rw [← hOA] at hW0 hsz2 HFR HLO ⊢
 clear hI h hw q3 hix hR hBA hOA
 have HK := Aside0.mk hk
 clear hk
 go_enter Tryz.func55, Tryz.ntmps55
 go_upto_region 1 with fail
 rw [← hW0]
 try rw [hsz2]
 try rw [hsz]
 try rw [← hp]
 have HEQ := Aside0.mk (And.intro hW0 (And.intro hp (And.intro hsz hsz2)))
 clear hW0 hsz hsz2 hp
 obtain ⟨nd, hnd⟩ : ∃ nd, nd = o.node := ⟨_, rfl⟩
 have HND := Aside0.mk hnd
 rw [← hnd] at HFD
 have x1 : W0.cell? ⟨p + 1, 1, none⟩ = some (.int .i64 nd) := by rw [hnd]; exact HI.out.cells.2.1
 clear hnd
 have LB := Aside0.mk (HLB.out W0 (Below.refl _ _))
 go_wp2_with ((with_reducible refine at_load 43 (.tmp 2) ?_); refine wpList_loadK rfl 43 (.tmp 2) rfl _ rfl _ LB.out ?_)
 refine HFD.out.mono ?_
 rintro e w1 ⟨rfl, hb1⟩
 have HB1 := Aside0.mk hb1
 obtain ⟨x0, x1', x34, x35, x36⟩ := (HI.out.later hb1).cells
 obtain ⟨k0, k1, k2, k3, k4⟩ := (HI.out.later hb1).bk.cells
 rw [← HND.out] at x1'
 clear x1 hb1 k0 k4
 rw [HK.out] at x0
 obtain ⟨xa, hxa⟩ : ∃ xa, xa = o.at_ := ⟨_, rfl⟩
 obtain ⟨ck, hck⟩ : ∃ ck, ck = B.clock := ⟨_, rfl⟩
 rw [← hxa] at x36
 rw [← hck] at k1
 obtain ⟨nx, hnx⟩ : ∃ nx, nx = number xa := ⟨_, rfl⟩
 have HN : Aside0 (∀ W, Calls Tryz.prog 66 #[.int .i64 xa] W fun e w' => e = .returned (.bool nx) ∧ w' = W) := ⟨fun W => by rw [hnx]; exact number66 xa W⟩
 have HXA := Aside0.mk (And.intro hxa (And.intro hck hnx))
 clear hxa hck hnx
 by_cases e1 : xa ≤ ck
 ·have d1 : decide (xa ≤ ck) = true := decide_eq_true e1
  have HW : Aside0 (o.at_ ≤ B.clock ∨ number o.at_ = false) := ⟨.inl (by rw [← HXA.out.1, ← HXA.out.2.1]; exact e1)⟩
  clear e1
  have LB2 := Aside0.mk (HLB.out w1 HB1.out)
  obtain ⟨CB, hCB⟩ : ∃ CB, CB = BA := ⟨_, rfl⟩
  have ST := Aside0.mk (store_book w1 (p + 2) _ (room_at HQ3.out.1 HB1.out) rfl B A1 c1 A2 c2)
  have HF := Aside0.mk (setRow_heap w1 (p + 2) _ BA 43 (0, 0) (room_at HQ3.out.1 HB1.out))
  rw [← HBA.out.1] at ST
  have HSZ := Aside0.mk (show CB.size = 5 by rw [hCB]; exact HBA.out.2)
  have HCB := Aside0.mk (show CB = (bookCells B A1 c1 A2 c2).toArray by rw [hCB]; exact HBA.out.1)
  rw [← hCB] at LB2 ST HF
  clear hCB
  go_wp2_with (first | ((with_reducible refine at_load 43 (.tmp 2) ?_); refine wpList_loadK rfl 43 (.tmp 2) rfl _ rfl _ LB2.out ?_) | ((with_reducible refine at_store 43 (.tmp 4) (.tmp 136) ?_); refine wpList_storeK rfl 43 (.tmp 4) (.tmp 136) rfl rfl _ _ rfl rfl _ ST.out ?_))
  try simp only [Exit.inBlock, Exit.then]
  refine bodyPost_ret (results_row_tmp rfl _ _ (p + 2) 43 _ (0, 0) _ rfl HF.out Tryz.underlying43 rfl (by rw [HSZ.out]; kernel_rfl)) rfl ?_
  have hlt0 := HQ3.out.2
  have hfr : Below w.heap.size w (w1.setRow (p + 2) CB) := below_setRow (HI.out.bk.fr.trans ((HB1.out).mono HI.out.bk.fr.size)) (by rw [HEQ.out.2.1]; omega) _
  have hE : R = (B, _) := HR.out.trans (by unfold nextOf advanceOf; rw [HK.out]; simp only [show ¬ ((5 : Int) = 1) by decide, show ¬ ((5 : Int) = 2) by decide, show ¬ ((5 : Int) = 3) by decide, show ¬ ((5 : Int) = 4) by decide, if_true, if_false]; rw [if_pos HW.out])
  rw [hE]
  refine ⟨A1, c1, A2, c2, by rw [HCB.out]; rfl, ⟨HAR.out.devs.grown hfr, HAR.out.spent.grown hfr, HAR.out.few, HAR.out.len⟩, .inl rfl, .inl rfl, hfr⟩
 have d1 : decide (xa ≤ ck) = false := decide_eq_false e1
 have HE1 := Aside0.mk e1
 clear e1
 cases nx
 ·have HW : Aside0 (o.at_ ≤ B.clock ∨ number o.at_ = false) := ⟨.inr (by rw [← HXA.out.1]; exact HXA.out.2.2.symm)⟩
  have LB2 := Aside0.mk (HLB.out w1 HB1.out)
  obtain ⟨CB, hCB⟩ : ∃ CB, CB = BA := ⟨_, rfl⟩
  have ST := Aside0.mk (store_book w1 (p + 2) _ (room_at HQ3.out.1 HB1.out) rfl B A1 c1 A2 c2)
  have HF := Aside0.mk (setRow_heap w1 (p + 2) _ BA 43 (0, 0) (room_at HQ3.out.1 HB1.out))
  rw [← HBA.out.1] at ST
  have HSZ := Aside0.mk (show CB.size = 5 by rw [hCB]; exact HBA.out.2)
  have HCB := Aside0.mk (show CB = (bookCells B A1 c1 A2 c2).toArray by rw [hCB]; exact HBA.out.1)
  rw [← hCB] at LB2 ST HF
  clear hCB
  go_wp2_with (first | (go_at_call 66; refine (HN.out _).mono ?_; rintro e w' ⟨rfl, hw⟩; obtain rfl := hw.symm) | ((with_reducible refine at_load 43 (.tmp 2) ?_); refine wpList_loadK rfl 43 (.tmp 2) rfl _ rfl _ LB2.out ?_) | ((with_reducible refine at_store 43 (.tmp 4) (.tmp 136) ?_); refine wpList_storeK rfl 43 (.tmp 4) (.tmp 136) rfl rfl _ _ rfl rfl _ ST.out ?_))
  try simp only [Exit.inBlock, Exit.then]
  refine bodyPost_ret (results_row_tmp rfl _ _ (p + 2) 43 _ (0, 0) _ rfl HF.out Tryz.underlying43 rfl (by rw [HSZ.out]; kernel_rfl)) rfl ?_
  have hlt0 := HQ3.out.2
  have hfr : Below w.heap.size w (w1.setRow (p + 2) CB) := below_setRow (HI.out.bk.fr.trans ((HB1.out).mono HI.out.bk.fr.size)) (by rw [HEQ.out.2.1]; omega) _
  have hE : R = (B, _) := HR.out.trans (by unfold nextOf advanceOf; rw [HK.out]; simp only [show ¬ ((5 : Int) = 1) by decide, show ¬ ((5 : Int) = 2) by decide, show ¬ ((5 : Int) = 3) by decide, show ¬ ((5 : Int) = 4) by decide, if_true, if_false]; rw [if_pos HW.out])
  rw [hE]
  refine ⟨A1, c1, A2, c2, by rw [HCB.out]; rfl, ⟨HAR.out.devs.grown hfr, HAR.out.spent.grown hfr, HAR.out.few, HAR.out.len⟩, .inl rfl, .inl rfl, hfr⟩
 have HW : Aside0 (¬ (o.at_ ≤ B.clock ∨ number o.at_ = false)) := ⟨by
  rw [← HXA.out.1, ← HXA.out.2.1, ← HXA.out.2.2]
  rintro (h | h)
  ·exact HE1.out h
  ·cases h⟩
 have fz : w1.frozen? ⟨p, 1, none⟩ = false := frozen_of_heap (HI.out.later HB1.out).bk.bx
 obtain ⟨W6, hW6⟩ : ∃ W6, W6 = w1.setCell ⟨p, 1, none⟩ (.int .i64 xa) := ⟨_, rfl⟩
 have hq : W6.heap[p]? = some (.cells (bookCells { B with clock := o.at_ } A1 c1 A2 c2).toArray 43 (0, 0)) := by
  rw [hW6, heap_setCell_same w1 p 1 _ _ _ (HI.out.later HB1.out).bk.bx]
  rw [HXA.out.1]; rfl
 have hq3 : W6.heap[p + 2]? = some (.cells ([.int .i64 0, .int .i64 0, .slice none 0 0, .slice none 0 0, .string ⟨#[]⟩] : List Value).toArray 43 (0, 0)) := by
  rw [hW6, Below.heap_setCell _ _ _ _ (by simp)]
  exact room_at HQ3.out.1 HB1.out
 have LB2 := Aside0.mk (run_loadAtK Tryz.prog W6 43 5 Tryz.isAgg43 Tryz.sizeOf43 p 0 _ rfl (cells_of_heap hq))
 have ST := Aside0.mk (store_book W6 (p + 2) _ hq3 rfl { B with clock := o.at_ } A1 c1 A2 c2)
 have HF := Aside0.mk (setRow_heap W6 (p + 2) _ (bookCells { B with clock := o.at_ } A1 c1 A2 c2).toArray 43 (0, 0) hq3)
 have HW6 := Aside0.mk hW6
 clear hq hq3
 obtain ⟨CB, hCB⟩ : ∃ CB, CB = (bookCells { B with clock := o.at_ } A1 c1 A2 c2).toArray := ⟨_, rfl⟩
 rw [← hCB] at LB2 ST HF
 have HCB := Aside0.mk hCB
 have HSZ := Aside0.mk (show CB.size = 5 by rw [hCB]; rfl)
 clear hCB
 go_upto_region 34 with (go_at_call 66; refine (HN.out _).mono ?_; rintro e w' ⟨rfl, hw⟩; obtain rfl := hw.symm)
 rw [← hW6]
 clear hW6 fz k1
 go_wp2_with (first | ((with_reducible refine at_load 43 (.tmp 2) ?_); refine wpList_loadK rfl 43 (.tmp 2) rfl _ rfl _ LB2.out ?_) | ((with_reducible refine at_store 43 (.tmp 4) (.tmp 140) ?_); refine wpList_storeK rfl 43 (.tmp 4) (.tmp 140) rfl rfl _ _ rfl rfl _ ST.out ?_))
 try simp only [Exit.inBlock, Exit.then]
 refine bodyPost_ret (results_row_tmp rfl _ _ (p + 2) 43 _ (0, 0) _ rfl HF.out Tryz.underlying43 rfl (by rw [HSZ.out]; kernel_rfl)) rfl ?_
 have hlt0 := HQ3.out.2
 have hfr : Below w.heap.size w (W6.setRow (p + 2) CB) := below_setRow (by rw [HW6.out]; exact (HI.out.bk.fr.trans (HB1.out.mono HI.out.bk.fr.size)).setCell (by rw [HEQ.out.2.1]; exact Nat.le_refl _) _) (by rw [HEQ.out.2.1]; omega) _
 have hE : R = ({ B with clock := o.at_ }, _) := HR.out.trans (by unfold nextOf advanceOf; rw [HK.out]; simp only [show ¬ ((5 : Int) = 1) by decide, show ¬ ((5 : Int) = 2) by decide, show ¬ ((5 : Int) = 3) by decide, show ¬ ((5 : Int) = 4) by decide, if_true, if_false]; rw [if_neg HW.out])
 rw [hE]
 refine ⟨A1, c1, A2, c2, by rw [HCB.out]; rfl, ⟨HAR.out.devs.grown hfr, HAR.out.spent.grown hfr, HAR.out.few, HAR.out.len⟩, .inl rfl, .inl rfl, hfr⟩
set_option maxHeartbeats 8000000 in
set_option maxRecDepth 100000 in
theorem next_4 (B : Book) (A1 : Option Addr) (c1 : Nat) (A2 : Option Addr) (c2 : Nat) (o : Op) (w : World) (h : SrcB w B A1 A2) (hw : WF B) (hk : o.kind = 4) :
  Calls Tryz.prog 55 #[.agg (bookCells B A1 c1 A2 c2).toArray, .agg (encO o).toArray] w fun e w' => NextEnd w w' A1 A2 (nextOf rulesOf B o) e := by
 obtain ⟨W0, hW0⟩ : ∃ W0, W0 = ((w.alloc (.cells (bookCells B A1 c1 A2 c2).toArray 43)).alloc (.cells (encO o).toArray 36)).alloc (.cells #[.int .i64 0, .int .i64 0, .slice none 0 0, .slice none 0 0, .string ⟨#[]⟩] 43) := ⟨_, rfl⟩
 obtain ⟨p, hp⟩ : ∃ p, p = w.heap.size := ⟨_, rfl⟩
 have hsz : (w.alloc (.cells (bookCells B A1 c1 A2 c2).toArray 43)).heap.size = p + 1 := by rw [hp]; simp
 have hsz2 : ((w.alloc (.cells (bookCells B A1 c1 A2 c2).toArray 43)).alloc (.cells (encO o).toArray 36)).heap.size = p + 2 := by rw [hp]; simp
 have hI : InO w W0 p (p + 1) B A1 c1 A2 c2 o := by rw [hW0, hp]; exact (InO.start h).later ((Below.refl _ _).alloc (Nat.le_refl _) _)
 have q3 : W0.heap[p + 2]? = some (.cells ([.int .i64 0, .int .i64 0, .slice none 0 0, .slice none 0 0, .string ⟨#[]⟩] : List Value).toArray 43 (0, 0)) := by rw [hW0, ← hsz2]; exact heap_alloc_new _ _
 have HI := Aside0.mk hI
 have HQ3 := Aside0.mk (And.intro q3 (Array.getElem?_eq_some_iff.1 q3).1)
 have HAR := Aside0.mk h
 have HWF := Aside0.mk hw
 have HSM := Aside0.mk (show B.devs.length ≤ 100000000 ∧ B.spent.length ≤ 100000000 by have := devs_len hw; have := hw.len; omega)
 have HLB := Aside0.mk (fun (W : World) (hb : Below W0.heap.size W0 W) => (hI.later hb).bk.load)
 have HLO := Aside0.mk (fun (W : World) (hb : Below W0.heap.size W0 W) => (hI.later hb).load)
 have HFD := Aside0.mk (find_ref B A1 c1 A2 c2 o.node W0 hI.bk.src)
 have HIX := Aside0.mk (idx_pos hw o.node)
 have HFR := Aside0.mk (fun (m : Bool) (W : World) (hb : Below W0.heap.size W0 W) => fresh_ref B A1 c1 A2 c2 o m W (hI.later hb).bk.src (by have := devs_len hw; omega) (by have := hw.len; omega))
 obtain ⟨ix, hix⟩ : ∃ ix, ix = idxF B.devs o.node 0 := ⟨_, rfl⟩
 rw [← hix] at HFD HIX
 obtain ⟨R, hR⟩ : ∃ R, R = nextOf rulesOf B o := ⟨_, rfl⟩
 have HR := Aside0.mk hR
 rw [← hR]
 obtain ⟨BA, hBA⟩ : ∃ BA, BA = (bookCells B A1 c1 A2 c2).toArray := ⟨_, rfl⟩
 obtain ⟨OA, hOA⟩ : ∃ OA, OA = (encO o).toArray := ⟨_, rfl⟩
 have HBA := Aside0.mk (And.intro hBA (show BA.size = 5 by rw [hBA]; rfl))
 rw [← hBA] at hW0 hsz hsz2 HFD HLB HFR ⊢
 rw [← hOA] at hW0 hsz2 HFR HLO ⊢
 clear hI h hw q3 hix hR hBA hOA
 have HK := Aside0.mk hk
 clear hk
 go_enter Tryz.func55, Tryz.ntmps55
 go_upto_region 1 with fail
 rw [← hW0]
 try rw [hsz2]
 try rw [hsz]
 try rw [← hp]
 have HEQ := Aside0.mk (And.intro hW0 (And.intro hp (And.intro hsz hsz2)))
 clear hW0 hsz hsz2 hp
 obtain ⟨nd, hnd⟩ : ∃ nd, nd = o.node := ⟨_, rfl⟩
 have HND := Aside0.mk hnd
 rw [← hnd] at HFD
 have x1 : W0.cell? ⟨p + 1, 1, none⟩ = some (.int .i64 nd) := by rw [hnd]; exact HI.out.cells.2.1
 clear hnd
 have LB := Aside0.mk (HLB.out W0 (Below.refl _ _))
 go_wp2_with ((with_reducible refine at_load 43 (.tmp 2) ?_); refine wpList_loadK rfl 43 (.tmp 2) rfl _ rfl _ LB.out ?_)
 refine HFD.out.mono ?_
 rintro e w1 ⟨rfl, hb1⟩
 have HB1 := Aside0.mk hb1
 obtain ⟨x0, x1', x34, x35, x36⟩ := (HI.out.later hb1).cells
 obtain ⟨k0, k1, k2, k3, k4⟩ := (HI.out.later hb1).bk.cells
 rw [← HND.out] at x1'
 clear x1 hb1 k0 k4
 rw [HK.out] at x0
 obtain ⟨pe, hpe⟩ : ∃ pe, pe = rulesOf o.text := ⟨_, rfl⟩
 have HPE := Aside0.mk hpe
 have HPR := Aside0.mk (parse_ref o.text w1)
 rw [← hpe] at HPR
 clear hpe
 go_wp2_with fail
 refine HPR.out.mono ?_
 rintro e w2 ⟨⟨v0, rfl⟩, hb2⟩
 have HB1 := Aside0.mk (below_step HB1.out hb2)
 have HB2 := Aside0.mk hb2
 clear hb2 x0 x1' x34 x35 x36 k1 k2 k3
 obtain ⟨-, -, -, x35, -⟩ := (HI.out.later HB1.out).cells
 obtain ⟨-, -, -, -, k4⟩ := (HI.out.later HB1.out).bk.cells
 have fz : w2.frozen? ⟨p, 4, none⟩ = false := frozen_of_heap (HI.out.later HB1.out).bk.bx
 obtain ⟨W6, hW6⟩ : ∃ W6, W6 = w2.setCell ⟨p, 4, none⟩ (.string (str o.text)) := ⟨_, rfl⟩
 have hq : W6.heap[p]? = some (.cells (bookCells { B with acl := o.text } A1 c1 A2 c2).toArray 43 (0, 0)) := by
  rw [hW6, heap_setCell_same w2 p 4 _ _ _ (HI.out.later HB1.out).bk.bx]
  rfl
 have hq3 : W6.heap[p + 2]? = some (.cells ([.int .i64 0, .int .i64 0, .slice none 0 0, .slice none 0 0, .string ⟨#[]⟩] : List Value).toArray 43 (0, 0)) := by
  rw [hW6, Below.heap_setCell _ _ _ _ (by simp)]
  exact room_at HQ3.out.1 HB1.out
 have LB2 := Aside0.mk (run_loadAtK Tryz.prog W6 43 5 Tryz.isAgg43 Tryz.sizeOf43 p 0 _ rfl (cells_of_heap hq))
 have ST := Aside0.mk (store_book W6 (p + 2) _ hq3 rfl { B with acl := o.text } A1 c1 A2 c2)
 have HF := Aside0.mk (setRow_heap W6 (p + 2) _ (bookCells { B with acl := o.text } A1 c1 A2 c2).toArray 43 (0, 0) hq3)
 have HW6 := Aside0.mk hW6
 clear hq hq3
 obtain ⟨CB, hCB⟩ : ∃ CB, CB = (bookCells { B with acl := o.text } A1 c1 A2 c2).toArray := ⟨_, rfl⟩
 rw [← hCB] at LB2 ST HF
 have HCB := Aside0.mk hCB
 have HSZ := Aside0.mk (show CB.size = 5 by rw [hCB]; rfl)
 clear hCB
 go_upto_region 29 with fail
 rw [← hW6]
 clear hW6 fz k4
 go_wp2_with (first | ((with_reducible refine at_load 43 (.tmp 2) ?_); refine wpList_loadK rfl 43 (.tmp 2) rfl _ rfl _ LB2.out ?_) | ((with_reducible refine at_store 43 (.tmp 4) (.tmp 121) ?_); refine wpList_storeK rfl 43 (.tmp 4) (.tmp 121) rfl rfl _ _ rfl rfl _ ST.out ?_))
 try simp only [Exit.inBlock, Exit.then]
 refine bodyPost_ret (results_row_tmp rfl _ _ (p + 2) 43 _ (0, 0) _ rfl HF.out Tryz.underlying43 rfl (by rw [HSZ.out]; kernel_rfl)) rfl ?_
 have hlt0 := HQ3.out.2
 have hfr : Below w.heap.size w (W6.setRow (p + 2) CB) := below_setRow (by rw [HW6.out]; exact (HI.out.bk.fr.trans (HB1.out.mono HI.out.bk.fr.size)).setCell (by rw [HEQ.out.2.1]; exact Nat.le_refl _) _) (by rw [HEQ.out.2.1]; omega) _
 have hE : R = ({ B with acl := o.text }, _) := HR.out.trans (by unfold nextOf; rw [HK.out]; simp only [show ¬ ((4 : Int) = 1) by decide, show ¬ ((4 : Int) = 2) by decide, show ¬ ((4 : Int) = 3) by decide, if_true, if_false]; rw [← HPE.out])
 rw [hE]
 refine ⟨A1, c1, A2, c2, by rw [HCB.out]; rfl, ⟨HAR.out.devs.grown hfr, HAR.out.spent.grown hfr, HAR.out.few, HAR.out.len⟩, .inl rfl, .inl rfl, hfr⟩
end Go.Proofs.YthnpiimiimiijaaGreatDoor.Dir
