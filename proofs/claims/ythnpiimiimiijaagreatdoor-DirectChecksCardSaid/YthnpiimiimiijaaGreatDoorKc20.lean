/- The document's Check. Load, of both; a book that is spoilt. A book that is spoilt. DirectApplies: directories are as the chapter says. Writers: numbers as bytes. -/
import Derived.Test.YthnpiimiimiijaaGreatDoorKc19
section
namespace Go.Proofs.YthnpiimiimiijaaGreatDoor.Dir
open Go Go.RowKit Go.Proofs Go.Proofs.YthnpiimiimiijaaGreatDoorW.PrintWords Go.Proofs.YthnpiimiimiijaaGreatDoorW.PrintLast Go.Proofs.YthnpiimiimiijaaGreatDoorW.PrintMore
set_option linter.unusedVariables false
set_option linter.unusedSimpArgs false
/-- A book that may be. -/
def MayB (B : Book) : Prop := WF B ∧ rulesOf B.acl = 0
theorem may_ok (B : Book) : OkB B ↔ MayB B := ⟨fun h => ⟨wf_of_ok h, h.acl⟩, fun h => ok_of h.1 h.2⟩
def RCheckEnd (B : Book) (e : Ending) : Prop := (e = .returned (.int .i64 0) ∧ MayB B) ∨ (e = .returned (.int .i64 2) ∧ ¬ MayB B)
theorem keysR_perm (B : Book) : (keysR B).Perm (takenB B) := List.perm_append_comm
theorem may_devs {B : Book} (h : MayB B) : devsOk 0 B.devs = true := (ok_of h.1 h.2).devs
set_option maxHeartbeats 8000000 in
set_option maxRecDepth 100000 in
theorem check_ref (B : Book) (A1 : Option Addr) (c1 : Nat) (A2 : Option Addr) (c2 : Nat) (w : World) (h : SrcB w B A1 A2) :
  Calls Tryz.prog 31 #[.agg (bookCells B A1 c1 A2 c2).toArray] w fun e w' => RCheckEnd B e ∧ Below w.heap.size w w' := by
 have hI := InB.start (c1 := c1) (c2 := c2) h
 obtain ⟨W0, hW0⟩ : ∃ W0, W0 = w.alloc (.cells (bookCells B A1 c1 A2 c2).toArray 43) := ⟨_, rfl⟩
 obtain ⟨p, hp⟩ : ∃ p, p = w.heap.size := ⟨_, rfl⟩
 rw [← hW0, ← hp] at hI
 have HI := Aside0.mk hI
 have HLB := Aside0.mk (fun (W : World) (hb : Below W0.heap.size W0 W) => (hI.later hb).load)
 have HKR := Aside0.mk (fun (W : World) (hb : Below W0.heap.size W0 W) (h1 : B.devs.length ≤ 8) (h2 : B.spent.length ≤ 64) => keys_ref B A1 c1 A2 c2 W (hI.later hb).src (by omega) (by omega))
 have hfw := h.few
 have hln := h.len
 obtain ⟨k0, k1, k2, k3, k4⟩ := hI.cells
 obtain ⟨BA, hBA⟩ : ∃ BA, BA = (bookCells B A1 c1 A2 c2).toArray := ⟨_, rfl⟩
 rw [← hBA] at hW0 HLB HKR ⊢
 obtain ⟨n1, hn1⟩ : ∃ n1, n1 = number B.ver := ⟨_, rfl⟩
 obtain ⟨n2, hn2⟩ : ∃ n2, n2 = number B.clock := ⟨_, rfl⟩
 have HV : Aside0 (∀ W, Calls Tryz.prog 66 #[.int .i64 B.ver] W fun e w' => e = .returned (.bool n1) ∧ w' = W) := ⟨fun W => by rw [hn1]; exact number66 _ _⟩
 have HC : Aside0 (∀ W, Calls Tryz.prog 66 #[.int .i64 B.clock] W fun e w' => e = .returned (.bool n2) ∧ w' = W) := ⟨fun W => by rw [hn2]; exact number66 _ _⟩
 have HN := Aside0.mk (And.intro hn1 hn2)
 have HN0 := Aside0.mk (And.intro hn1 hn2)
 clear hI h hBA hn1 hn2
 go_enter Tryz.func31, Tryz.ntmps31
 go_upto_region 1 with fail
 rw [← hW0, ← hp]
 have HEQ := Aside0.mk (And.intro hW0 hp)
 clear hW0 hp
 cases n1
 ·skip
  go_wp2_with fail
  refine (HV.out _).mono ?_
  rintro e w' ⟨rfl, hw⟩
  obtain rfl := hw.symm
  clear hw
  go_wp2_with fail
  go_ret
  exact ⟨.inr ⟨rfl, fun h => by have h3 := HN.out.1; rw [show number B.ver = true from decide_eq_true h.1.ver] at h3; cases h3⟩, HI.out.fr⟩
 cases n2
 ·skip
  go_wp2_with fail
  refine (HV.out _).mono ?_
  rintro e w' ⟨rfl, hw⟩
  obtain rfl := hw.symm
  clear hw
  go_wp2_with fail
  refine (HC.out _).mono ?_
  rintro e w' ⟨rfl, hw⟩
  obtain rfl := hw.symm
  clear hw
  go_wp2_with fail
  go_ret
  exact ⟨.inr ⟨rfl, fun h => by have h3 := HN.out.2; rw [show number B.clock = true from decide_eq_true h.1.clock] at h3; cases h3⟩, HI.out.fr⟩
 by_cases g1 : 8 < B.devs.length
 ·have g1z : (8 : Int) < (B.devs.length : Int) := by omega
  have HG := Aside0.mk g1
  clear g1
  go_wp2_with fail
  refine (HV.out _).mono ?_
  rintro e w' ⟨rfl, hw⟩
  obtain rfl := hw.symm
  clear hw
  go_wp2_with fail
  refine (HC.out _).mono ?_
  rintro e w' ⟨rfl, hw⟩
  obtain rfl := hw.symm
  clear hw
  go_wp2_with fail
  go_ret
  exact ⟨.inr ⟨rfl, fun h => by have := h.1.few.1; have := HG.out; omega⟩, HI.out.fr⟩
 by_cases g2 : 64 < B.spent.length
 ·have g1z : ¬ (8 : Int) < (B.devs.length : Int) := by omega
  have g2z : (64 : Int) < (B.spent.length : Int) := by omega
  have HG := Aside0.mk g2
  clear g1 g2
  go_wp2_with fail
  refine (HV.out _).mono ?_
  rintro e w' ⟨rfl, hw⟩
  obtain rfl := hw.symm
  clear hw
  go_wp2_with fail
  refine (HC.out _).mono ?_
  rintro e w' ⟨rfl, hw⟩
  obtain rfl := hw.symm
  clear hw
  go_wp2_with fail
  go_ret
  exact ⟨.inr ⟨rfl, fun h => by have := h.1.few.2; have := HG.out; omega⟩, HI.out.fr⟩
 have g1z : ¬ (8 : Int) < (B.devs.length : Int) := by omega
 have g2z : ¬ (64 : Int) < (B.spent.length : Int) := by omega
 have HF : Aside0 (B.devs.length ≤ 8 ∧ B.spent.length ≤ 64) := ⟨by omega, by omega⟩
 clear hfw hln
 go_wp2_with fail
 refine (HV.out _).mono ?_
 rintro e w' ⟨rfl, hw⟩
 obtain rfl := hw.symm
 clear hw
 go_wp2_with fail
 refine (HC.out _).mono ?_
 rintro e w' ⟨rfl, hw⟩
 obtain rfl := hw.symm
 clear hw
 go_upto_region 4 with fail
 clear k0 k1 k2 k3 k4 g1 g2 g1z g2z
 go_loopg [3] B.devs.length (fun kx s3 wr => ∃ (kk : Nat) (last : Int), s3 = .int .i64 kk ∧ kk + kx = B.devs.length ∧ Aside0 (Below W0.heap.size W0 wr) ∧ Aside0 (devsOk 0 B.devs = devsOk last (B.devs.drop kk)) ∧ Aside0 (kk = 0 ∧ last = 0 ∨ ∃ k' d', kk = k' + 1 ∧ B.devs[k']? = some d' ∧ d'.node = last ∧ 1 ≤ last))
 case atStart => exact ⟨0, 0, rfl, by omega, ⟨Below.refl _ _⟩, ⟨rfl⟩, ⟨.inl ⟨rfl, rfl⟩⟩⟩
 case round =>
  obtain ⟨kk, last, rfl, hkk, BW, AL, PV⟩ := hrel
  have hf1 := HF.out.1
  by_cases hlt : kk < B.devs.length
  ·have hltz : (kk : Int) < (B.devs.length : Int) := by omega
   obtain ⟨d, hd⟩ : ∃ d, B.devs[kk]? = some d := ⟨_, List.getElem?_eq_getElem hlt⟩
   obtain ⟨g, o, hA1, hc⟩ := HI.out.src.devc hd
   subst hA1
   have k2 := (HI.out.later BW.out).cells.2.2.1
   have DL := Aside0.mk (run_loadAtK Tryz.prog wr 46 35 Tryz.isAgg46 Tryz.sizeOf46 g (o + kk * 35) (encD d) (encD_len _) (fun j v hj => hc wr BW.out j v hj))
   have st := Aside0.mk (fun (c : Array Value) (hc : c.size = 35) => run_storeNew Tryz.prog wr 46 35 sizeD c (encD d).toArray hc (by simpa using encD_len d) (by simpa using encD_one d))
   have HNX := Aside0.mk (devsOk_next (last := last) hd)
   obtain ⟨w6, hw6⟩ : ∃ w6, w6 = wr.alloc (.cells (encD d).toArray 46) := ⟨_, rfl⟩
   obtain ⟨nb, hnb⟩ : ∃ nb, nb = wr.heap.size := ⟨_, rfl⟩
   have hd3 : w6.heap[nb]? = some (.cells (encD d).toArray 46 (0, 0)) := by rw [hw6, hnb]; exact heap_alloc_new wr _
   have y0 : w6.cell? ⟨nb, 0, none⟩ = some (.int .i64 d.node) := by rw [cell_of_heap hd3]; rfl
   have y3 : w6.cell? ⟨nb, 33, none⟩ = some (.int .i64 d.exp) := by rw [cell_of_heap hd3]; exact expOfD d
   have B6 := Aside0.mk (show Below W0.heap.size W0 w6 by rw [hw6]; exact BW.out.alloc BW.out.size _)
   obtain ⟨DA, hDA⟩ : ∃ DA, DA = (encD d).toArray := ⟨_, rfl⟩
   rw [← hDA] at DL st hw6
   have HDK := Aside0.mk hd
   clear hd hd3 hDA hc
   go_upto_region 7 with (first | ((with_reducible refine at_load 46 (.tmp 43) ?_); refine wpList_loadK rfl 46 (.tmp 43) rfl _ rfl _ DL.out ?_) | ((with_reducible refine at_store 46 (.tmp 4) (.tmp 44) ?_); refine wpList_storeK rfl 46 (.tmp 4) (.tmp 44) rfl rfl _ _ rfl rfl _ (st.out _ rfl) ?_))
   rw [← hw6, ← hnb]
   clear hw6 hnb DL st k2
   have k2 := (HI.out.later B6.out).cells.2.2.1
   obtain ⟨dn, hdn⟩ : ∃ dn, dn = d.node := ⟨_, rfl⟩
   obtain ⟨de, hde⟩ : ∃ de, de = d.exp := ⟨_, rfl⟩
   obtain ⟨n3, hn3⟩ : ∃ n3, n3 = number de := ⟨_, rfl⟩
   rw [← hdn, ← hde] at HNX
   rw [← hdn] at y0
   rw [← hde] at y3
   rw [← hn3] at HNX
   have HDN := Aside0.mk hdn
   have HNN := Aside0.mk (show n3 = true → 0 ≤ de from fun e => by rw [hn3] at e; exact (of_decide_eq_true e).1)
   have HE : Aside0 (∀ W, Calls Tryz.prog 66 #[.int .i64 de] W fun e w' => e = .returned (.bool n3) ∧ w' = W) := ⟨fun W => by rw [hn3]; exact number66 _ _⟩
   clear hdn hde hn3
   have HBAD := Aside0.mk (show devsOk last (B.devs.drop kk) = false → ¬ MayB B from fun h ho => by
    have := may_devs ho
    rw [AL.out, h] at this
    cases this)
   by_cases e1 : dn < 1
   ·have e1d : decide (dn < 1) = true := decide_eq_true e1
    have HFF := Aside0.mk (HBAD.out (by rw [HNX.out, show decide (last < dn) = false from decide_eq_false (by rcases PV.out with ⟨-, h⟩ | ⟨_, _, -, -, -, h⟩ <;> omega)]; rfl))
    clear e1
    go_wp2_with fail
    go_quiet ((go_at_call 66; exact Calls.quiet_of_same (HE.out _)))
    have H6 := Aside0.mk (below_step B6.out (bdn (Below.refl _ _) nq))
    go_wp2_with fail
    go_ret
    exact ⟨.inr ⟨rfl, HFF.out⟩, below_step HI.out.fr H6.out⟩
   have e1d : decide (dn < 1) = false := decide_eq_false e1
   by_cases e2 : 8 < dn
   ·have e2d : decide (8 < dn) = true := decide_eq_true e2
    have HFF := Aside0.mk (HBAD.out (by rw [HNX.out, show decide (dn ≤ 8) = false from decide_eq_false (by omega)]; simp))
    clear e1 e2
    go_wp2_with fail
    go_quiet ((go_at_call 66; exact Calls.quiet_of_same (HE.out _)))
    have H6 := Aside0.mk (below_step B6.out (bdn (Below.refl _ _) nq))
    go_wp2_with fail
    go_ret
    exact ⟨.inr ⟨rfl, HFF.out⟩, below_step HI.out.fr H6.out⟩
   have e2d : decide (8 < dn) = false := decide_eq_false e2
   have HR1 := Aside0.mk (And.intro e1 e2)
   clear e1 e2
   rcases PV.out with ⟨h1, h2⟩ | ⟨k', d', h1, h2, h3, h4⟩
   ·subst h1
    subst h2
    cases n3
    ·have HFF := Aside0.mk (HBAD.out (by rw [HNX.out]; simp))
     go_wp2_with fail
     go_quiet ((go_at_call 66; exact Calls.quiet_of_same (HE.out _)))
     have H6 := Aside0.mk (below_step B6.out (bdn (Below.refl _ _) nq))
     go_wp2_with fail
     go_ret
     exact ⟨.inr ⟨rfl, HFF.out⟩, below_step HI.out.fr H6.out⟩
    by_cases e4 : de = 0
    ·have e4d : (de == 0) = true := beq_iff_eq.2 e4
     have HFF := Aside0.mk (HBAD.out (by rw [HNX.out, show decide (1 ≤ de) = false from decide_eq_false (by omega)]; simp))
     clear e4
     go_wp2_with fail
     go_quiet ((go_at_call 66; exact Calls.quiet_of_same (HE.out _)))
     have H6 := Aside0.mk (below_step B6.out (bdn (Below.refl _ _) nq))
     go_wp2_with fail
     go_ret
     exact ⟨.inr ⟨rfl, HFF.out⟩, below_step HI.out.fr H6.out⟩
    ·have e4d : (de == 0) = false := beq_eq_false_iff_ne.2 e4
     have hst := HNX.out
     rw [show decide (0 < dn) = true from decide_eq_true (by have := HR1.out.1; omega), show decide (dn ≤ 8) = true from decide_eq_true (by have := HR1.out.2; omega), show decide (1 ≤ de) = true from decide_eq_true (by have := HNN.out (by first | rfl | trivial); omega)] at hst
     simp only [Bool.true_and] at hst
     have HST := Aside0.mk hst
     clear hst e4
     obtain ⟨ko, rfl⟩ : ∃ ko, gk = ko + 1 := ⟨gk - 1, by omega⟩
     go_wp2_with fail
     go_quiet ((go_at_call 66; exact Calls.quiet_of_same (HE.out _)))
     have H6 := Aside0.mk (below_step B6.out (bdn (Below.refl _ _) nq))
     go_wp2_with fail
     go_roundg ko
     case measure => omega
     case rel => exact ⟨_ + 1, dn, by go_num, by omega, ⟨H6.out⟩, ⟨AL.out.trans HST.out⟩, ⟨.inr ⟨_, d, rfl, HDK.out, HDN.out.symm, by have := HR1.out.1; omega⟩⟩⟩
   ·subst h1
    have hk' := (List.getElem?_eq_some_iff.1 h2).1
    obtain ⟨g', o2, hgo, hc'⟩ := HI.out.src.devc h2
    cases hgo
    have yp : w6.cell? ⟨g, o + k' * 35, none⟩ = some (.int .i64 last) := by rw [← h3]; exact hc' w6 B6.out 0 _ rfl
    have hkz : ((k' + 1 : Nat) : Int) - 1 = (k' : Int) := by omega
    have hkp : (0 : Int) < ((k' + 1 : Nat) : Int) := by omega
    have hkl : (k' : Int) < (B.devs.length : Int) := by omega
    have HLP := Aside0.mk h4
    clear h2 h3 h4 hc'
    by_cases e3 : dn ≤ last
    ·have e3d : decide (dn ≤ last) = true := decide_eq_true e3
     have HFF := Aside0.mk (HBAD.out (by rw [HNX.out, show decide (last < dn) = false from decide_eq_false (by omega)]; rfl))
     clear e3
     go_wp2_with fail
     go_quiet ((go_at_call 66; exact Calls.quiet_of_same (HE.out _)))
     have H6 := Aside0.mk (below_step B6.out (bdn (Below.refl _ _) nq))
     go_wp2_with fail
     go_ret
     exact ⟨.inr ⟨rfl, HFF.out⟩, below_step HI.out.fr H6.out⟩
    have e3d : decide (dn ≤ last) = false := decide_eq_false e3
    have HR3 := Aside0.mk e3
    clear e3
    cases n3
    ·have HFF := Aside0.mk (HBAD.out (by rw [HNX.out]; simp))
     go_wp2_with fail
     go_quiet ((go_at_call 66; exact Calls.quiet_of_same (HE.out _)))
     have H6 := Aside0.mk (below_step B6.out (bdn (Below.refl _ _) nq))
     go_wp2_with fail
     go_ret
     exact ⟨.inr ⟨rfl, HFF.out⟩, below_step HI.out.fr H6.out⟩
    by_cases e4 : de = 0
    ·have e4d : (de == 0) = true := beq_iff_eq.2 e4
     have HFF := Aside0.mk (HBAD.out (by rw [HNX.out, show decide (1 ≤ de) = false from decide_eq_false (by omega)]; simp))
     clear e4
     go_wp2_with fail
     go_quiet ((go_at_call 66; exact Calls.quiet_of_same (HE.out _)))
     have H6 := Aside0.mk (below_step B6.out (bdn (Below.refl _ _) nq))
     go_wp2_with fail
     go_ret
     exact ⟨.inr ⟨rfl, HFF.out⟩, below_step HI.out.fr H6.out⟩
    ·have e4d : (de == 0) = false := beq_eq_false_iff_ne.2 e4
     have hst := HNX.out
     rw [show decide (last < dn) = true from decide_eq_true (by have := HR3.out; omega), show decide (dn ≤ 8) = true from decide_eq_true (by have := HR1.out.2; omega), show decide (1 ≤ de) = true from decide_eq_true (by have := HNN.out (by first | rfl | trivial); omega)] at hst
     simp only [Bool.true_and] at hst
     have HST := Aside0.mk hst
     clear hst e4
     obtain ⟨ko, rfl⟩ : ∃ ko, gk = ko + 1 := ⟨gk - 1, by omega⟩
     go_wp2_with fail
     go_quiet ((go_at_call 66; exact Calls.quiet_of_same (HE.out _)))
     have H6 := Aside0.mk (below_step B6.out (bdn (Below.refl _ _) nq))
     go_wp2_with fail
     go_roundg ko
     case measure => omega
     case rel => exact ⟨_ + 1, dn, by go_num, by omega, ⟨H6.out⟩, ⟨AL.out.trans HST.out⟩, ⟨.inr ⟨_, d, rfl, HDK.out, HDN.out.symm, by have := HR1.out.1; omega⟩⟩⟩
  ·have hltz : ¬ (kk : Int) < (B.devs.length : Int) := by omega
   have hkl : kk = B.devs.length := by omega
   have HDV : Aside0 (devsOk 0 B.devs = true) := ⟨by rw [AL.out, hkl, List.drop_length]; rfl⟩
   have k2 := (HI.out.later BW.out).cells.2.2.1
   have hln := HF.out.2
   clear PV AL hkl
   go_upto_region 10 with fail
   clear k2
   go_loopg [5] B.spent.length (fun kx s5 wr => ∃ kk : Nat, s5 = .int .i64 kk ∧ 1 ≤ kk ∧ kk + kx = B.spent.length + 1 ∧ Aside0 (Below W0.heap.size W0 wr) ∧ Aside0 (∀ (j : Nat) x y, j + 1 < kk → B.spent[j]? = some x → B.spent[j + 1]? = some y → ltK x y = true))
   case atStart => exact ⟨1, rfl, by omega, by omega, ⟨BW.out⟩, ⟨fun j x y h => by omega⟩⟩
   clear BW hkk hlt hltz
   case round =>
    obtain ⟨kk2, rfl, h1k, hkk, BW, HAJ⟩ := hrel
    have K3 := Aside0.mk (fun (W : World) (hb : Below wr.heap.size wr W) => (HI.out.later (below_step BW.out hb)).cells.2.2.2.1)
    have k3 := K3.out wr (Below.refl _ _)
    by_cases hlt : kk2 < B.spent.length
    ·obtain ⟨k', rfl⟩ : ∃ k', kk2 = k' + 1 := ⟨kk2 - 1, by omega⟩
     have hltz : ((k' + 1 : Nat) : Int) < (B.spent.length : Int) := by omega
     obtain ⟨x, hx⟩ : ∃ x, B.spent[k']? = some x := ⟨_, List.getElem?_eq_getElem (by omega)⟩
     obtain ⟨y, hy⟩ : ∃ y, B.spent[k' + 1]? = some y := ⟨_, List.getElem?_eq_getElem hlt⟩
     obtain ⟨g2, o2, hA2, hcx⟩ := HI.out.src.key hx
     subst hA2
     obtain ⟨g3, o3, hgo, hcy⟩ := HI.out.src.key hy
     cases hgo
     have LX := Aside0.mk (fun (W : World) (hb : Below wr.heap.size wr W) => hcx W (below_step BW.out hb))
     have LY := Aside0.mk (fun (W : World) (hb : Below wr.heap.size wr W) => hcy W (below_step BW.out hb))
     have HLS := Aside0.mk (fun (W : World) => less_ref x y W)
     have HXY := Aside0.mk (And.intro hx hy)
     obtain ⟨X, hX⟩ : ∃ X, X = (encK x).toArray := ⟨_, rfl⟩
     obtain ⟨Y, hY⟩ : ∃ Y, Y = (encK y).toArray := ⟨_, rfl⟩
     obtain ⟨lt, hl⟩ : ∃ lt, lt = ltK x y := ⟨_, rfl⟩
     rw [← hX] at LX HLS
     rw [← hY] at LY HLS
     rw [← hl] at HLS
     have HLT := Aside0.mk hl
     have hkz : ((k' + 1 : Nat) : Int) - 1 = (k' : Int) := by omega
     have hkl : (k' : Int) < (B.spent.length : Int) := by omega
     clear hx hy hcx hcy hX hY hl
     obtain ⟨ko, rfl⟩ : ∃ ko, gk = ko + 1 := ⟨gk - 1, by omega⟩
     go_wp2_with fail
     refine region_quietC (C := fun W => Below wr.heap.size wr W) (by kernel_rfl) (by kernel_rfl) ((Below.refl _ wr).drew) ?_
     repeat (first | ((with_reducible refine at_ql 41 (.tmp 87) ?_); refine wpQuiet_loadK 41 (.tmp 87) rfl _ rfl _ (by kernel_rfl) (fun W hb => run_load1 41 Tryz.isAgg41 (K3.out W hb)) ?_; simp only [Act.put, List.setIfInBounds_toArray, List.set_cons_zero, List.set_cons_succ]) | ((with_reducible refine at_ql 41 (.tmp 93) ?_); refine wpQuiet_loadK 41 (.tmp 93) rfl _ rfl _ (by kernel_rfl) (fun W hb => run_load1 41 Tryz.isAgg41 (K3.out W hb)) ?_; simp only [Act.put, List.setIfInBounds_toArray, List.set_cons_zero, List.set_cons_succ]) | ((with_reducible refine at_ql 34 (.tmp 91) ?_); refine wpQuiet_loadK 34 (.tmp 91) rfl _ rfl _ (by kernel_rfl) LX.out ?_; simp only [Act.put, List.setIfInBounds_toArray, List.set_cons_zero, List.set_cons_succ]) | ((with_reducible refine at_ql 34 (.tmp 96) ?_); refine wpQuiet_loadK 34 (.tmp 96) rfl _ rfl _ (by kernel_rfl) LY.out ?_; simp only [Act.put, List.setIfInBounds_toArray, List.set_cons_zero, List.set_cons_succ]) | ((with_reducible refine at_qc 67 ?_); refine wpQuiet_callK Tryz.func67 (by kernel_rfl) rfl #[.agg X, .agg Y] rfl (by simp only [List.map_toArray, List.map_cons, List.map_nil]; rfl) (.bool lt) (by kernel_rfl) (fun W hb => (HLS.out W).mono fun e w' hh => ⟨hh.1, below_step hb hh.2⟩) ?_; simp only [Act.put, List.setIfInBounds_toArray, List.set_cons_zero, List.set_cons_succ]) | go_big_quiet_step (exact fun _ => rfl))
     refine wpQuiet_nil ?_
     rintro wq hq
     have H6 := Aside0.mk (below_step BW.out hq)
     clear hq
     cases lt
     ·go_wp2_with fail
      go_ret
      exact ⟨.inr ⟨rfl, fun h => by
       obtain ⟨l1, e1⟩ := List.getElem?_eq_some_iff.1 HXY.out.1
       obtain ⟨l2, e2⟩ := List.getElem?_eq_some_iff.1 HXY.out.2
       have := List.pairwise_iff_getElem.1 h.1.spent k' (k' + 1) l1 l2 (by omega)
       rw [e1, e2, ← HLT.out] at this
       cases this⟩, below_step HI.out.fr H6.out⟩
     ·go_wp2_with fail
      go_roundg ko
      case measure => omega
      case rel => exact ⟨k' + 1 + 1, by go_num, by omega, by omega, ⟨H6.out⟩, ⟨fun j a b hj ha hb => by
       by_cases e : j = k'
       ·subst e
        rw [HXY.out.1] at ha
        rw [HXY.out.2] at hb
        cases ha; cases hb
        exact HLT.out.symm
       ·exact HAJ.out j a b (by omega) ha hb⟩⟩
    ·have hltz : ¬ (kk2 : Int) < (B.spent.length : Int) := by omega
     have HSP := Aside0.mk (pairwise_of_adj B.spent (fun j a b ha hb => HAJ.out j a b (by have := (List.getElem?_eq_some_iff.1 hb).1; omega) ha hb))
     have LB := Aside0.mk (HLB.out wr BW.out)
     have HKC := Aside0.mk (HKR.out wr BW.out HF.out.1 HF.out.2)
     have HLK := Aside0.mk (show (keysR B).length ≤ 100 by unfold keysR; rw [List.length_append, List.length_map]; omega)
     obtain ⟨l, hl⟩ : ∃ l, l = keysR B := ⟨_, rfl⟩
     rw [← hl] at HKC HLK
     have HL := Aside0.mk hl
     clear hl HAJ
     go_wp2_with ((with_reducible refine at_load 43 (.tmp 1) ?_); refine wpList_loadK rfl 43 (.tmp 1) rfl _ rfl _ LB.out ?_)
     refine HKC.out.mono ?_
     rintro e w1 ⟨A, c, rfl, ho, hb1⟩
     have HO := Aside0.mk ho
     have HB1 := Aside0.mk (below_step BW.out hb1)
     clear ho hb1 k3 hltz hlt h1k hkk
     go_upto_region 16 with fail
     go_loopg [7] l.length (fun kx s7 wr => ∃ kk : Nat, s7 = .int .i64 kk ∧ kk + kx = l.length ∧ Aside0 (Below w1.heap.size w1 wr) ∧ Aside0 ((l.take kk).Nodup ∧ key0 ∉ l.take kk))
     case atStart => exact ⟨0, rfl, by omega, ⟨Below.refl _ _⟩, ⟨by simp⟩⟩
     case round =>
      obtain ⟨kk, rfl, hkk, BW2, HN⟩ := hrel
      have hlk := HLK.out
      by_cases hlt : kk < l.length
      ·have hltz : (kk : Int) < (l.length : Int) := by omega
       obtain ⟨y, hy⟩ : ∃ y, l[kk]? = some y := ⟨_, List.getElem?_eq_getElem hlt⟩
       obtain ⟨g4, rfl⟩ := owned_at HO.out (by omega)
       have LY := Aside0.mk (fun (W : World) (hb : Below w1.heap.size w1 W) => load_key HO.out hb hy)
       have LYr := Aside0.mk (LY.out wr BW2.out)
       have HLZ := Aside0.mk (fun (j : Nat) (z : Key) (hz : l[j]? = some z) (W : World) (hb : Below w1.heap.size w1 W) => load_key HO.out hb hz)
       have he := eqlK y key0
       have hgd := fun op a b w => guardK op a b y key0 w
       have HEY := Aside0.mk (fun (z : Key) => And.intro (eqlK y z) (fun op a b w => guardK op a b y z w))
       obtain ⟨Y, hY⟩ : ∃ Y, Y = (encK y).toArray := ⟨_, rfl⟩
       rw [← hY] at LY LYr he hgd HEY
       rw [zeroKey_eq] at he hgd
       simp only [zeroKey] at he hgd
       have HY := Aside0.mk hy
       clear hy hY
       obtain ⟨ko, rfl⟩ : ∃ ko, gk = ko + 1 := ⟨gk - 1, by omega⟩
       by_cases hq : y = key0
       ·rw [decide_eq_true hq] at he
        have HQ := Aside0.mk hq
        clear hq
        go_wp2_with ((with_reducible refine at_load 34 (.tmp 110) ?_); refine wpList_loadK rfl 34 (.tmp 110) rfl _ rfl _ LYr.out ?_)
        go_ret
        exact ⟨.inr ⟨rfl, fun h => h.1.nonzero ((keysR_perm B).mem_iff.1 (by rw [← HL.out, ← HQ.out]; exact List.mem_of_getElem? HY.out))⟩, below_step HI.out.fr (below_step HB1.out BW2.out)⟩
       rw [decide_eq_false hq] at he
       have HQ := Aside0.mk hq
       clear hq
       go_upto_region 21 with ((with_reducible refine at_load 34 (.tmp 110) ?_); refine wpList_loadK rfl 34 (.tmp 110) rfl _ rfl _ LYr.out ?_)
       clear he hgd
       go_loopg [8] kk (fun kx s8 wr2 => ∃ jj : Nat, s8 = .int .i64 jj ∧ jj + kx = kk ∧ Aside0 (Below w1.heap.size w1 wr2) ∧ Aside0 (y ∉ l.take jj))
       case atStart => exact ⟨0, rfl, by omega, ⟨BW2.out⟩, ⟨by simp⟩⟩
       case round =>
        obtain ⟨jj, rfl, hjj, BW3, HNJ⟩ := hrel
        by_cases hjl : jj < kk
        ·have hjz : (jj : Int) < (kk : Int) := by omega
         have hjz2 : (jj : Int) < (l.length : Int) := by omega
         obtain ⟨z, hz⟩ : ∃ z, l[jj]? = some z := ⟨_, List.getElem?_eq_getElem (by omega)⟩
         have LZ := Aside0.mk (fun (W : World) (hb : Below wr.heap.size wr W) => HLZ.out jj z hz W (below_step BW3.out hb))
         have LY2 := Aside0.mk (fun (W : World) (hb : Below wr.heap.size wr W) => LY.out W (below_step BW3.out hb))
         have he := (HEY.out z).1
         have hgd := (HEY.out z).2
         obtain ⟨Z, hZ⟩ : ∃ Z, Z = (encK z).toArray := ⟨_, rfl⟩
         rw [← hZ] at LZ he hgd
         have HZ := Aside0.mk hz
         clear hz hZ
         obtain ⟨kj, rfl⟩ : ∃ kj, gk = kj + 1 := ⟨gk - 1, by omega⟩
         by_cases hq : y = z
         ·rw [decide_eq_true hq] at he
          have HQ2 := Aside0.mk hq
          clear hq
          go_wp2_with fail
          refine wp_region_quiet_lit (by kernel_rfl) (by kernel_rfl) ?_
          repeat (first | ((with_reducible refine at_ql 34 (.tmp 121) ?_); refine wpQuiet_loadK 34 (.tmp 121) rfl _ rfl _ (by kernel_rfl) (behind_drew LY2.out) ?_; simp only [Act.put, List.setIfInBounds_toArray, List.set_cons_zero, List.set_cons_succ]) | ((with_reducible refine at_ql 34 (.tmp 125) ?_); refine wpQuiet_loadK 34 (.tmp 125) rfl _ rfl _ (by kernel_rfl) (behind_drew LZ.out) ?_; simp only [Act.put, List.setIfInBounds_toArray, List.set_cons_zero, List.set_cons_succ]) | go_big_quiet_step (fail))
          refine wpQuiet_nil ?_
          rintro _ ⟨nq, rfl⟩
          have H6 := Aside0.mk (below_step BW3.out (bdn (Below.refl _ _) nq))
          go_wp2_with fail
          go_ret
          exact ⟨.inr ⟨rfl, fun h => by
           have hn : (keysR B).Nodup := (keysR_perm B).nodup_iff.2 h.1.keys
           rw [← HL.out] at hn
           obtain ⟨l1, e1⟩ := List.getElem?_eq_some_iff.1 HZ.out
           obtain ⟨l2, e2⟩ := List.getElem?_eq_some_iff.1 HY.out
           have := List.pairwise_iff_getElem.1 hn jj kk l1 l2 hjl
           rw [e1, e2] at this
           exact this HQ2.out.symm⟩, below_step HI.out.fr (below_step HB1.out H6.out)⟩
         ·rw [decide_eq_false hq] at he
          have HQ2 := Aside0.mk hq
          clear hq
          go_wp2_with fail
          refine wp_region_quiet_lit (by kernel_rfl) (by kernel_rfl) ?_
          repeat (first | ((with_reducible refine at_ql 34 (.tmp 121) ?_); refine wpQuiet_loadK 34 (.tmp 121) rfl _ rfl _ (by kernel_rfl) (behind_drew LY2.out) ?_; simp only [Act.put, List.setIfInBounds_toArray, List.set_cons_zero, List.set_cons_succ]) | ((with_reducible refine at_ql 34 (.tmp 125) ?_); refine wpQuiet_loadK 34 (.tmp 125) rfl _ rfl _ (by kernel_rfl) (behind_drew LZ.out) ?_; simp only [Act.put, List.setIfInBounds_toArray, List.set_cons_zero, List.set_cons_succ]) | go_big_quiet_step (fail))
          refine wpQuiet_nil ?_
          rintro _ ⟨nq, rfl⟩
          have H6 := Aside0.mk (below_step BW3.out (bdn (Below.refl _ _) nq))
          go_wp2_with fail
          go_roundg kj
          case measure => omega
          case rel => exact ⟨jj + 1, by go_num, by omega, ⟨H6.out⟩, ⟨by rw [List.take_add_one, HZ.out]; intro h; rcases List.mem_append.1 h with h | h; exact HNJ.out h; simp at h; exact HQ2.out h⟩⟩
        ·have hjz : ¬ (jj : Int) < (kk : Int) := by omega
         have hje : jj = kk := by omega
         subst hje
         go_wp2_with fail
         go_roundg ko
         case measure => omega
         case rel => exact ⟨jj + 1, by go_num, by omega, ⟨BW3.out⟩, ⟨by
          rw [List.take_add_one, HY.out]
          refine ⟨List.nodup_append.2 ⟨HN.out.1, by simp, ?_⟩, ?_⟩
          ·intro a ha b hb e
           simp at hb
           subst hb
           subst e
           exact HNJ.out ha
          ·intro h
           rcases List.mem_append.1 h with h | h
           ·exact HN.out.2 h
           ·simp at h
            exact HQ.out h.symm⟩⟩
      ·have hltz : ¬ (kk : Int) < (l.length : Int) := by omega
       have hke : kk = l.length := by omega
       have HNN := Aside0.mk (show (takenB B).Nodup ∧ key0 ∉ takenB B by
        have h := HN.out
        rw [hke, List.take_length, HL.out] at h
        exact ⟨(keysR_perm B).nodup_iff.1 h.1, fun e => h.2 ((keysR_perm B).mem_iff.2 e)⟩)
       have k4 := (HI.out.later (below_step HB1.out BW2.out)).cells.2.2.2.2
       have HPR := Aside0.mk (parse_ref B.acl wr)
       obtain ⟨pe, hpe⟩ : ∃ pe, pe = rulesOf B.acl := ⟨_, rfl⟩
       rw [← hpe] at HPR
       have HPE := Aside0.mk hpe
       clear hpe hke HN
       go_wp2_with fail
       refine HPR.out.mono ?_
       rintro e w2 ⟨⟨v0, rfl⟩, hb2⟩
       have H6 := Aside0.mk (below_step HI.out.fr (below_step (below_step HB1.out BW2.out) hb2))
       clear hb2
       by_cases hz : pe = 0
       ·have HZ := Aside0.mk (HPE.out.symm.trans hz)
        subst hz
        go_wp2_with fail
        go_ret
        obtain ⟨d1, d2, d3, d4⟩ := devsOk_to _ _ HDV.out
        exact ⟨.inl ⟨rfl, ⟨⟨of_decide_eq_true HN0.out.1.symm, of_decide_eq_true HN0.out.2.symm, d2, fun d hd => ⟨by have := d1 d hd; omega, d3 d hd⟩, d4, HSP.out, HF.out.2, HNN.out.1, HNN.out.2⟩, HZ.out⟩⟩, H6.out⟩
       ·have hzb : (pe == 0) = false := beq_eq_false_iff_ne.2 hz
        have HZ := Aside0.mk hz
        clear hz
        go_wp2_with fail
        go_ret
        exact ⟨.inr ⟨rfl, fun h => HZ.out (HPE.out.trans h.2)⟩, H6.out⟩
end Go.Proofs.YthnpiimiimiijaaGreatDoor.Dir
end
section
namespace Go.Proofs.YthnpiimiimiijaaGreatDoor.Dir
open Go Go.RowKit Go.Proofs Go.Proofs.YthnpiimiimiijaaGreatDoorW.PrintWords Go.Proofs.YthnpiimiimiijaaGreatDoorW.PrintLast Go.Proofs.YthnpiimiimiijaaGreatDoorW.PrintMore
set_option linter.unusedVariables false
set_option linter.unusedSimpArgs false
/-- A directory whose lists lie above a base. -/
def DirHi (w : World) (base p : Nat) (B : Book) : Prop := ∃ A1 c1 A2 c2, w.heap[p]? = some (.cells (.bool true :: bookCells B A1 c1 A2 c2).toArray 83 (0, 0)) ∧ Lists w base B A1 c1 A2 c2
theorem DirHi.at_ {w : World} {base p : Nat} {B : Book} (h : DirHi w base p B) : DirAt w p B := by
 obtain ⟨A1, c1, A2, c2, h1, h2⟩ := h
 refine ⟨A1, c1, A2, c2, h1, h2.lower (Nat.zero_le _), fun k hk e => ?_, fun k hk e => ?_⟩
 ·exact own_ne h2.1 h1 (by decide) (by rw [hk, e])
 ·exact own_ne h2.2.1 h1 (by decide) (by rw [hk, e])
/-- Two blocks may have been written. -/
structure Kept2 (w w' : World) (b1 b2 : Option Nat) : Prop where
 os : w'.os = w.os
 tape : w'.tape = w.tape
 output : w'.output = w.output
 size : w.heap.size ≤ w'.heap.size
 block : ∀ k, k < w.heap.size → some k ≠ b1 → some k ≠ b2 → w'.heap[k]? = w.heap[k]?
theorem Kept2.of_below {w w' : World} {b1 b2 : Option Nat} (h : Below w.heap.size w w') : Kept2 w w' b1 b2 := ⟨h.os, h.tape, h.output, h.size, fun k hk _ _ => h.block k hk⟩
theorem Kept2.step {w w1 w2 : World} {b1 b2 : Option Nat} (h : Kept2 w w1 b1 b2) (k : Kept2 w1 w2 b1 b2) : Kept2 w w2 b1 b2 :=
 ⟨k.os.trans h.os, k.tape.trans h.tape, k.output.trans h.output, Nat.le_trans h.size k.size, fun j hj h1 h2 => (k.block j (Nat.lt_of_lt_of_le hj h.size) h1 h2).trans (h.block j hj h1 h2)⟩
theorem Kept2.below {w w' : World} {b1 b2 : Option Nat} {base : Nat} (h : Kept2 w w' b1 b2) (hs : base ≤ w.heap.size) (h1 : ∀ k, b1 = some k → base ≤ k) (h2 : ∀ k, b2 = some k → base ≤ k) : Below base w w' :=
 ⟨h.os, h.tape, h.output, h.size, fun k hk => h.block k (by omega) (fun e => by have := h1 k e.symm; omega) (fun e => by have := h2 k e.symm; omega)⟩
theorem Kept2.setRow {w w1 : World} {b1 b2 : Option Nat} (h : Kept2 w w1 b1 b2) {g : Nat} (hg : b1 = some g ∨ b2 = some g ∨ w.heap.size ≤ g) (cs : Array Value) : Kept2 w (w1.setRow g cs) b1 b2 :=
 ⟨h.os, h.tape, h.output, by rw [setRow_size]; exact h.size, fun k hk h1 h2 => (setRow_other w1 g k cs (fun e => by
  subst e
  rcases hg with e | e | e
  ·exact h1 e.symm
  ·exact h2 e.symm
  ·omega)).trans (h.block k hk h1 h2)⟩
/-- A row of so many cells at least. -/
def RowN (W : World) (b : Option Nat) (T : TypeId) (k : Nat) : Prop := ∀ g, b = some g → ∃ cur : List Value, W.heap[g]? = some (.cells cur.toArray T (0, 0)) ∧ k ≤ cur.length
theorem RowN.below {W W' : World} {b : Option Nat} {T : TypeId} {k : Nat} (h : RowN W b T k) (hb : Below W.heap.size W W') : RowN W' b T k := fun g hg => by
 obtain ⟨cur, h1, h2⟩ := h g hg
 exact ⟨cur, room_at h1 hb, h2⟩
theorem RowN.setRow {W : World} {b : Option Nat} {T : TypeId} {k : Nat} (h : RowN W b T k) (g : Nat) (cs : List Value) (hc : ∀ cur : List Value, W.heap[g]? = some (.cells cur.toArray T (0, 0)) → cur.length ≤ cs.length) : RowN (W.setRow g cs.toArray) b T k := fun g' hg => by
 obtain ⟨cur, h1, h2⟩ := h g' hg
 by_cases e : g' = g
 ·subst e
  exact ⟨cs, setRow_heap _ _ _ _ _ _ h1, Nat.le_trans h2 (hc cur h1)⟩
 ·exact ⟨cur, by rw [setRow_other _ _ _ _ e]; exact h1, h2⟩
end Go.Proofs.YthnpiimiimiijaaGreatDoor.Dir
end
section
namespace Go.Proofs.YthnpiimiimiijaaGreatDoor.Dir
open Go Go.RowKit Go.Proofs Go.Proofs.YthnpiimiimiijaaGreatDoorW.PrintWords Go.Proofs.YthnpiimiimiijaaGreatDoorW.PrintLast Go.Proofs.YthnpiimiimiijaaGreatDoorW.PrintMore
set_option linter.unusedVariables false
set_option linter.unusedSimpArgs false
theorem own_other {w w' : World} {base : Nat} {e : TypeId} {size n : Nat} {v : Value} {xs : List Value} (h : w.ownsRow base e size v n xs) (hb : ∀ k, v.ownBlock = some k → w'.heap[k]? = w.heap[k]?) : w'.ownsRow base e size v n xs := by
 obtain ⟨h1, h2⟩ := h
 refine ⟨h1, ?_⟩
 rcases h2 with h2 | ⟨g, cap, cur, hv, hg, hh, r⟩
 ·exact Or.inl h2
 ·exact Or.inr ⟨g, cap, cur, hv, hg, by rw [hb g (by rw [hv]; rfl)]; exact hh, r⟩
end Go.Proofs.YthnpiimiimiijaaGreatDoor.Dir
end
section
namespace Go.Proofs.YthnpiimiimiijaaGreatDoor.Dir
open Go Go.RowKit Go.Proofs Go.Proofs.YthnpiimiimiijaaGreatDoorW.PrintWords Go.Proofs.YthnpiimiimiijaaGreatDoorW.PrintLast Go.Proofs.YthnpiimiimiijaaGreatDoorW.PrintMore
set_option linter.unusedVariables false
set_option linter.unusedSimpArgs false
/-- Directories of both, side by side; another one. -/
structure Duo (w W : World) (pd rf po : Nat) (B O : Book) : Prop where
 d : DirSt w W pd B
 f : RDir W rf B
 o : DirSt w W po O
 ne : po ≠ pd
 low : w.heap.size ≤ rf
theorem Duo.later {w W W' : World} {pd rf po : Nat} {B O : Book} (h : Duo w W pd rf po B O) (hb : Below W.heap.size W W') : Duo w W' pd rf po B O := ⟨h.d.later hb, h.f.below hb, h.o.later hb, h.ne, h.low⟩
theorem RDir.blk {W : World} {r : Nat} {B : Book} (h : RDir W r B) : ∃ cs fr, W.heap[r]? = some (.cells cs 63 fr) := by
 obtain ⟨_, _, _, _, h⟩ := h
 exact ⟨_, _, h.box⟩
end Go.Proofs.YthnpiimiimiijaaGreatDoor.Dir
end
section
namespace Go.Proofs.YthnpiimiimiijaaGreatDoor.Dir
open Go Go.RowKit Go.Proofs Go.Proofs.YthnpiimiimiijaaGreatDoorW.PrintWords Go.Proofs.YthnpiimiimiijaaGreatDoorW.PrintLast Go.Proofs.YthnpiimiimiijaaGreatDoorW.PrintMore
set_option linter.unusedVariables false
set_option linter.unusedSimpArgs false
/-- All blocks are kept, but those of some types. -/
def KeptT (ts : List TypeId) (w w' : World) : Prop := ∀ (g : Nat) (cs : Array Value) (T : TypeId) (fr : Nat × Nat), w.heap[g]? = some (Obj.cells cs T fr) → T ∉ ts → w'.heap[g]? = some (Obj.cells cs T fr)
theorem KeptT.refl (ts : List TypeId) (w : World) : KeptT ts w w := fun _ _ _ _ h _ => h
theorem KeptT.trans {ts : List TypeId} {a b c : World} (h : KeptT ts a b) (k : KeptT ts b c) : KeptT ts a c := fun g cs T fr e ht => k g cs T fr (h g cs T fr e ht) ht
theorem KeptT.below {ts : List TypeId} {w w' : World} (hb : Below w.heap.size w w') : KeptT ts w w' := fun g cs T fr e _ => (hb.block g (Array.getElem?_eq_some_iff.1 e).1).trans e
theorem KeptT.grown {ts : List TypeId} {w w' : World} {base n size : Nat} {e : TypeId} {v : Value} {xs : List Value} (ho : w.ownsRow base e size v n xs) (hg : w.grownBy w' v.ownBlock) (he : e ∈ ts) : KeptT ts w w' := fun g cs T fr h ht => by
 refine (hg.block g (Array.getElem?_eq_some_iff.1 h).1 (fun hv => ?_)).trans h
 rcases ho.2 with ⟨rfl, _⟩ | ⟨g', cap, cur, rfl, _, hg', _⟩
 ·cases hv
 ·have : g' = g := by simpa [Value.ownBlock] using hv.symm
  subst this
  rw [hg'] at h
  cases h
  exact ht he
theorem KeptT.setCell {ts : List TypeId} {w : World} {b j : Nat} {cs : Array Value} {T : TypeId} {fr : Nat × Nat} (hb : w.heap[b]? = some (.cells cs T fr)) (hT : T ∈ ts) (u : Value) : KeptT ts w (w.setCell ⟨b, j, none⟩ u) := fun g cs' T' fr' h ht => by
 rw [Below.heap_setCell _ _ _ _ (fun e => ?_)]
 ·exact h
 ·have e' : g = b := by first | exact e | exact e.symm
  subst e'
  rw [hb] at h
  cases h
  exact ht hT
/-- The byte of a number that has i bytes behind it. -/
def octN (v : Nat) (i : Nat) : UInt8 := UInt8.ofNat (v / 256 ^ i)
/-- A number in so many bytes, the highest first. -/
def beN (v : Nat) : Nat → List UInt8
 | 0 => []
 | s + 1 => octN v s :: beN v s
theorem beN_len (v : Nat) : ∀ s, (beN v s).length = s
 | 0 => rfl
 | s + 1 => by simp [beN, beN_len v s]
theorem beN_drop (v : Nat) : ∀ k s, (beN v (k + s)).drop k = beN v s
 | 0, s => by simp
 | k + 1, s => by rw [show k + 1 + s = (k + s) + 1 by omega]; show (beN v (k + s)).drop k = _; exact beN_drop v k s
theorem beN_zero (v : Nat) : ∀ k s, v < 256 ^ s → ∀ i, i < k → (beN v (k + s))[i]? = some 0
 | 0, s, _, i, hi => by omega
 | k + 1, s, h, i, hi => by
  rw [show k + 1 + s = (k + s) + 1 by omega]
  cases i with
  | zero =>
   show some (octN v (k + s)) = some 0
   unfold octN
   rw [Nat.div_eq_of_lt (Nat.lt_of_lt_of_le h (Nat.pow_le_pow_right (by decide) (by omega)))]
   rfl
  | succ i => exact beN_zero v k s h i (by omega)
def rowV (v : Nat) (kk : Nat) : List Value := (List.replicate (8 - kk) (.int .u8 0)) ++ (beN v kk).map byteV
theorem byte_oct (v kk : Nat) : Value.int .u8 ((v : Int) / 2 ^ (8 * kk) % 256) = byteV (octN v kk) := by
 have : ((v : Int) / 2 ^ (8 * kk) % 256) = (((octN v kk).toNat : Nat) : Int) := by
  unfold octN
  rw [UInt8.toNat_ofNat', show (2 : Int) ^ (8 * kk) = ((2 ^ (8 * kk) : Nat) : Int) from (Int.natCast_pow 2 _).symm, show (256 : Nat) ^ kk = 2 ^ (8 * kk) by rw [Nat.pow_mul]]
  rfl
 rw [this]
 rfl
theorem rowV_get (v : Nat) {kk : Nat} (h : kk < 8) : (rowV v kk)[7 - kk]? = some (.int .u8 0) := by
 unfold rowV
 rw [List.getElem?_append_left (by simp; omega), List.getElem?_replicate]
 simp
 try omega
theorem rowV_set (v : Nat) {kk : Nat} (h : kk < 8) : (rowV v kk).toArray.setIfInBounds (7 - kk) (byteV (octN v kk)) = (rowV v (kk + 1)).toArray := by
 unfold rowV
 rw [List.setIfInBounds_toArray, List.set_append_left _ _ (by simp <;> omega), show beN v (kk + 1) = octN v kk :: beN v kk from rfl]
 congr 1
 have e : List.replicate (8 - kk) (Value.int .u8 0) = List.replicate (8 - (kk + 1)) (Value.int .u8 0) ++ [Value.int .u8 0] := by
  rw [← List.replicate_succ', show 8 - kk = 8 - (kk + 1) + 1 by omega]
 rw [e, List.set_append_right _ _ (by simp <;> omega), List.length_replicate, show 7 - kk - (8 - (kk + 1)) = 0 by omega]
 simp
theorem store_full (W : World) (T : TypeId) (n r : Nat) (hT : ∀ w, (Go.sizeOf T).run Tryz.prog w = .ok n w) (cs0 xs : List Value) (h : W.heap[r]? = some (.cells cs0.toArray T (0, 0))) (h5 : cs0.length = n) (hx : xs.length = n) (h1 : ∀ u ∈ xs, u.oneCell' = true) :
  (Instr.storeAt T (.pointer (some ⟨r, 0, none⟩)) (.agg xs.toArray)).run Tryz.prog W = .ok () (W.setRow r xs.toArray) := by
 have := run_storeAtK Tryz.prog W T n hT r 0 xs hx h1 cs0 T h (by omega)
 rw [this]
 have e : splice cs0 0 xs = xs := by
  unfold splice
  rw [List.take_zero, List.nil_append, List.drop_eq_nil_of_le (by omega), List.append_nil]
 rw [e]
set_option maxHeartbeats 4000000 in
set_option maxRecDepth 100000 in
theorem of97 (v : Nat) (hv : v < 9223372036854775808) (w : World) : Calls Tryz.prog 97 #[.int .i64 v] w fun e w' => e = .returned (.agg ((beN v 8).map byteV).toArray) ∧ Below w.heap.size w w' := by
 obtain ⟨W0, hW0⟩ : ∃ W0, W0 = w.alloc (.cells #[.int .u8 0, .int .u8 0, .int .u8 0, .int .u8 0, .int .u8 0, .int .u8 0, .int .u8 0, .int .u8 0] 148) := ⟨_, rfl⟩
 have hb0 : Below w.heap.size w W0 := by rw [hW0]; exact (Below.refl _ w).alloc (Nat.le_refl _) _
 obtain ⟨p, hp⟩ : ∃ p, p = w.heap.size := ⟨_, rfl⟩
 have q1 : W0.heap[p]? = some (.cells (rowV v 0).toArray 148 (0, 0)) := by rw [hW0, hp]; exact heap_alloc_new w _
 rw [← hp] at hb0 ⊢
 obtain ⟨CB, hCB⟩ : ∃ CB, CB = (beN v 8).map byteV := ⟨_, rfl⟩
 have HSZ := Aside0.mk (show CB.length = 8 by rw [hCB]; simp [beN_len])
 have HC1 := Aside0.mk (show ∀ u ∈ CB, u.oneCell' = true by rw [hCB]; intro u hu; obtain ⟨b, -, rfl⟩ := List.mem_map.1 hu; rfl)
 have HCB := Aside0.mk hCB
 rw [← hCB]
 clear hCB
 go_enter Tryz.func97, Tryz.ntmps97
 go_upto_region 2 with fail
 rw [← hW0]
 try rw [← hp]
 have HEQ := Aside0.mk (And.intro hW0 hp)
 clear hW0 hp
 go_loopg [3, 4] 8 (fun kx _ s4 wr => ∃ kk : Nat, s4 = .int .i64 kk ∧ kk + kx = 8 ∧ Aside0 (Below p w wr ∧ wr.heap[p]? = some (.cells (rowV v kk).toArray 148 (0, 0))))
 case atStart => exact ⟨0, rfl, by omega, ⟨hb0, q1⟩⟩
 case round =>
  obtain ⟨kk, rfl, hkk, HT⟩ := hrel
  by_cases hlt : kk < 8
  ·have hltz : (kk : Int) < 8 := by omega
   have c1 : wr.cell? ⟨p, 7 - kk, none⟩ = some (.int .u8 0) := by rw [cell_of_heap HT.out.2]; exact rowV_get v hlt
   have fz : wr.frozen? ⟨p, 7 - kk, none⟩ = false := frozen_of_heap HT.out.2
   obtain ⟨ko, rfl⟩ : ∃ ko, gk = ko + 1 := ⟨gk - 1, by omega⟩
   go_wp2_with fail
   go_roundg ko
   case measure => omega
   case rel => exact ⟨kk + 1, by go_num, by omega, ⟨HT.out.1.setCell (Nat.le_refl _) _, by rw [heap_setCell_same wr p (7 - kk) _ _ _ HT.out.2, byte_oct, rowV_set v hlt]⟩⟩
  ·have hltz : ¬ (kk : Int) < 8 := by omega
   have : kk = 8 := by omega
   subst this
   have HF := HT.out.2
   rw [show rowV v 8 = (beN v 8).map byteV from rfl, ← HCB.out] at HF
   have LB := Aside0.mk (run_loadAtK Tryz.prog wr 148 8 Tryz.isAgg148 Tryz.sizeOf148 p 0 CB HSZ.out (cells_of_heap HF))
   have ST := Aside0.mk (store_full wr 148 8 p Tryz.sizeOf148 _ CB HF HSZ.out HSZ.out HC1.out)
   have HFF := Aside0.mk (setRow_heap wr p _ CB.toArray 148 (0, 0) HF)
   have HBB := Aside0.mk (below_setRow HT.out.1 (Nat.le_refl p) CB.toArray)
   clear HF
   go_wp2_with (first | ((with_reducible refine at_load 148 (.tmp 2) ?_); refine wpList_loadK rfl 148 (.tmp 2) rfl _ rfl _ LB.out ?_) | ((with_reducible refine at_store 148 (.tmp 2) (.tmp 16) ?_); refine wpList_storeK rfl 148 (.tmp 2) (.tmp 16) rfl rfl _ _ rfl rfl _ ST.out ?_))
   try simp only [Exit.inBlock, Exit.then]
   refine bodyPost_ret (results_cell_row rfl _ _ p 148 _ (0, 0) _ rfl HFF.out Tryz.underlying148 rfl (by rw [List.size_toArray, HSZ.out]; kernel_rfl)) rfl ?_
   exact ⟨rfl, HBB.out⟩
theorem put98 (x : Int) (w : World) : Calls Tryz.prog 98 #[.int .u8 x] w fun e w' => e = .returned (.bool (!decide (x = 0))) ∧ w' = w := by
 go_enter Tryz.func98, Tryz.ntmps98
 go_wp2
 all_goals (go_ret; refine ⟨?_, rfl⟩; first | rfl | (simp; done) | (simp_all; done))
set_option maxHeartbeats 2000000 in
set_option maxRecDepth 100000 in
/-- slices.IndexFunc at zeros, the predicate that of Put. -/
theorem index138 (n c b o : Nat) (w : World) (h : SrcAt w (some ⟨b, o, none⟩) n 1 (List.replicate n (.int .u8 0))) (hl : n ≤ 8) :
  Calls Tryz.prog 138 #[.slice (some ⟨b, o, none⟩) n c, .func (.func 98) #[] #[]] w fun e w' => e = .returned (.int .i64 (-1)) ∧ Below w.heap.size w w' := by
 have HW := Aside0.mk h
 clear h
 go_enter Tryz.func138, Tryz.ntmps138
 go_wp2
 go_loopg [5, 8] n (fun gg _ s8 wr => ∃ kk : Nat, kk ≤ n ∧ n - kk ≤ gg ∧ s8 = .int .i64 kk ∧ Aside0 (Below w.heap.size w wr))
 case atStart => exact ⟨0, Nat.zero_le _, by omega, rfl, ⟨Below.refl _ w⟩⟩
 case round =>
  obtain ⟨kk, hkk, hg, rfl, BW⟩ := hrel
  by_cases hlt : kk < n
  ·have hltz : (kk : Int) < (n : Int) := by omega
   have c0 := HW.out.2.2 _ rfl kk (.int .u8 0) (by rw [List.getElem?_replicate]; simp [hlt])
   rw [add_at] at c0
   have c1 : wr.cell? ⟨b, o + kk, none⟩ = some (.int .u8 0) := pw_cell_below BW.out c0
   clear c0
   have hcall := Aside0.mk (put98 0 wr)
   go_wp2_with (go_at_call 98; refine hcall.out.mono ?_; rintro e w' ⟨rfl, rfl⟩)
   go_roundg (n - (kk + 1))
   case measure => omega
   case rel => exact ⟨kk + 1, by omega, by omega, by go_num, BW⟩
  ·have hltz : ¬ (kk : Int) < (n : Int) := by omega
   have : kk = n := by omega
   subst this
   go_wp2
   go_ret
   exact ⟨rfl, BW.out⟩
/-- slices.ContainsFunc at zeros. -/
theorem contains99 (n c b o : Nat) (w : World) (h : SrcAt w (some ⟨b, o, none⟩) n 1 (List.replicate n (.int .u8 0))) (hl : n ≤ 8) :
  Calls Tryz.prog 99 #[.slice (some ⟨b, o, none⟩) n c, .func (.func 98) #[] #[]] w fun e w' => e = .returned (.bool false) ∧ Below w.heap.size w w' := by
 have hcall := Aside0.mk (index138 n c b o w h hl)
 clear h hl
 go_enter Tryz.func99, Tryz.ntmps99
 go_wp2_with (go_at_call 138; refine hcall.out.mono ?_; rintro e w' ⟨rfl, hb⟩)
 go_ret
 exact ⟨rfl, hb⟩
end Go.Proofs.YthnpiimiimiijaaGreatDoor.Dir
end
