/- The document's Check. Load, of both; a book that is spoilt. A book that is spoilt. DirectApplies: directories are as the chapter says. Writers: numbers as bytes. The program's writer. The program's writer: Put. The program's writer: Octets, Write, Out. The document's writer: size, bits, octet. The document's writer: Write, Bytes. The document's writer: Bytes. The document's writer: Put. The docume -/
import Derived.Test.YthnpiimiimiijaaGreatDoorKp19
import Derived.Laws.IdiomStrings
section
namespace Go.Proofs.YthnpiimiimiijaaGreatDoor.Dir
open Go Go.RowKit Go.Proofs Go.Proofs.YthnpiimiimiijaaGreatDoorW.PrintWords Go.Proofs.YthnpiimiimiijaaGreatDoorW.PrintLast Go.Proofs.YthnpiimiimiijaaGreatDoorW.PrintMore
set_option linter.unusedVariables false
set_option linter.unusedSimpArgs false
/-- A book that may be. -/
def MayB (B : Book) : Prop := WF B ∧ rulesOf B.acl = 0
theorem may_ok (B : Book) : OkB B ↔ MayB B := ⟨fun h => ⟨wf_of_ok h, h.acl⟩, fun h => ok_of h.1 h.2⟩
def RCheckEnd (B : Book) (e : Ending) : Prop := (e = .returned (.int .i64 0) ∧ MayB B) ∨ (e = .returned (.int .i64 2) ∧ ¬ MayB B)
theorem keysR_perm (B : Book) : (keysR B).Perm (takenB B) := List.perm_append_comm
theorem may_devs {B : Book} (h : MayB B) : devsOk 0 B.devs = true := (ok_of h.1 h.2).devs
set_option maxHeartbeats 8000000 in
set_option maxRecDepth 100000 in
theorem check_ref (B : Book) (A1 : Option Addr) (c1 : Nat) (A2 : Option Addr) (c2 : Nat) (w : World) (h : SrcB w B A1 A2) :
  Calls Tryz.prog 31 #[.agg (bookCells B A1 c1 A2 c2).toArray] w fun e w' => RCheckEnd B e ∧ Below w.heap.size w w' := by
 have hI := InB.start (c1 := c1) (c2 := c2) h
 obtain ⟨W0, hW0⟩ : ∃ W0, W0 = w.alloc (.cells (bookCells B A1 c1 A2 c2).toArray 43) := ⟨_, rfl⟩
 obtain ⟨p, hp⟩ : ∃ p, p = w.heap.size := ⟨_, rfl⟩
 rw [← hW0, ← hp] at hI
 have HI := Aside0.mk hI
 have HLB := Aside0.mk (fun (W : World) (hb : Below W0.heap.size W0 W) => (hI.later hb).load)
 have HKR := Aside0.mk (fun (W : World) (hb : Below W0.heap.size W0 W) (h1 : B.devs.length ≤ 8) (h2 : B.spent.length ≤ 64) => keys_ref B A1 c1 A2 c2 W (hI.later hb).src (by omega) (by omega))
 have hfw := h.few
 have hln := h.len
 obtain ⟨k0, k1, k2, k3, k4⟩ := hI.cells
 obtain ⟨BA, hBA⟩ : ∃ BA, BA = (bookCells B A1 c1 A2 c2).toArray := ⟨_, rfl⟩
 rw [← hBA] at hW0 HLB HKR ⊢
 obtain ⟨n1, hn1⟩ : ∃ n1, n1 = number B.ver := ⟨_, rfl⟩
 obtain ⟨n2, hn2⟩ : ∃ n2, n2 = number B.clock := ⟨_, rfl⟩
 have HV : Aside0 (∀ W, Calls Tryz.prog 66 #[.int .i64 B.ver] W fun e w' => e = .returned (.bool n1) ∧ w' = W) := ⟨fun W => by rw [hn1]; exact number66 _ _⟩
 have HC : Aside0 (∀ W, Calls Tryz.prog 66 #[.int .i64 B.clock] W fun e w' => e = .returned (.bool n2) ∧ w' = W) := ⟨fun W => by rw [hn2]; exact number66 _ _⟩
 have HN := Aside0.mk (And.intro hn1 hn2)
 have HN0 := Aside0.mk (And.intro hn1 hn2)
 clear hI h hBA hn1 hn2
 go_enter Tryz.func31, Tryz.ntmps31
 go_upto_region 1 with fail
 rw [← hW0, ← hp]
 have HEQ := Aside0.mk (And.intro hW0 hp)
 clear hW0 hp
 cases n1
 ·skip
  go_wp2_with fail
  refine (HV.out _).mono ?_
  rintro e w' ⟨rfl, hw⟩
  obtain rfl := hw.symm
  clear hw
  go_wp2_with fail
  go_ret
  exact ⟨.inr ⟨rfl, fun h => by have h3 := HN.out.1; rw [show number B.ver = true from decide_eq_true h.1.ver] at h3; cases h3⟩, HI.out.fr⟩
 cases n2
 ·skip
  go_wp2_with fail
  refine (HV.out _).mono ?_
  rintro e w' ⟨rfl, hw⟩
  obtain rfl := hw.symm
  clear hw
  go_wp2_with fail
  refine (HC.out _).mono ?_
  rintro e w' ⟨rfl, hw⟩
  obtain rfl := hw.symm
  clear hw
  go_wp2_with fail
  go_ret
  exact ⟨.inr ⟨rfl, fun h => by have h3 := HN.out.2; rw [show number B.clock = true from decide_eq_true h.1.clock] at h3; cases h3⟩, HI.out.fr⟩
 by_cases g1 : 8 < B.devs.length
 ·have g1z : (8 : Int) < (B.devs.length : Int) := by omega
  have HG := Aside0.mk g1
  clear g1
  go_wp2_with fail
  refine (HV.out _).mono ?_
  rintro e w' ⟨rfl, hw⟩
  obtain rfl := hw.symm
  clear hw
  go_wp2_with fail
  refine (HC.out _).mono ?_
  rintro e w' ⟨rfl, hw⟩
  obtain rfl := hw.symm
  clear hw
  go_wp2_with fail
  go_ret
  exact ⟨.inr ⟨rfl, fun h => by have := h.1.few.1; have := HG.out; omega⟩, HI.out.fr⟩
 by_cases g2 : 64 < B.spent.length
 ·have g1z : ¬ (8 : Int) < (B.devs.length : Int) := by omega
  have g2z : (64 : Int) < (B.spent.length : Int) := by omega
  have HG := Aside0.mk g2
  clear g1 g2
  go_wp2_with fail
  refine (HV.out _).mono ?_
  rintro e w' ⟨rfl, hw⟩
  obtain rfl := hw.symm
  clear hw
  go_wp2_with fail
  refine (HC.out _).mono ?_
  rintro e w' ⟨rfl, hw⟩
  obtain rfl := hw.symm
  clear hw
  go_wp2_with fail
  go_ret
  exact ⟨.inr ⟨rfl, fun h => by have := h.1.few.2; have := HG.out; omega⟩, HI.out.fr⟩
 have g1z : ¬ (8 : Int) < (B.devs.length : Int) := by omega
 have g2z : ¬ (64 : Int) < (B.spent.length : Int) := by omega
 have HF : Aside0 (B.devs.length ≤ 8 ∧ B.spent.length ≤ 64) := ⟨by omega, by omega⟩
 clear hfw hln
 go_wp2_with fail
 refine (HV.out _).mono ?_
 rintro e w' ⟨rfl, hw⟩
 obtain rfl := hw.symm
 clear hw
 go_wp2_with fail
 refine (HC.out _).mono ?_
 rintro e w' ⟨rfl, hw⟩
 obtain rfl := hw.symm
 clear hw
 go_upto_region 4 with fail
 clear k0 k1 k2 k3 k4 g1 g2 g1z g2z
 go_loopg [3] B.devs.length (fun kx s3 wr => ∃ (kk : Nat) (last : Int), s3 = .int .i64 kk ∧ kk + kx = B.devs.length ∧ Aside0 (Below W0.heap.size W0 wr) ∧ Aside0 (devsOk 0 B.devs = devsOk last (B.devs.drop kk)) ∧ Aside0 (kk = 0 ∧ last = 0 ∨ ∃ k' d', kk = k' + 1 ∧ B.devs[k']? = some d' ∧ d'.node = last ∧ 1 ≤ last))
 case atStart => exact ⟨0, 0, rfl, by omega, ⟨Below.refl _ _⟩, ⟨rfl⟩, ⟨.inl ⟨rfl, rfl⟩⟩⟩
 case round =>
  obtain ⟨kk, last, rfl, hkk, BW, AL, PV⟩ := hrel
  have hf1 := HF.out.1
  by_cases hlt : kk < B.devs.length
  ·have hltz : (kk : Int) < (B.devs.length : Int) := by omega
   obtain ⟨d, hd⟩ : ∃ d, B.devs[kk]? = some d := ⟨_, List.getElem?_eq_getElem hlt⟩
   obtain ⟨g, o, hA1, hc⟩ := HI.out.src.devc hd
   subst hA1
   have k2 := (HI.out.later BW.out).cells.2.2.1
   have DL := Aside0.mk (run_loadAtK Tryz.prog wr 46 35 Tryz.isAgg46 Tryz.sizeOf46 g (o + kk * 35) (encD d) (encD_len _) (fun j v hj => hc wr BW.out j v hj))
   have st := Aside0.mk (fun (c : Array Value) (hc : c.size = 35) => run_storeNew Tryz.prog wr 46 35 sizeD c (encD d).toArray hc (by simpa using encD_len d) (by simpa using encD_one d))
   have HNX := Aside0.mk (devsOk_next (last := last) hd)
   obtain ⟨w6, hw6⟩ : ∃ w6, w6 = wr.alloc (.cells (encD d).toArray 46) := ⟨_, rfl⟩
   obtain ⟨nb, hnb⟩ : ∃ nb, nb = wr.heap.size := ⟨_, rfl⟩
   have hd3 : w6.heap[nb]? = some (.cells (encD d).toArray 46 (0, 0)) := by rw [hw6, hnb]; exact heap_alloc_new wr _
   have y0 : w6.cell? ⟨nb, 0, none⟩ = some (.int .i64 d.node) := by rw [cell_of_heap hd3]; rfl
   have y3 : w6.cell? ⟨nb, 33, none⟩ = some (.int .i64 d.exp) := by rw [cell_of_heap hd3]; exact expOfD d
   have B6 := Aside0.mk (show Below W0.heap.size W0 w6 by rw [hw6]; exact BW.out.alloc BW.out.size _)
   obtain ⟨DA, hDA⟩ : ∃ DA, DA = (encD d).toArray := ⟨_, rfl⟩
   rw [← hDA] at DL st hw6
   have HDK := Aside0.mk hd
   clear hd hd3 hDA hc
   go_upto_region 7 with (first | ((with_reducible refine at_load 46 (.tmp 43) ?_); refine wpList_loadK rfl 46 (.tmp 43) rfl _ rfl _ DL.out ?_) | ((with_reducible refine at_store 46 (.tmp 4) (.tmp 44) ?_); refine wpList_storeK rfl 46 (.tmp 4) (.tmp 44) rfl rfl _ _ rfl rfl _ (st.out _ rfl) ?_))
   rw [← hw6, ← hnb]
   clear hw6 hnb DL st k2
   have k2 := (HI.out.later B6.out).cells.2.2.1
   obtain ⟨dn, hdn⟩ : ∃ dn, dn = d.node := ⟨_, rfl⟩
   obtain ⟨de, hde⟩ : ∃ de, de = d.exp := ⟨_, rfl⟩
   obtain ⟨n3, hn3⟩ : ∃ n3, n3 = number de := ⟨_, rfl⟩
   rw [← hdn, ← hde] at HNX
   rw [← hdn] at y0
   rw [← hde] at y3
   rw [← hn3] at HNX
   have HDN := Aside0.mk hdn
   have HNN := Aside0.mk (show n3 = true → 0 ≤ de from fun e => by rw [hn3] at e; exact (of_decide_eq_true e).1)
   have HE : Aside0 (∀ W, Calls Tryz.prog 66 #[.int .i64 de] W fun e w' => e = .returned (.bool n3) ∧ w' = W) := ⟨fun W => by rw [hn3]; exact number66 _ _⟩
   clear hdn hde hn3
   have HBAD := Aside0.mk (show devsOk last (B.devs.drop kk) = false → ¬ MayB B from fun h ho => by
    have := may_devs ho
    rw [AL.out, h] at this
    cases this)
   by_cases e1 : dn < 1
   ·have e1d : decide (dn < 1) = true := decide_eq_true e1
    have HFF := Aside0.mk (HBAD.out (by rw [HNX.out, show decide (last < dn) = false from decide_eq_false (by rcases PV.out with ⟨-, h⟩ | ⟨_, _, -, -, -, h⟩ <;> omega)]; rfl))
    clear e1
    go_wp2_with fail
    go_quiet ((go_at_call 66; exact Calls.quiet_of_same (HE.out _)))
    have H6 := Aside0.mk (below_step B6.out (bdn (Below.refl _ _) nq))
    go_wp2_with fail
    go_ret
    exact ⟨.inr ⟨rfl, HFF.out⟩, below_step HI.out.fr H6.out⟩
   have e1d : decide (dn < 1) = false := decide_eq_false e1
   by_cases e2 : 8 < dn
   ·have e2d : decide (8 < dn) = true := decide_eq_true e2
    have HFF := Aside0.mk (HBAD.out (by rw [HNX.out, show decide (dn ≤ 8) = false from decide_eq_false (by omega)]; simp))
    clear e1 e2
    go_wp2_with fail
    go_quiet ((go_at_call 66; exact Calls.quiet_of_same (HE.out _)))
    have H6 := Aside0.mk (below_step B6.out (bdn (Below.refl _ _) nq))
    go_wp2_with fail
    go_ret
    exact ⟨.inr ⟨rfl, HFF.out⟩, below_step HI.out.fr H6.out⟩
   have e2d : decide (8 < dn) = false := decide_eq_false e2
   have HR1 := Aside0.mk (And.intro e1 e2)
   clear e1 e2
   rcases PV.out with ⟨h1, h2⟩ | ⟨k', d', h1, h2, h3, h4⟩
   ·subst h1
    subst h2
    cases n3
    ·have HFF := Aside0.mk (HBAD.out (by rw [HNX.out]; simp))
     go_wp2_with fail
     go_quiet ((go_at_call 66; exact Calls.quiet_of_same (HE.out _)))
     have H6 := Aside0.mk (below_step B6.out (bdn (Below.refl _ _) nq))
     go_wp2_with fail
     go_ret
     exact ⟨.inr ⟨rfl, HFF.out⟩, below_step HI.out.fr H6.out⟩
    by_cases e4 : de = 0
    ·have e4d : (de == 0) = true := beq_iff_eq.2 e4
     have HFF := Aside0.mk (HBAD.out (by rw [HNX.out, show decide (1 ≤ de) = false from decide_eq_false (by omega)]; simp))
     clear e4
     go_wp2_with fail
     go_quiet ((go_at_call 66; exact Calls.quiet_of_same (HE.out _)))
     have H6 := Aside0.mk (below_step B6.out (bdn (Below.refl _ _) nq))
     go_wp2_with fail
     go_ret
     exact ⟨.inr ⟨rfl, HFF.out⟩, below_step HI.out.fr H6.out⟩
    ·have e4d : (de == 0) = false := beq_eq_false_iff_ne.2 e4
     have hst := HNX.out
     rw [show decide (0 < dn) = true from decide_eq_true (by have := HR1.out.1; omega), show decide (dn ≤ 8) = true from decide_eq_true (by have := HR1.out.2; omega), show decide (1 ≤ de) = true from decide_eq_true (by have := HNN.out (by first | rfl | trivial); omega)] at hst
     simp only [Bool.true_and] at hst
     have HST := Aside0.mk hst
     clear hst e4
     obtain ⟨ko, rfl⟩ : ∃ ko, gk = ko + 1 := ⟨gk - 1, by omega⟩
     go_wp2_with fail
     go_quiet ((go_at_call 66; exact Calls.quiet_of_same (HE.out _)))
     have H6 := Aside0.mk (below_step B6.out (bdn (Below.refl _ _) nq))
     go_wp2_with fail
     go_roundg ko
     case measure => omega
     case rel => exact ⟨_ + 1, dn, by go_num, by omega, ⟨H6.out⟩, ⟨AL.out.trans HST.out⟩, ⟨.inr ⟨_, d, rfl, HDK.out, HDN.out.symm, by have := HR1.out.1; omega⟩⟩⟩
   ·subst h1
    have hk' := (List.getElem?_eq_some_iff.1 h2).1
    obtain ⟨g', o2, hgo, hc'⟩ := HI.out.src.devc h2
    cases hgo
    have yp : w6.cell? ⟨g, o + k' * 35, none⟩ = some (.int .i64 last) := by rw [← h3]; exact hc' w6 B6.out 0 _ rfl
    have hkz : ((k' + 1 : Nat) : Int) - 1 = (k' : Int) := by omega
    have hkp : (0 : Int) < ((k' + 1 : Nat) : Int) := by omega
    have hkl : (k' : Int) < (B.devs.length : Int) := by omega
    have HLP := Aside0.mk h4
    clear h2 h3 h4 hc'
    by_cases e3 : dn ≤ last
    ·have e3d : decide (dn ≤ last) = true := decide_eq_true e3
     have HFF := Aside0.mk (HBAD.out (by rw [HNX.out, show decide (last < dn) = false from decide_eq_false (by omega)]; rfl))
     clear e3
     go_wp2_with fail
     go_quiet ((go_at_call 66; exact Calls.quiet_of_same (HE.out _)))
     have H6 := Aside0.mk (below_step B6.out (bdn (Below.refl _ _) nq))
     go_wp2_with fail
     go_ret
     exact ⟨.inr ⟨rfl, HFF.out⟩, below_step HI.out.fr H6.out⟩
    have e3d : decide (dn ≤ last) = false := decide_eq_false e3
    have HR3 := Aside0.mk e3
    clear e3
    cases n3
    ·have HFF := Aside0.mk (HBAD.out (by rw [HNX.out]; simp))
     go_wp2_with fail
     go_quiet ((go_at_call 66; exact Calls.quiet_of_same (HE.out _)))
     have H6 := Aside0.mk (below_step B6.out (bdn (Below.refl _ _) nq))
     go_wp2_with fail
     go_ret
     exact ⟨.inr ⟨rfl, HFF.out⟩, below_step HI.out.fr H6.out⟩
    by_cases e4 : de = 0
    ·have e4d : (de == 0) = true := beq_iff_eq.2 e4
     have HFF := Aside0.mk (HBAD.out (by rw [HNX.out, show decide (1 ≤ de) = false from decide_eq_false (by omega)]; simp))
     clear e4
     go_wp2_with fail
     go_quiet ((go_at_call 66; exact Calls.quiet_of_same (HE.out _)))
     have H6 := Aside0.mk (below_step B6.out (bdn (Below.refl _ _) nq))
     go_wp2_with fail
     go_ret
     exact ⟨.inr ⟨rfl, HFF.out⟩, below_step HI.out.fr H6.out⟩
    ·have e4d : (de == 0) = false := beq_eq_false_iff_ne.2 e4
     have hst := HNX.out
     rw [show decide (last < dn) = true from decide_eq_true (by have := HR3.out; omega), show decide (dn ≤ 8) = true from decide_eq_true (by have := HR1.out.2; omega), show decide (1 ≤ de) = true from decide_eq_true (by have := HNN.out (by first | rfl | trivial); omega)] at hst
     simp only [Bool.true_and] at hst
     have HST := Aside0.mk hst
     clear hst e4
     obtain ⟨ko, rfl⟩ : ∃ ko, gk = ko + 1 := ⟨gk - 1, by omega⟩
     go_wp2_with fail
     go_quiet ((go_at_call 66; exact Calls.quiet_of_same (HE.out _)))
     have H6 := Aside0.mk (below_step B6.out (bdn (Below.refl _ _) nq))
     go_wp2_with fail
     go_roundg ko
     case measure => omega
     case rel => exact ⟨_ + 1, dn, by go_num, by omega, ⟨H6.out⟩, ⟨AL.out.trans HST.out⟩, ⟨.inr ⟨_, d, rfl, HDK.out, HDN.out.symm, by have := HR1.out.1; omega⟩⟩⟩
  ·have hltz : ¬ (kk : Int) < (B.devs.length : Int) := by omega
   have hkl : kk = B.devs.length := by omega
   have HDV : Aside0 (devsOk 0 B.devs = true) := ⟨by rw [AL.out, hkl, List.drop_length]; rfl⟩
   have k2 := (HI.out.later BW.out).cells.2.2.1
   have hln := HF.out.2
   clear PV AL hkl
   go_upto_region 10 with fail
   clear k2
   go_loopg [5] B.spent.length (fun kx s5 wr => ∃ kk : Nat, s5 = .int .i64 kk ∧ 1 ≤ kk ∧ kk + kx = B.spent.length + 1 ∧ Aside0 (Below W0.heap.size W0 wr) ∧ Aside0 (∀ (j : Nat) x y, j + 1 < kk → B.spent[j]? = some x → B.spent[j + 1]? = some y → ltK x y = true))
   case atStart => exact ⟨1, rfl, by omega, by omega, ⟨BW.out⟩, ⟨fun j x y h => by omega⟩⟩
   clear BW hkk hlt hltz
   case round =>
    obtain ⟨kk2, rfl, h1k, hkk, BW, HAJ⟩ := hrel
    have K3 := Aside0.mk (fun (W : World) (hb : Below wr.heap.size wr W) => (HI.out.later (below_step BW.out hb)).cells.2.2.2.1)
    have k3 := K3.out wr (Below.refl _ _)
    by_cases hlt : kk2 < B.spent.length
    ·obtain ⟨k', rfl⟩ : ∃ k', kk2 = k' + 1 := ⟨kk2 - 1, by omega⟩
     have hltz : ((k' + 1 : Nat) : Int) < (B.spent.length : Int) := by omega
     obtain ⟨x, hx⟩ : ∃ x, B.spent[k']? = some x := ⟨_, List.getElem?_eq_getElem (by omega)⟩
     obtain ⟨y, hy⟩ : ∃ y, B.spent[k' + 1]? = some y := ⟨_, List.getElem?_eq_getElem hlt⟩
     obtain ⟨g2, o2, hA2, hcx⟩ := HI.out.src.key hx
     subst hA2
     obtain ⟨g3, o3, hgo, hcy⟩ := HI.out.src.key hy
     cases hgo
     have LX := Aside0.mk (fun (W : World) (hb : Below wr.heap.size wr W) => hcx W (below_step BW.out hb))
     have LY := Aside0.mk (fun (W : World) (hb : Below wr.heap.size wr W) => hcy W (below_step BW.out hb))
     have HLS := Aside0.mk (fun (W : World) => less_ref x y W)
     have HXY := Aside0.mk (And.intro hx hy)
     obtain ⟨X, hX⟩ : ∃ X, X = (encK x).toArray := ⟨_, rfl⟩
     obtain ⟨Y, hY⟩ : ∃ Y, Y = (encK y).toArray := ⟨_, rfl⟩
     obtain ⟨lt, hl⟩ : ∃ lt, lt = ltK x y := ⟨_, rfl⟩
     rw [← hX] at LX HLS
     rw [← hY] at LY HLS
     rw [← hl] at HLS
     have HLT := Aside0.mk hl
     have hkz : ((k' + 1 : Nat) : Int) - 1 = (k' : Int) := by omega
     have hkl : (k' : Int) < (B.spent.length : Int) := by omega
     clear hx hy hcx hcy hX hY hl
     obtain ⟨ko, rfl⟩ : ∃ ko, gk = ko + 1 := ⟨gk - 1, by omega⟩
     go_wp2_with fail
     refine region_quietC (C := fun W => Below wr.heap.size wr W) (by kernel_rfl) (by kernel_rfl) ((Below.refl _ wr).drew) ?_
     repeat (first | ((with_reducible refine at_ql 41 (.tmp 87) ?_); refine wpQuiet_loadK 41 (.tmp 87) rfl _ rfl _ (by kernel_rfl) (fun W hb => run_load1 41 Tryz.isAgg41 (K3.out W hb)) ?_; simp only [Act.put, List.setIfInBounds_toArray, List.set_cons_zero, List.set_cons_succ]) | ((with_reducible refine at_ql 41 (.tmp 93) ?_); refine wpQuiet_loadK 41 (.tmp 93) rfl _ rfl _ (by kernel_rfl) (fun W hb => run_load1 41 Tryz.isAgg41 (K3.out W hb)) ?_; simp only [Act.put, List.setIfInBounds_toArray, List.set_cons_zero, List.set_cons_succ]) | ((with_reducible refine at_ql 34 (.tmp 91) ?_); refine wpQuiet_loadK 34 (.tmp 91) rfl _ rfl _ (by kernel_rfl) LX.out ?_; simp only [Act.put, List.setIfInBounds_toArray, List.set_cons_zero, List.set_cons_succ]) | ((with_reducible refine at_ql 34 (.tmp 96) ?_); refine wpQuiet_loadK 34 (.tmp 96) rfl _ rfl _ (by kernel_rfl) LY.out ?_; simp only [Act.put, List.setIfInBounds_toArray, List.set_cons_zero, List.set_cons_succ]) | ((with_reducible refine at_qc 67 ?_); refine wpQuiet_callK Tryz.func67 (by kernel_rfl) rfl #[.agg X, .agg Y] rfl (by simp only [List.map_toArray, List.map_cons, List.map_nil]; rfl) (.bool lt) (by kernel_rfl) (fun W hb => (HLS.out W).mono fun e w' hh => ⟨hh.1, below_step hb hh.2⟩) ?_; simp only [Act.put, List.setIfInBounds_toArray, List.set_cons_zero, List.set_cons_succ]) | go_big_quiet_step (exact fun _ => rfl))
     refine wpQuiet_nil ?_
     rintro wq hq
     have H6 := Aside0.mk (below_step BW.out hq)
     clear hq
     cases lt
     ·go_wp2_with fail
      go_ret
      exact ⟨.inr ⟨rfl, fun h => by
       obtain ⟨l1, e1⟩ := List.getElem?_eq_some_iff.1 HXY.out.1
       obtain ⟨l2, e2⟩ := List.getElem?_eq_some_iff.1 HXY.out.2
       have := List.pairwise_iff_getElem.1 h.1.spent k' (k' + 1) l1 l2 (by omega)
       rw [e1, e2, ← HLT.out] at this
       cases this⟩, below_step HI.out.fr H6.out⟩
     ·go_wp2_with fail
      go_roundg ko
      case measure => omega
      case rel => exact ⟨k' + 1 + 1, by go_num, by omega, by omega, ⟨H6.out⟩, ⟨fun j a b hj ha hb => by
       by_cases e : j = k'
       ·subst e
        rw [HXY.out.1] at ha
        rw [HXY.out.2] at hb
        cases ha; cases hb
        exact HLT.out.symm
       ·exact HAJ.out j a b (by omega) ha hb⟩⟩
    ·have hltz : ¬ (kk2 : Int) < (B.spent.length : Int) := by omega
     have HSP := Aside0.mk (pairwise_of_adj B.spent (fun j a b ha hb => HAJ.out j a b (by have := (List.getElem?_eq_some_iff.1 hb).1; omega) ha hb))
     have LB := Aside0.mk (HLB.out wr BW.out)
     have HKC := Aside0.mk (HKR.out wr BW.out HF.out.1 HF.out.2)
     have HLK := Aside0.mk (show (keysR B).length ≤ 100 by unfold keysR; rw [List.length_append, List.length_map]; omega)
     obtain ⟨l, hl⟩ : ∃ l, l = keysR B := ⟨_, rfl⟩
     rw [← hl] at HKC HLK
     have HL := Aside0.mk hl
     clear hl HAJ
     go_wp2_with ((with_reducible refine at_load 43 (.tmp 1) ?_); refine wpList_loadK rfl 43 (.tmp 1) rfl _ rfl _ LB.out ?_)
     refine HKC.out.mono ?_
     rintro e w1 ⟨A, c, rfl, ho, hb1⟩
     have HO := Aside0.mk ho
     have HB1 := Aside0.mk (below_step BW.out hb1)
     clear ho hb1 k3 hltz hlt h1k hkk
     go_upto_region 16 with fail
     go_loopg [7] l.length (fun kx s7 wr => ∃ kk : Nat, s7 = .int .i64 kk ∧ kk + kx = l.length ∧ Aside0 (Below w1.heap.size w1 wr) ∧ Aside0 ((l.take kk).Nodup ∧ key0 ∉ l.take kk))
     case atStart => exact ⟨0, rfl, by omega, ⟨Below.refl _ _⟩, ⟨by simp⟩⟩
     case round =>
      obtain ⟨kk, rfl, hkk, BW2, HN⟩ := hrel
      have hlk := HLK.out
      by_cases hlt : kk < l.length
      ·have hltz : (kk : Int) < (l.length : Int) := by omega
       obtain ⟨y, hy⟩ : ∃ y, l[kk]? = some y := ⟨_, List.getElem?_eq_getElem hlt⟩
       obtain ⟨g4, rfl⟩ := owned_at HO.out (by omega)
       have LY := Aside0.mk (fun (W : World) (hb : Below w1.heap.size w1 W) => load_key HO.out hb hy)
       have LYr := Aside0.mk (LY.out wr BW2.out)
       have HLZ := Aside0.mk (fun (j : Nat) (z : Key) (hz : l[j]? = some z) (W : World) (hb : Below w1.heap.size w1 W) => load_key HO.out hb hz)
       have he := eqlK y key0
       have hgd := fun op a b w => guardK op a b y key0 w
       have HEY := Aside0.mk (fun (z : Key) => And.intro (eqlK y z) (fun op a b w => guardK op a b y z w))
       obtain ⟨Y, hY⟩ : ∃ Y, Y = (encK y).toArray := ⟨_, rfl⟩
       rw [← hY] at LY LYr he hgd HEY
       rw [zeroKey_eq] at he hgd
       simp only [zeroKey] at he hgd
       have HY := Aside0.mk hy
       clear hy hY
       obtain ⟨ko, rfl⟩ : ∃ ko, gk = ko + 1 := ⟨gk - 1, by omega⟩
       by_cases hq : y = key0
       ·rw [decide_eq_true hq] at he
        have HQ := Aside0.mk hq
        clear hq
        go_wp2_with ((with_reducible refine at_load 34 (.tmp 110) ?_); refine wpList_loadK rfl 34 (.tmp 110) rfl _ rfl _ LYr.out ?_)
        go_ret
        exact ⟨.inr ⟨rfl, fun h => h.1.nonzero ((keysR_perm B).mem_iff.1 (by rw [← HL.out, ← HQ.out]; exact List.mem_of_getElem? HY.out))⟩, below_step HI.out.fr (below_step HB1.out BW2.out)⟩
       rw [decide_eq_false hq] at he
       have HQ := Aside0.mk hq
       clear hq
       go_upto_region 21 with ((with_reducible refine at_load 34 (.tmp 110) ?_); refine wpList_loadK rfl 34 (.tmp 110) rfl _ rfl _ LYr.out ?_)
       clear he hgd
       go_loopg [8] kk (fun kx s8 wr2 => ∃ jj : Nat, s8 = .int .i64 jj ∧ jj + kx = kk ∧ Aside0 (Below w1.heap.size w1 wr2) ∧ Aside0 (y ∉ l.take jj))
       case atStart => exact ⟨0, rfl, by omega, ⟨BW2.out⟩, ⟨by simp⟩⟩
       case round =>
        obtain ⟨jj, rfl, hjj, BW3, HNJ⟩ := hrel
        by_cases hjl : jj < kk
        ·have hjz : (jj : Int) < (kk : Int) := by omega
         have hjz2 : (jj : Int) < (l.length : Int) := by omega
         obtain ⟨z, hz⟩ : ∃ z, l[jj]? = some z := ⟨_, List.getElem?_eq_getElem (by omega)⟩
         have LZ := Aside0.mk (fun (W : World) (hb : Below wr.heap.size wr W) => HLZ.out jj z hz W (below_step BW3.out hb))
         have LY2 := Aside0.mk (fun (W : World) (hb : Below wr.heap.size wr W) => LY.out W (below_step BW3.out hb))
         have he := (HEY.out z).1
         have hgd := (HEY.out z).2
         obtain ⟨Z, hZ⟩ : ∃ Z, Z = (encK z).toArray := ⟨_, rfl⟩
         rw [← hZ] at LZ he hgd
         have HZ := Aside0.mk hz
         clear hz hZ
         obtain ⟨kj, rfl⟩ : ∃ kj, gk = kj + 1 := ⟨gk - 1, by omega⟩
         by_cases hq : y = z
         ·rw [decide_eq_true hq] at he
          have HQ2 := Aside0.mk hq
          clear hq
          go_wp2_with fail
          refine wp_region_quiet_lit (by kernel_rfl) (by kernel_rfl) ?_
          repeat (first | ((with_reducible refine at_ql 34 (.tmp 121) ?_); refine wpQuiet_loadK 34 (.tmp 121) rfl _ rfl _ (by kernel_rfl) (behind_drew LY2.out) ?_; simp only [Act.put, List.setIfInBounds_toArray, List.set_cons_zero, List.set_cons_succ]) | ((with_reducible refine at_ql 34 (.tmp 125) ?_); refine wpQuiet_loadK 34 (.tmp 125) rfl _ rfl _ (by kernel_rfl) (behind_drew LZ.out) ?_; simp only [Act.put, List.setIfInBounds_toArray, List.set_cons_zero, List.set_cons_succ]) | go_big_quiet_step (fail))
          refine wpQuiet_nil ?_
          rintro _ ⟨nq, rfl⟩
          have H6 := Aside0.mk (below_step BW3.out (bdn (Below.refl _ _) nq))
          go_wp2_with fail
          go_ret
          exact ⟨.inr ⟨rfl, fun h => by
           have hn : (keysR B).Nodup := (keysR_perm B).nodup_iff.2 h.1.keys
           rw [← HL.out] at hn
           obtain ⟨l1, e1⟩ := List.getElem?_eq_some_iff.1 HZ.out
           obtain ⟨l2, e2⟩ := List.getElem?_eq_some_iff.1 HY.out
           have := List.pairwise_iff_getElem.1 hn jj kk l1 l2 hjl
           rw [e1, e2] at this
           exact this HQ2.out.symm⟩, below_step HI.out.fr (below_step HB1.out H6.out)⟩
         ·rw [decide_eq_false hq] at he
          have HQ2 := Aside0.mk hq
          clear hq
          go_wp2_with fail
          refine wp_region_quiet_lit (by kernel_rfl) (by kernel_rfl) ?_
          repeat (first | ((with_reducible refine at_ql 34 (.tmp 121) ?_); refine wpQuiet_loadK 34 (.tmp 121) rfl _ rfl _ (by kernel_rfl) (behind_drew LY2.out) ?_; simp only [Act.put, List.setIfInBounds_toArray, List.set_cons_zero, List.set_cons_succ]) | ((with_reducible refine at_ql 34 (.tmp 125) ?_); refine wpQuiet_loadK 34 (.tmp 125) rfl _ rfl _ (by kernel_rfl) (behind_drew LZ.out) ?_; simp only [Act.put, List.setIfInBounds_toArray, List.set_cons_zero, List.set_cons_succ]) | go_big_quiet_step (fail))
          refine wpQuiet_nil ?_
          rintro _ ⟨nq, rfl⟩
          have H6 := Aside0.mk (below_step BW3.out (bdn (Below.refl _ _) nq))
          go_wp2_with fail
          go_roundg kj
          case measure => omega
          case rel => exact ⟨jj + 1, by go_num, by omega, ⟨H6.out⟩, ⟨by rw [List.take_add_one, HZ.out]; intro h; rcases List.mem_append.1 h with h | h; exact HNJ.out h; simp at h; exact HQ2.out h⟩⟩
        ·have hjz : ¬ (jj : Int) < (kk : Int) := by omega
         have hje : jj = kk := by omega
         subst hje
         go_wp2_with fail
         go_roundg ko
         case measure => omega
         case rel => exact ⟨jj + 1, by go_num, by omega, ⟨BW3.out⟩, ⟨by
          rw [List.take_add_one, HY.out]
          refine ⟨List.nodup_append.2 ⟨HN.out.1, by simp, ?_⟩, ?_⟩
          ·intro a ha b hb e
           simp at hb
           subst hb
           subst e
           exact HNJ.out ha
          ·intro h
           rcases List.mem_append.1 h with h | h
           ·exact HN.out.2 h
           ·simp at h
            exact HQ.out h.symm⟩⟩
      ·have hltz : ¬ (kk : Int) < (l.length : Int) := by omega
       have hke : kk = l.length := by omega
       have HNN := Aside0.mk (show (takenB B).Nodup ∧ key0 ∉ takenB B by
        have h := HN.out
        rw [hke, List.take_length, HL.out] at h
        exact ⟨(keysR_perm B).nodup_iff.1 h.1, fun e => h.2 ((keysR_perm B).mem_iff.2 e)⟩)
       have k4 := (HI.out.later (below_step HB1.out BW2.out)).cells.2.2.2.2
       have HPR := Aside0.mk (parse_ref B.acl wr)
       obtain ⟨pe, hpe⟩ : ∃ pe, pe = rulesOf B.acl := ⟨_, rfl⟩
       rw [← hpe] at HPR
       have HPE := Aside0.mk hpe
       clear hpe hke HN
       go_wp2_with fail
       refine HPR.out.mono ?_
       rintro e w2 ⟨⟨v0, rfl⟩, hb2⟩
       have H6 := Aside0.mk (below_step HI.out.fr (below_step (below_step HB1.out BW2.out) hb2))
       clear hb2
       by_cases hz : pe = 0
       ·have HZ := Aside0.mk (HPE.out.symm.trans hz)
        subst hz
        go_wp2_with fail
        go_ret
        obtain ⟨d1, d2, d3, d4⟩ := devsOk_to _ _ HDV.out
        exact ⟨.inl ⟨rfl, ⟨⟨of_decide_eq_true HN0.out.1.symm, of_decide_eq_true HN0.out.2.symm, d2, fun d hd => ⟨by have := d1 d hd; omega, d3 d hd⟩, d4, HSP.out, HF.out.2, HNN.out.1, HNN.out.2⟩, HZ.out⟩⟩, H6.out⟩
       ·have hzb : (pe == 0) = false := beq_eq_false_iff_ne.2 hz
        have HZ := Aside0.mk hz
        clear hz
        go_wp2_with fail
        go_ret
        exact ⟨.inr ⟨rfl, fun h => HZ.out (HPE.out.trans h.2)⟩, H6.out⟩
end Go.Proofs.YthnpiimiimiijaaGreatDoor.Dir
end
section
namespace Go.Proofs.YthnpiimiimiijaaGreatDoor.Dir
open Go Go.RowKit Go.Proofs Go.Proofs.YthnpiimiimiijaaGreatDoorW.PrintWords Go.Proofs.YthnpiimiimiijaaGreatDoorW.PrintLast Go.Proofs.YthnpiimiimiijaaGreatDoorW.PrintMore
set_option linter.unusedVariables false
set_option linter.unusedSimpArgs false
/-- A directory whose lists lie above a base. -/
def DirHi (w : World) (base p : Nat) (B : Book) : Prop := ∃ A1 c1 A2 c2, w.heap[p]? = some (.cells (.bool true :: bookCells B A1 c1 A2 c2).toArray 83 (0, 0)) ∧ Lists w base B A1 c1 A2 c2
theorem DirHi.at_ {w : World} {base p : Nat} {B : Book} (h : DirHi w base p B) : DirAt w p B := by
 obtain ⟨A1, c1, A2, c2, h1, h2⟩ := h
 refine ⟨A1, c1, A2, c2, h1, h2.lower (Nat.zero_le _), fun k hk e => ?_, fun k hk e => ?_⟩
 ·exact own_ne h2.1 h1 (by decide) (by rw [hk, e])
 ·exact own_ne h2.2.1 h1 (by decide) (by rw [hk, e])
/-- Two blocks may have been written. -/
structure Kept2 (w w' : World) (b1 b2 : Option Nat) : Prop where
 os : w'.os = w.os
 tape : w'.tape = w.tape
 output : w'.output = w.output
 size : w.heap.size ≤ w'.heap.size
 block : ∀ k, k < w.heap.size → some k ≠ b1 → some k ≠ b2 → w'.heap[k]? = w.heap[k]?
theorem Kept2.of_below {w w' : World} {b1 b2 : Option Nat} (h : Below w.heap.size w w') : Kept2 w w' b1 b2 := ⟨h.os, h.tape, h.output, h.size, fun k hk _ _ => h.block k hk⟩
theorem Kept2.step {w w1 w2 : World} {b1 b2 : Option Nat} (h : Kept2 w w1 b1 b2) (k : Kept2 w1 w2 b1 b2) : Kept2 w w2 b1 b2 :=
 ⟨k.os.trans h.os, k.tape.trans h.tape, k.output.trans h.output, Nat.le_trans h.size k.size, fun j hj h1 h2 => (k.block j (Nat.lt_of_lt_of_le hj h.size) h1 h2).trans (h.block j hj h1 h2)⟩
theorem Kept2.below {w w' : World} {b1 b2 : Option Nat} {base : Nat} (h : Kept2 w w' b1 b2) (hs : base ≤ w.heap.size) (h1 : ∀ k, b1 = some k → base ≤ k) (h2 : ∀ k, b2 = some k → base ≤ k) : Below base w w' :=
 ⟨h.os, h.tape, h.output, h.size, fun k hk => h.block k (by omega) (fun e => by have := h1 k e.symm; omega) (fun e => by have := h2 k e.symm; omega)⟩
theorem Kept2.setRow {w w1 : World} {b1 b2 : Option Nat} (h : Kept2 w w1 b1 b2) {g : Nat} (hg : b1 = some g ∨ b2 = some g ∨ w.heap.size ≤ g) (cs : Array Value) : Kept2 w (w1.setRow g cs) b1 b2 :=
 ⟨h.os, h.tape, h.output, by rw [setRow_size]; exact h.size, fun k hk h1 h2 => (setRow_other w1 g k cs (fun e => by
  subst e
  rcases hg with e | e | e
  ·exact h1 e.symm
  ·exact h2 e.symm
  ·omega)).trans (h.block k hk h1 h2)⟩
/-- A row of so many cells at least. -/
def RowN (W : World) (b : Option Nat) (T : TypeId) (k : Nat) : Prop := ∀ g, b = some g → ∃ cur : List Value, W.heap[g]? = some (.cells cur.toArray T (0, 0)) ∧ k ≤ cur.length
theorem RowN.below {W W' : World} {b : Option Nat} {T : TypeId} {k : Nat} (h : RowN W b T k) (hb : Below W.heap.size W W') : RowN W' b T k := fun g hg => by
 obtain ⟨cur, h1, h2⟩ := h g hg
 exact ⟨cur, room_at h1 hb, h2⟩
theorem RowN.setRow {W : World} {b : Option Nat} {T : TypeId} {k : Nat} (h : RowN W b T k) (g : Nat) (cs : List Value) (hc : ∀ cur : List Value, W.heap[g]? = some (.cells cur.toArray T (0, 0)) → cur.length ≤ cs.length) : RowN (W.setRow g cs.toArray) b T k := fun g' hg => by
 obtain ⟨cur, h1, h2⟩ := h g' hg
 by_cases e : g' = g
 ·subst e
  exact ⟨cs, setRow_heap _ _ _ _ _ _ h1, Nat.le_trans h2 (hc cur h1)⟩
 ·exact ⟨cur, by rw [setRow_other _ _ _ _ e]; exact h1, h2⟩
end Go.Proofs.YthnpiimiimiijaaGreatDoor.Dir
end
section
namespace Go.Proofs.YthnpiimiimiijaaGreatDoor.Dir
open Go Go.RowKit Go.Proofs Go.Proofs.YthnpiimiimiijaaGreatDoorW.PrintWords Go.Proofs.YthnpiimiimiijaaGreatDoorW.PrintLast Go.Proofs.YthnpiimiimiijaaGreatDoorW.PrintMore
set_option linter.unusedVariables false
set_option linter.unusedSimpArgs false
theorem own_other {w w' : World} {base : Nat} {e : TypeId} {size n : Nat} {v : Value} {xs : List Value} (h : w.ownsRow base e size v n xs) (hb : ∀ k, v.ownBlock = some k → w'.heap[k]? = w.heap[k]?) : w'.ownsRow base e size v n xs := by
 obtain ⟨h1, h2⟩ := h
 refine ⟨h1, ?_⟩
 rcases h2 with h2 | ⟨g, cap, cur, hv, hg, hh, r⟩
 ·exact Or.inl h2
 ·exact Or.inr ⟨g, cap, cur, hv, hg, by rw [hb g (by rw [hv]; rfl)]; exact hh, r⟩
end Go.Proofs.YthnpiimiimiijaaGreatDoor.Dir
end
section
namespace Go.Proofs.YthnpiimiimiijaaGreatDoor.Dir
open Go Go.RowKit Go.Proofs Go.Proofs.YthnpiimiimiijaaGreatDoorW.PrintWords Go.Proofs.YthnpiimiimiijaaGreatDoorW.PrintLast Go.Proofs.YthnpiimiimiijaaGreatDoorW.PrintMore
set_option linter.unusedVariables false
set_option linter.unusedSimpArgs false
/-- Directories of both, side by side; another one. -/
structure Duo (w W : World) (pd rf po : Nat) (B O : Book) : Prop where
 d : DirSt w W pd B
 f : RDir W rf B
 o : DirSt w W po O
 ne : po ≠ pd
 low : w.heap.size ≤ rf
theorem Duo.later {w W W' : World} {pd rf po : Nat} {B O : Book} (h : Duo w W pd rf po B O) (hb : Below W.heap.size W W') : Duo w W' pd rf po B O := ⟨h.d.later hb, h.f.below hb, h.o.later hb, h.ne, h.low⟩
theorem RDir.blk {W : World} {r : Nat} {B : Book} (h : RDir W r B) : ∃ cs fr, W.heap[r]? = some (.cells cs 63 fr) := by
 obtain ⟨_, _, _, _, h⟩ := h
 exact ⟨_, _, h.box⟩
end Go.Proofs.YthnpiimiimiijaaGreatDoor.Dir
end
section
namespace Go.Proofs.YthnpiimiimiijaaGreatDoor.Dir
open Go Go.RowKit Go.Proofs Go.Proofs.YthnpiimiimiijaaGreatDoorW.PrintWords Go.Proofs.YthnpiimiimiijaaGreatDoorW.PrintLast Go.Proofs.YthnpiimiimiijaaGreatDoorW.PrintMore
set_option linter.unusedVariables false
set_option linter.unusedSimpArgs false
/-- All blocks are kept, but those of some types. -/
def KeptT (ts : List TypeId) (w w' : World) : Prop := ∀ (g : Nat) (cs : Array Value) (T : TypeId) (fr : Nat × Nat), w.heap[g]? = some (Obj.cells cs T fr) → T ∉ ts → w'.heap[g]? = some (Obj.cells cs T fr)
theorem KeptT.refl (ts : List TypeId) (w : World) : KeptT ts w w := fun _ _ _ _ h _ => h
theorem KeptT.trans {ts : List TypeId} {a b c : World} (h : KeptT ts a b) (k : KeptT ts b c) : KeptT ts a c := fun g cs T fr e ht => k g cs T fr (h g cs T fr e ht) ht
theorem KeptT.below {ts : List TypeId} {w w' : World} (hb : Below w.heap.size w w') : KeptT ts w w' := fun g cs T fr e _ => (hb.block g (Array.getElem?_eq_some_iff.1 e).1).trans e
theorem KeptT.grown {ts : List TypeId} {w w' : World} {base n size : Nat} {e : TypeId} {v : Value} {xs : List Value} (ho : w.ownsRow base e size v n xs) (hg : w.grownBy w' v.ownBlock) (he : e ∈ ts) : KeptT ts w w' := fun g cs T fr h ht => by
 refine (hg.block g (Array.getElem?_eq_some_iff.1 h).1 (fun hv => ?_)).trans h
 rcases ho.2 with ⟨rfl, _⟩ | ⟨g', cap, cur, rfl, _, hg', _⟩
 ·cases hv
 ·have : g' = g := by simpa [Value.ownBlock] using hv.symm
  subst this
  rw [hg'] at h
  cases h
  exact ht he
theorem KeptT.setCell {ts : List TypeId} {w : World} {b j : Nat} {cs : Array Value} {T : TypeId} {fr : Nat × Nat} (hb : w.heap[b]? = some (.cells cs T fr)) (hT : T ∈ ts) (u : Value) : KeptT ts w (w.setCell ⟨b, j, none⟩ u) := fun g cs' T' fr' h ht => by
 rw [Below.heap_setCell _ _ _ _ (fun e => ?_)]
 ·exact h
 ·have e' : g = b := by first | exact e | exact e.symm
  subst e'
  rw [hb] at h
  cases h
  exact ht hT
/-- The byte of a number that has i bytes behind it. -/
def octN (v : Nat) (i : Nat) : UInt8 := UInt8.ofNat (v / 256 ^ i)
/-- A number in so many bytes, the highest first. -/
def beN (v : Nat) : Nat → List UInt8
 | 0 => []
 | s + 1 => octN v s :: beN v s
theorem beN_len (v : Nat) : ∀ s, (beN v s).length = s
 | 0 => rfl
 | s + 1 => by simp [beN, beN_len v s]
theorem store_full (W : World) (T : TypeId) (n r : Nat) (hT : ∀ w, (Go.sizeOf T).run Tryz.prog w = .ok n w) (cs0 xs : List Value) (h : W.heap[r]? = some (.cells cs0.toArray T (0, 0))) (h5 : cs0.length = n) (hx : xs.length = n) (h1 : ∀ u ∈ xs, u.oneCell' = true) :
  (Instr.storeAt T (.pointer (some ⟨r, 0, none⟩)) (.agg xs.toArray)).run Tryz.prog W = .ok () (W.setRow r xs.toArray) := by
 have := run_storeAtK Tryz.prog W T n hT r 0 xs hx h1 cs0 T h (by omega)
 rw [this]
 have e : splice cs0 0 xs = xs := by
  unfold splice
  rw [List.take_zero, List.nil_append, List.drop_eq_nil_of_le (by omega), List.append_nil]
 rw [e]
end Go.Proofs.YthnpiimiimiijaaGreatDoor.Dir
end
section
namespace Go.Proofs.YthnpiimiimiijaaGreatDoor.Dir
open Go Go.RowKit Go.Proofs Go.Proofs.YthnpiimiimiijaaGreatDoorW.PrintWords Go.Proofs.YthnpiimiimiijaaGreatDoorW.PrintLast Go.Proofs.YthnpiimiimiijaaGreatDoorW.PrintMore
set_option linter.unusedVariables false
set_option linter.unusedSimpArgs false
/-- Bytes in memory of the call's own. -/
def OwnB (w : World) (base : Nat) (A : Option Addr) (c : Nat) (xs : List UInt8) : Prop := w.ownsRow base 5 1 (.slice A xs.length c) xs.length (xs.map byteV)
theorem OwnB.below {w W : World} {base : Nat} {A : Option Addr} {c : Nat} {l : List UInt8} (h : OwnB w base A c l) (hb : Below w.heap.size w W) : OwnB W base A c l := pw_own_below h hb
theorem OwnB.src {w : World} {base : Nat} {A : Option Addr} {c : Nat} {l : List UInt8} (h : OwnB w base A c l) : SrcAt w A l.length 1 (l.map byteV) := by
 obtain ⟨A', c', e, hs, -⟩ := src_owns h
 cases e
 exact hs
theorem bytes_one (l : List UInt8) : ∀ u ∈ l.map byteV, u.oneCell' = true := fun u hu => by
 obtain ⟨b, -, rfl⟩ := List.mem_map.1 hu
 rfl
/-- The writer's two blocks. -/
structure WrAt (W : World) (bw bs : Nat) (A : Option Addr) (n c : Nat) : Prop where
 wr : W.heap[bw]? = some (.cells #[.pointer (some ⟨bs, 0, none⟩)] 146 (0, 0))
 sh : W.heap[bs]? = some (.cells #[.slice A n c, .int .i64 0] 144 (0, 0))
theorem WrAt.later {W W' : World} {bw bs : Nat} {A : Option Addr} {n c : Nat} (h : WrAt W bw bs A n c) (hb : Below W.heap.size W W') : WrAt W' bw bs A n c := ⟨room_at h.wr hb, room_at h.sh hb⟩
theorem WrAt.keep {W W' : World} {bw bs base : Nat} {A : Option Addr} {c : Nat} {xs : List UInt8} (h : WrAt W bw bs A xs.length c) (ho : OwnB W base A c xs) (hg : W.grownBy W' (Value.slice A xs.length c).ownBlock) : WrAt W' bw bs A xs.length c :=
 ⟨(hg.block bw (Array.getElem?_eq_some_iff.1 h.wr).1 (own_ne ho h.wr (by decide))).trans h.wr, (hg.block bs (Array.getElem?_eq_some_iff.1 h.sh).1 (own_ne ho h.sh (by decide))).trans h.sh⟩
theorem WrAt.cells {W : World} {bw bs : Nat} {A : Option Addr} {n c : Nat} (h : WrAt W bw bs A n c) : W.cell? ⟨bw, 0, none⟩ = some (.pointer (some ⟨bs, 0, none⟩)) ∧ W.cell? ⟨bs, 0, none⟩ = some (.slice A n c) ∧ W.frozen? ⟨bs, 0, none⟩ = false := by
 refine ⟨?_, ?_, frozen_of_heap h.sh⟩
 ·rw [cell_of_heap h.wr]; rfl
 ·rw [cell_of_heap h.sh]; rfl
/-- A writer in the block bw, behind base, that has written xs. -/
def Wr (w : World) (base bw : Nat) (xs : List UInt8) : Prop := ∃ bs A c, WrAt w bw bs A xs.length c ∧ OwnB w base A c xs ∧ base ≤ bw ∧ base ≤ bs
theorem Wr.below {w W : World} {base bw : Nat} {xs : List UInt8} (h : Wr w base bw xs) (hb : Below w.heap.size w W) : Wr W base bw xs := by
 obtain ⟨bs, A, c, h1, h2, h3, h4⟩ := h
 exact ⟨bs, A, c, h1.later hb, h2.below hb, h3, h4⟩
theorem Wr.size {w : World} {base bw : Nat} {xs : List UInt8} (h : Wr w base bw xs) : base ≤ w.heap.size := by
 obtain ⟨bs, A, c, h1, h2, h3, h4⟩ := h
 exact Nat.le_trans h3 (Nat.le_of_lt (Array.getElem?_eq_some_iff.1 h1.wr).1)
theorem runs_append {P : Program} {w w1 : World} (t : TypeId) (s x : Operand) (o : Oper) (ho : o.op = .call { callee := .builtin .append, args := #[s, x], argTypes := #[t, t] }) (a : Act) (v1 v2 v : Value) (es : a.eval s = v1) (ex : a.eval x = v2)
  (hr : (Builtin.append_ #[t, t] o.type #[v1, v2]).run P w = .ok v w1) : (execOp a.eval o).run P w = .ok (.value v) w1 := by
 unfold execOp
 simp only [ho, resolve, invoke, builtin, Sem.run_bind, Sem.run_pure, Result.andThen_ok, List.map_toArray, List.map_cons, List.map_nil, es, ex, hr]
theorem none96 (bw bs n c : Nat) (A : Option Addr) (w : World) (h : WrAt w bw bs A n c) : Calls Tryz.prog 96 #[.pointer (some ⟨bw, 0, none⟩)] w fun e w' => e = .returned (.bool false) ∧ w' = w := by
 obtain ⟨c1, -, -⟩ := h.cells
 clear h
 go_enter Tryz.func96, Tryz.ntmps96
 go_wp2
 go_ret
 exact ⟨rfl, rfl⟩
/-- A writer's blocks lie below a place. -/
def WrLt (w : World) (bw T : Nat) : Prop := ∃ bs A n c, WrAt w bw bs A n c ∧ bs < T ∧ ∀ a, A = some a → a.block < T
theorem Wr.lt {T w : World} {base bw : Nat} {xs : List UInt8} (h : Wr T base bw xs) (hb : Below T.heap.size T w) : WrLt w bw T.heap.size := by
 obtain ⟨bs, A, c, h1, h2, h3, h4⟩ := h
 refine ⟨bs, A, _, c, h1.later hb, (Array.getElem?_eq_some_iff.1 h1.sh).1, fun a ha => ?_⟩
 subst ha
 rcases h2.2 with ⟨e, _⟩ | ⟨g, cap, cur, e, _, hg, _⟩
 ·cases e
 ·cases e
  exact (Array.getElem?_eq_some_iff.1 hg).1
theorem own_setCellT {w : World} {base : Nat} {e : TypeId} {size n : Nat} {v : Value} {xs : List Value} (h : w.ownsRow base e size v n xs) {b j : Nat} {cs : Array Value} {T : TypeId} (hb : w.heap[b]? = some (.cells cs T (0, 0))) (hT : e ≠ T) (u : Value) : (w.setCell ⟨b, j, none⟩ u).ownsRow base e size v n xs :=
 ownsRow_setCell_other h (a := ⟨b, j, none⟩) (fun k hk e => by have h1 := own_ne h hb hT; have h2 : k = b := e; exact h1 (by rw [hk, h2])) u
end Go.Proofs.YthnpiimiimiijaaGreatDoor.Dir
end
section
namespace Go.Proofs.YthnpiimiimiijaaGreatDoor.Dir
open Go Go.RowKit Go.Proofs Go.Proofs.YthnpiimiimiijaaGreatDoorW.PrintWords Go.Proofs.YthnpiimiimiijaaGreatDoorW.PrintLast Go.Proofs.YthnpiimiimiijaaGreatDoorW.PrintMore
set_option linter.unusedVariables false
set_option linter.unusedSimpArgs false
theorem len148 : Tryz.prog.arrayLen 148 = 8 := by kernel_rfl
end Go.Proofs.YthnpiimiimiijaaGreatDoor.Dir
end
section
namespace Go.Proofs.YthnpiimiimiijaaGreatDoor.Dir
open Go Go.RowKit Go.Proofs Go.Proofs.YthnpiimiimiijaaGreatDoorW.PrintWords Go.Proofs.YthnpiimiimiijaaGreatDoorW.PrintLast Go.Proofs.YthnpiimiimiijaaGreatDoorW.PrintMore
set_option linter.unusedVariables false
set_option linter.unusedSimpArgs false
theorem Wr.none (base bw : Nat) (xs : List UInt8) (w : World) (h : Wr w base bw xs) : Calls Tryz.prog 96 #[.pointer (some ⟨bw, 0, none⟩)] w fun e w' => e = .returned (.bool false) ∧ w' = w := by
 obtain ⟨bs, A, c, h1, h2, h3, h4⟩ := h
 exact none96 bw bs _ c A w h1
def OutEnd (w w' : World) (xs : List UInt8) (e : Ending) : Prop := ∃ A c, e = .returned (.slice A xs.length c) ∧ OwnB w' w.heap.size A c xs ∧ Below w.heap.size w w'
theorem OutEnd.ret {w w' : World} {xs : List UInt8} {e : Ending} (h : OutEnd w w' xs e) : ∃ ev, e = .returned ev := by
 obtain ⟨A', c', rfl, -⟩ := h
 exact ⟨_, rfl⟩
theorem clone_bytes (A : Option Addr) (n c : Nat) (xs : List UInt8) (hn : n = xs.length) (w : World) (hs : SrcAt w A xs.length 1 (xs.map byteV)) (hl : xs.length ≤ 140737488355328) : Calls Tryz.prog 100 #[.slice A n c] w fun e w' => OutEnd w w' xs e := by
 subst hn
 refine (cloned100 A xs.length c (xs.map byteV) w hs (by rw [Nat.mul_one]; exact hl) (bytes_one _)).mono ?_
 rintro e w2 ⟨A', c', rfl, h5, -, h6⟩
 exact ⟨A', c', rfl, h5, h6⟩
end Go.Proofs.YthnpiimiimiijaaGreatDoor.Dir
end
section
namespace Go.Proofs.YthnpiimiimiijaaGreatDoor.Dir
open Go Go.RowKit Go.Proofs Go.Proofs.YthnpiimiimiijaaGreatDoorW.PrintWords Go.Proofs.YthnpiimiimiijaaGreatDoorW.PrintLast Go.Proofs.YthnpiimiimiijaaGreatDoorW.PrintMore
set_option linter.unusedVariables false
set_option linter.unusedSimpArgs false
theorem size101 (n : Int) (w : World) (h1 : 1 ≤ n) (h8 : n ≤ 8) : Calls Tryz.prog 101 #[.int .i64 n] w fun e w' => e = .returned (.bool true) ∧ w' = w := by
 have a1 : 0 < n := by omega
 have a2 : n < 9 := by omega
 go_enter Tryz.func101, Tryz.ntmps101
 go_wp2
 go_ret
 refine ⟨?_, rfl⟩
 first | rfl | (simp; omega)
/-- A number's bits, the highest first. -/
def bitV (v i : Nat) : Value := .int .i64 ((v / 2 ^ i % 2 : Nat) : Int)
def bitsV (v : Nat) : Nat → List Value
 | 0 => []
 | s + 1 => bitV v s :: bitsV v s
theorem and_one (n : Int) : bits .and .i64 n 1 = n % 2 := by
 have h1 : (BitVec.ofInt 64 1).toNat = 2 ^ 1 - 1 := by decide
 have key : (BitVec.ofInt 64 n &&& BitVec.ofInt 64 1).toNat = (n % ((2 ^ 64 : Nat) : Int)).toNat % 2 ^ 1 := by
  rw [BitVec.toNat_and, BitVec.toNat_ofInt, h1, Nat.and_two_pow_sub_one_eq_mod]
 show IntKind.i64.wrap ((BitVec.ofInt 64 n &&& BitVec.ofInt 64 1).toNat : Nat) = n % 2
 rw [key, IntKind.wrap_i64]
 omega
def BitsEnd (w w' : World) (v : Nat) (e : Ending) : Prop := ∃ g, e = .returned (.slice (some ⟨g, 0, none⟩) 64 64) ∧ w'.heap[g]? = some (.cells (bitsV v 64).toArray 3 (0, 0)) ∧ Below w.heap.size w w'
theorem BitsEnd.ret {w w' : World} {v : Nat} {e : Ending} (h : BitsEnd w w' v e) : ∃ g, e = .returned (.slice (some ⟨g, 0, none⟩) 64 64) ∧ w'.heap[g]? = some (.cells (bitsV v 64).toArray 3 (0, 0)) ∧ Below w.heap.size w w' := h
end Go.Proofs.YthnpiimiimiijaaGreatDoor.Dir
end
section
namespace Go.Proofs.YthnpiimiimiijaaGreatDoor.Dir
open Go Go.RowKit Go.Proofs Go.Proofs.YthnpiimiimiijaaGreatDoorW.PrintWords Go.Proofs.YthnpiimiimiijaaGreatDoorW.PrintLast Go.Proofs.YthnpiimiimiijaaGreatDoorW.PrintMore
set_option linter.unusedVariables false
set_option linter.unusedSimpArgs false
/-- What an element of a writer's pieces says. -/
def PieceR (w : World) (base : Nat) (p : List UInt8) (cs : List Value) : Prop := ∃ A c, cs = [.slice A p.length c] ∧ OwnB w base A c p
theorem OwnB.kept {w w' : World} {base : Nat} {A : Option Addr} {c : Nat} {p : List UInt8} {row : Option Nat} (h : OwnB w base A c p) (hg : w.grownBy w' row) (hne : (Value.slice A p.length c).ownBlock = none ∨ (Value.slice A p.length c).ownBlock ≠ row) : OwnB w' base A c p := by
 unfold OwnB at h ⊢
 exact World.ownsRow.kept h hg hne
/-- The document's writer: its pieces, each in memory of its own. -/
def RWr (w : World) (base rw : Nat) (xs : List UInt8) (k : Nat) : Prop := ∃ v ps, w.heap[rw]? = some (.cells #[v] 154 (0, 0)) ∧ OwnRow (PieceR w base) 67 1 w base v ps ∧ ps.flatten = xs ∧ ps.length ≤ k ∧ base ≤ rw
theorem PieceR.below {w w' : World} {base : Nat} {p : List UInt8} {cs : List Value} (h : PieceR w base p cs) (hb : Below w.heap.size w w') : PieceR w' base p cs := by
 obtain ⟨A, c, rfl, h⟩ := h
 exact ⟨A, c, rfl, h.below hb⟩
theorem RWr.below {w w' : World} {base rw : Nat} {xs : List UInt8} {k : Nat} (h : RWr w base rw xs k) (hb : Below w.heap.size w w') : RWr w' base rw xs k := by
 obtain ⟨v, ps, h1, h2, h3, h4, h5⟩ := h
 exact ⟨v, ps, room_at h1 hb, (h2.below hb).imp_ (fun p c hp => hp.below hb), h3, h4, h5⟩
theorem RWr.size {w : World} {base rw : Nat} {xs : List UInt8} {k : Nat} (h : RWr w base rw xs k) : base ≤ w.heap.size := by
 obtain ⟨v, ps, h1, h2, h3, h4, h5⟩ := h
 exact Nat.le_trans h5 (Nat.le_of_lt (Array.getElem?_eq_some_iff.1 h1).1)
end Go.Proofs.YthnpiimiimiijaaGreatDoor.Dir
end
section
namespace Go.Proofs.YthnpiimiimiijaaGreatDoor.Dir
open Go Go.RowKit Go.Proofs Go.Proofs.YthnpiimiimiijaaGreatDoorW.PrintWords Go.Proofs.YthnpiimiimiijaaGreatDoorW.PrintLast Go.Proofs.YthnpiimiimiijaaGreatDoorW.PrintMore
set_option linter.unusedVariables false
set_option linter.unusedSimpArgs false
theorem own_slice {w : World} {base : Nat} {e : TypeId} {size n : Nat} {v : Value} {xs : List Value} (h : w.ownsRow base e size v n xs) : ∃ A c, v = .slice A n c := by
 obtain ⟨A, c, rfl, -⟩ := src_owns h
 exact ⟨A, c, rfl⟩
end Go.Proofs.YthnpiimiimiijaaGreatDoor.Dir
end
section
namespace Go.Proofs.YthnpiimiimiijaaGreatDoor.Dir
open Go Go.RowKit Go.Proofs Go.Proofs.YthnpiimiimiijaaGreatDoorW.PrintWords Go.Proofs.YthnpiimiimiijaaGreatDoorW.PrintLast Go.Proofs.YthnpiimiimiijaaGreatDoorW.PrintMore
set_option linter.unusedVariables false
set_option linter.unusedSimpArgs false
end Go.Proofs.YthnpiimiimiijaaGreatDoor.Dir
end
section
namespace Go.Proofs.YthnpiimiimiijaaGreatDoor.Dir
open Go Go.RowKit Go.Proofs Go.Proofs.YthnpiimiimiijaaGreatDoorW.PrintWords Go.Proofs.YthnpiimiimiijaaGreatDoorW.PrintLast Go.Proofs.YthnpiimiimiijaaGreatDoorW.PrintMore
set_option linter.unusedVariables false
set_option linter.unusedSimpArgs false
end Go.Proofs.YthnpiimiimiijaaGreatDoor.Dir
end
section
namespace Go.Proofs.YthnpiimiimiijaaGreatDoor.Dir
open Go Go.RowKit Go.Proofs Go.Proofs.YthnpiimiimiijaaGreatDoorW.PrintWords Go.Proofs.YthnpiimiimiijaaGreatDoorW.PrintLast Go.Proofs.YthnpiimiimiijaaGreatDoorW.PrintMore
set_option linter.unusedVariables false
set_option linter.unusedSimpArgs false
end Go.Proofs.YthnpiimiimiijaaGreatDoor.Dir
end
section
namespace Go.Proofs.YthnpiimiimiijaaGreatDoor.Dir
open Go Go.RowKit Go.Proofs Go.Proofs.YthnpiimiimiijaaGreatDoorW.PrintWords Go.Proofs.YthnpiimiimiijaaGreatDoorW.PrintLast Go.Proofs.YthnpiimiimiijaaGreatDoorW.PrintMore
set_option linter.unusedVariables false
set_option linter.unusedSimpArgs false
end Go.Proofs.YthnpiimiimiijaaGreatDoor.Dir
end
section
namespace Go.Proofs.YthnpiimiimiijaaGreatDoor.Dir
open Go Go.RowKit Go.Proofs Go.Proofs.YthnpiimiimiijaaGreatDoorW.PrintWords Go.Proofs.YthnpiimiimiijaaGreatDoorW.PrintLast Go.Proofs.YthnpiimiimiijaaGreatDoorW.PrintMore
set_option linter.unusedVariables false
set_option linter.unusedSimpArgs false
/-- A device's bytes; a book's. -/
def devB (d : Dev) : List UInt8 := beN d.node.toNat 1 ++ d.key.1 ++ beN d.exp.toNat 7 ++ beN (if d.rev then 1 else 0) 1
def headB (B : Book) : List UInt8 := beN B.ver.toNat 7 ++ beN B.clock.toNat 7 ++ beN B.devs.length 1
def devsB (l : List Dev) : List UInt8 := l.flatMap devB
def keysB (l : List Key) : List UInt8 := l.flatMap (fun k => k.1)
def midB (B : Book) : List UInt8 := headB B ++ devsB B.devs ++ beN B.spent.length 1
def bytesB (B : Book) : List UInt8 := midB B ++ keysB B.spent ++ beN B.acl.length 2 ++ B.acl
theorem devB_len (d : Dev) : (devB d).length = 41 := by simp [devB, beN_len, d.key.2]
theorem headB_len (B : Book) : (headB B).length = 15 := by simp [headB, beN_len]
theorem devsB_len : ∀ l : List Dev, (devsB l).length = 41 * l.length
 | [] => rfl
 | d :: l => by
  have := devsB_len l
  unfold devsB at this ⊢
  rw [List.flatMap_cons, List.length_append, this, devB_len, List.length_cons]
  omega
theorem keysB_len : ∀ l : List Key, (keysB l).length = 32 * l.length
 | [] => rfl
 | d :: l => by
  have := keysB_len l
  unfold keysB at this ⊢
  rw [List.flatMap_cons, List.length_append, this, d.2, List.length_cons]
  omega
theorem sizeK : (Tryz.prog.info? 34).map (·.size) = some 32 := by kernel_rfl
theorem acl_short {t : List UInt8} (h : rulesOf t = 0) : t.length ≤ 1024 := by
 unfold rulesOf Acl.parseOf at h
 by_cases hl : t.length > 1024
 ·rw [if_pos hl] at h; cases h
 ·omega
/-- What Bytes answers. -/
def BytesEnd (w w' : World) (B : Book) (e : Ending) : Prop :=
 (∃ A c, e = .returned (.tuple #[.slice A (bytesB B).length c, .int .i64 0]) ∧ OwnB w' w.heap.size A c (bytesB B) ∧ MayB B) ∨ (e = .returned (.tuple #[.slice none 0 0, .int .i64 2]) ∧ ¬ MayB B)
end Go.Proofs.YthnpiimiimiijaaGreatDoor.Dir
end
section
namespace Go.Proofs.YthnpiimiimiijaaGreatDoor.Dir
open Go Go.RowKit Go.Proofs Go.Proofs.YthnpiimiimiijaaGreatDoorW.PrintWords Go.Proofs.YthnpiimiimiijaaGreatDoorW.PrintLast Go.Proofs.YthnpiimiimiijaaGreatDoorW.PrintMore
set_option linter.unusedVariables false
set_option linter.unusedSimpArgs false
theorem RWr.up {w : World} {base rw : Nat} {xs : List UInt8} {k k' : Nat} (h : RWr w base rw xs k) (hk : k ≤ k') : RWr w base rw xs k' := by
 obtain ⟨v, ps, h1, h2, h3, h4, h5⟩ := h
 exact ⟨v, ps, h1, h2, h3, by omega, h5⟩
end Go.Proofs.YthnpiimiimiijaaGreatDoor.Dir
end
section
namespace Go.Proofs.YthnpiimiimiijaaGreatDoor.Dir
open Go Go.RowKit Go.Proofs Go.Proofs.YthnpiimiimiijaaGreatDoorW.PrintWords Go.Proofs.YthnpiimiimiijaaGreatDoorW.PrintLast Go.Proofs.YthnpiimiimiijaaGreatDoorW.PrintMore
set_option linter.unusedVariables false
set_option linter.unusedSimpArgs false
end Go.Proofs.YthnpiimiimiijaaGreatDoor.Dir
end
section
namespace Go.Proofs.YthnpiimiimiijaaGreatDoor.Dir
open Go Go.RowKit Go.Proofs Go.Proofs.YthnpiimiimiijaaGreatDoorW.PrintWords Go.Proofs.YthnpiimiimiijaaGreatDoorW.PrintLast Go.Proofs.YthnpiimiimiijaaGreatDoorW.PrintMore
set_option linter.unusedVariables false
set_option linter.unusedSimpArgs false
/-- Bytes that lie there. -/
theorem src_byte {w W : World} {A : Option Addr} {n : Nat} {l : List UInt8} (h : SrcAt w A n 1 (l.map byteV)) (hb : Below w.heap.size w W) {j : Nat} {b : UInt8} (hj : l[j]? = some b) : ∃ g o, A = some ⟨g, o, none⟩ ∧ W.cell? ⟨g, o + j, none⟩ = some (byteV b) := by
 have hlt := (List.getElem?_eq_some_iff.1 hj).1
 have hl : l.length = n := by have := h.1; simpa using this
 cases hA : A with
 | none => exact absurd (h.2.1 hA) (by omega)
 | some a =>
  subst hA
  have h1 := h.2.2 a rfl j (byteV b) (by rw [List.getElem?_map, hj]; rfl)
  obtain ⟨g, o, sp⟩ := a
  cases sp with
  | none => exact ⟨g, o, rfl, by rw [add_at] at h1; exact (hb.cell (World.block_lt_of_cell? w _ h1)).trans h1⟩
  | some s =>
   have h0 := h.2.2 _ rfl 0 (byteV l[0]) (by rw [List.getElem?_map, List.getElem?_eq_getElem (by omega)]; rfl)
   have hn : w.cell? ((⟨g, o, some s⟩ : Addr).add 0) = none := by unfold World.cell?; split <;> rfl
   rw [hn] at h0
   cases h0
set_option maxHeartbeats 4000000 in
set_option maxRecDepth 100000 in
theorem eqb_same (l : List UInt8) (n : Nat) (hn : n = l.length) (A1 : Option Addr) (c1 : Nat) (A2 : Option Addr) (c2 : Nat) (w : World) (h1 : SrcAt w A1 l.length 1 (l.map byteV)) (h2 : SrcAt w A2 l.length 1 (l.map byteV)) (hl : l.length ≤ 4611686018427387904) :
  Calls Tryz.prog 32 #[.slice A1 n c1, .slice A2 n c2] w fun e w' => e = .returned (.bool true) ∧ Below w.heap.size w w' := by
 subst hn
 have H1 := Aside0.mk h1
 have H2 := Aside0.mk h2
 have HL := Aside0.mk hl
 clear h1 h2
 go_enter Tryz.func32, Tryz.ntmps32
 go_upto_region 4 with fail
 clear hl
 go_loopg [5] l.length (fun kx s5 wr => ∃ kk : Nat, s5 = .int .i64 kk ∧ kk + kx = l.length ∧ Aside0 (Below w.heap.size w wr))
 case atStart => exact ⟨0, rfl, by omega, ⟨Below.refl _ _⟩⟩
 case round =>
  obtain ⟨kk, rfl, hkk, BW⟩ := hrel
  have hl := HL.out
  by_cases hlt : kk < l.length
  ·have hltz : (kk : Int) < (l.length : Int) := by omega
   obtain ⟨b, hb⟩ : ∃ b, l[kk]? = some b := ⟨_, List.getElem?_eq_getElem hlt⟩
   obtain ⟨g1, o1, hA1, e1⟩ := src_byte H1.out BW.out hb
   obtain ⟨g2, o2, hA2, e2⟩ := src_byte H2.out BW.out hb
   subst hA1 hA2
   clear hb
   unfold byteV at e1 e2
   obtain ⟨ko, rfl⟩ : ∃ ko, gk = ko + 1 := ⟨gk - 1, by omega⟩
   go_wp2_with fail
   go_quiet (fail)
   have H6 := Aside0.mk (below_step BW.out (bdn (Below.refl _ _) nq))
   go_wp2_with fail
   go_roundg ko
   case measure => omega
   case rel => exact ⟨kk + 1, by go_num, by omega, H6⟩
  ·have hltz : ¬ (kk : Int) < (l.length : Int) := by omega
   go_wp2_with fail
   go_ret
   exact ⟨rfl, BW.out⟩
set_option maxHeartbeats 4000000 in
theorem copyb (l : List UInt8) (n : Nat) (hn : n = l.length) (A : Option Addr) (c : Nat) (w : World) (h : SrcAt w A l.length 1 (l.map byteV)) (hl : l.length ≤ 140737488355328) :
  Calls Tryz.prog 34 #[.slice A n c] w fun e w' => OutEnd w w' l e := by
 have H := Aside0.mk (And.intro h hn)
 have HL := Aside0.mk hl
 clear h hl hn
 go_enter Tryz.func34, Tryz.ntmps34
 go_wp2_with (at_builtin; refine wpList_app rfl (.tmp 4) (.tmp 5) appB rfl w.heap.size 0 0 n c none A [] (l.map byteV) rfl (World.ownsRow_nil _ _ _ _) rfl (by rw [H.out.2]; exact H.out.1) (bytes_one _) (by have := HL.out; have := H.out.2; omega) (by have := HL.out; have := H.out.2; unfold maxLen; omega) (Nat.le_refl _) ?_; intro A' c' w5 h1 h2)
 have HO := Aside0.mk (And.intro h1 h2)
 clear h1 h2
 go_wp2_with fail
 go_ret
 refine ⟨A', c', ?_, ?_, below_grownBy HO.out.2⟩
 ·show Ending.returned (.slice A' n c') = _
  rw [H.out.2]
 ·have := HO.out.1
  rw [Nat.zero_add, H.out.2, List.nil_append] at this
  exact this
end Go.Proofs.YthnpiimiimiijaaGreatDoor.Dir
end
