/- The document's directory: put. -/
import Derived.Test.YthnpiimiimiijaaGreatDoorRefC
namespace Go.Proofs.YthnpiimiimiijaaGreatDoor.Dir
open Go Go.RowKit Go.Proofs Go.Proofs.YthnpiimiimiijaaGreatDoorW.PrintWords Go.Proofs.YthnpiimiimiijaaGreatDoorW.PrintLast Go.Proofs.YthnpiimiimiijaaGreatDoorW.PrintMore
set_option linter.unusedVariables false
set_option linter.unusedSimpArgs false
theorem idxF_spec : ∀ (l : List Dev) (n j : Int), 0 ≤ j → idxF l n j = -1 ∧ (∀ d ∈ l, d.node ≠ n) ∨ ∃ (i : Nat) (x : Dev), l[i]? = some x ∧ x.node = n ∧ idxF l n j = j + i ∧ (∀ y ∈ l.take i, y.node ≠ n)
 | [], n, j, _ => .inl ⟨rfl, by simp⟩
 | d :: l, n, j, hj => by
  unfold idxF
  by_cases h : d.node = n
  ·rw [if_pos h]
   exact .inr ⟨0, d, rfl, h, by simp, by simp⟩
  ·rw [if_neg h]
   rcases idxF_spec l n (j + 1) (by omega) with ⟨h1, h2⟩ | ⟨i, x, h1, h2, h3, h4⟩
   ·refine .inl ⟨h1, fun y hy => ?_⟩
    rcases List.mem_cons.1 hy with e | e
    ·rw [e]; exact h
    ·exact h2 y e
   ·refine .inr ⟨i + 1, x, by simpa using h1, h2, by rw [h3]; omega, fun y hy => ?_⟩
    rw [List.take_succ_cons] at hy
    rcases List.mem_cons.1 hy with e | e
    ·rw [e]; exact h
    ·exact h4 y e
/-- The document's put: what stands for a node. -/
def putAt (l : List Dev) (d : Dev) (n : Int) : List Dev := if n = d.node then [d] else if 0 ≤ idxF l n 0 then [l.getD (idxF l n 0).toNat default] else []
def putR (l : List Dev) (d : Dev) (k : Nat) : List Dev := (List.range k).flatMap fun (j : Nat) => putAt l d ((j : Int) + 1)
theorem putR_next (l : List Dev) (d : Dev) (k : Nat) : putR l d (k + 1) = putR l d k ++ putAt l d (k + 1) := by
 unfold putR
 rw [List.range_succ, List.flatMap_append]
 simp
theorem putAt_len (l : List Dev) (d : Dev) (n : Int) : (putAt l d n).length ≤ 1 := by
 unfold putAt
 split
 ·simp
 ·split <;> simp
theorem putR_len (l : List Dev) (d : Dev) : ∀ k : Nat, (putR l d k).length ≤ k
 | 0 => by simp [putR]
 | k + 1 => by rw [putR_next, List.length_append]; have := putR_len l d k; have := putAt_len l d (k + 1); omega
set_option maxHeartbeats 8000000 in
set_option maxRecDepth 100000 in
theorem put_ref (B : Book) (A1 : Option Addr) (c1 : Nat) (A2 : Option Addr) (c2 : Nat) (d : Dev) (w : World) (h : SrcB w B A1 A2) :
  Calls Tryz.prog 95 #[.agg (bookCells B A1 c1 A2 c2).toArray, .agg (encD d).toArray] w fun e w' => DevsEnd w w' A2 c2 { B with devs := putR B.devs d 8 } e := by
 have hI0 := InB.start (c1 := c1) (c2 := c2) h
 obtain ⟨W0, hW0⟩ : ∃ W0, W0 = ((w.alloc (.cells (bookCells B A1 c1 A2 c2).toArray 43)).alloc (.cells (encD d).toArray 46)).alloc (.cells #[.int .i64 0, .int .i64 0, .slice none 0 0, .slice none 0 0, .string ⟨#[]⟩] 43) := ⟨_, rfl⟩
 obtain ⟨p, hp⟩ : ∃ p, p = w.heap.size := ⟨_, rfl⟩
 have hsz : (w.alloc (.cells (bookCells B A1 c1 A2 c2).toArray 43)).heap.size = p + 1 := by rw [hp]; simp
 have hsz2 : ((w.alloc (.cells (bookCells B A1 c1 A2 c2).toArray 43)).alloc (.cells (encD d).toArray 46)).heap.size = p + 2 := by rw [hp]; simp
 have hI : InB w W0 p B A1 c1 A2 c2 := by rw [hW0, hp]; exact (hI0.later ((Below.refl _ _).alloc (Nat.le_refl _) _)).later ((Below.refl _ _).alloc (Nat.le_refl _) _)
 have q2 : W0.heap[p + 1]? = some (.cells (encD d).toArray 46 (0, 0)) := by rw [hW0, Below.heap_alloc _ _ _ (by rw [hsz2]; omega), ← hsz]; exact heap_alloc_new _ _
 have q3 : W0.heap[p + 2]? = some (.cells ([.int .i64 0, .int .i64 0, .slice none 0 0, .slice none 0 0, .string ⟨#[]⟩] : List Value).toArray 43 (0, 0)) := by rw [hW0, ← hsz2]; exact heap_alloc_new _ _
 have hlt0 : p + 2 < W0.heap.size := (Array.getElem?_eq_some_iff.1 q3).1
 have HI := Aside0.mk hI
 have HQ := Aside0.mk (fun (W : World) (hb : Below W0.heap.size W0 W) => run_loadAtK Tryz.prog W 46 35 Tryz.isAgg46 Tryz.sizeOf46 (p + 1) 0 (encD d) (encD_len _) (cells_of_heap ((hb.block _ (Array.getElem?_eq_some_iff.1 q2).1).trans q2)))
 have HQN := Aside0.mk (fun (W : World) (hb : Below W0.heap.size W0 W) => (show W.cell? ⟨p + 1, 0, none⟩ = some (.int .i64 d.node) by rw [cell_of_heap ((hb.block _ (Array.getElem?_eq_some_iff.1 q2).1).trans q2)]; rfl))
 have HQ3 := Aside0.mk (And.intro q3 hlt0)
 have HFD := Aside0.mk (fun (n : Int) (W : World) (hb : Below W0.heap.size W0 W) => find_ref B A1 c1 A2 c2 n W (hI.later hb).src)
 have HLB := Aside0.mk (fun (W : World) (hb : Below W0.heap.size W0 W) => (hI.later hb).load)
 obtain ⟨X, hX⟩ : ∃ X, X = (encD d).toArray := ⟨_, rfl⟩
 obtain ⟨BA, hBA⟩ : ∃ BA, BA = (bookCells B A1 c1 A2 c2).toArray := ⟨_, rfl⟩
 obtain ⟨dn, hdn⟩ : ∃ dn, dn = d.node := ⟨_, rfl⟩
 have HX := Aside0.mk (And.intro hX hdn)
 rw [← hX] at HQ hW0 hsz2 ⊢
 rw [← hBA] at hW0 hsz hsz2 HFD HLB ⊢
 rw [← hdn] at HQN
 have HAR := Aside0.mk h
 clear hI0 hI h q2 q3 hX hBA hdn hlt0
 go_enter Tryz.func95, Tryz.ntmps95
 go_upto_region 1 with fail
 rw [← hW0]
 try rw [hsz2]
 try rw [hsz]
 try rw [← hp]
 have HEQ := Aside0.mk (And.intro hW0 (And.intro hp (And.intro hsz hsz2)))
 clear hW0 hsz hsz2 hp
 go_upto_region 3 with fail
 go_loopg [5, 6] 8 (fun kx s5 s6 wr => ∃ (kk : Nat) (A : Option Addr) (c : Nat) (l : List Dev), s6 = .int .i64 ((kk : Int) + 1) ∧ s5 = .slice A l.length c ∧ kk + kx = 8 ∧ Aside0 (OwnD wr W0.heap.size A c l) ∧ Aside0 (l = putR B.devs d kk) ∧ Aside0 (Below W0.heap.size W0 wr))
 case atStart => exact ⟨0, none, 0, [], rfl, rfl, by omega, ⟨ownD_nil _ _⟩, ⟨rfl⟩, ⟨Below.refl _ _⟩⟩
 case round =>
  obtain ⟨kk, A, c, l, rfl, rfl, hkk, HO, HLN, HB⟩ := hrel
  by_cases hlt : kk < 8
  ·have hltz : (kk : Int) + 1 ≤ 8 := by omega
   have LB := Aside0.mk (HLB.out wr HB.out)
   have HF0 := Aside0.mk (HFD.out ((kk : Int) + 1) wr HB.out)
   have HSP := Aside0.mk (idxF_spec B.devs ((kk : Int) + 1) 0 (by omega))
   have HPN := Aside0.mk (putR_next B.devs d kk)
   obtain ⟨ix, hix⟩ : ∃ ix, ix = idxF B.devs ((kk : Int) + 1) 0 := ⟨_, rfl⟩
   rw [← hix] at HF0 HSP
   have HIX := Aside0.mk hix
   clear hix
   obtain ⟨ko, rfl⟩ : ∃ ko, gk = ko + 1 := ⟨gk - 1, by omega⟩
   go_wp2_with ((with_reducible refine at_load 43 (.tmp 2) ?_); refine wpList_loadK rfl 43 (.tmp 2) rfl _ rfl _ LB.out ?_)
   refine HF0.out.mono ?_
   rintro e w1 ⟨rfl, hb1⟩
   have HB1 := Aside0.mk (below_step HB.out hb1)
   have HO1 := Aside0.mk (HO.out.below hb1)
   have q0 := HQN.out w1 HB1.out
   clear hb1
   by_cases hn : (kk : Int) + 1 = dn
   ·have hnb : ((kk : Int) + 1 == dn) = true := beq_iff_eq.2 hn
    have HN := Aside0.mk hn
    have LX := Aside0.mk (HQ.out w1 HB1.out)
    clear hn
    go_wp2_with (first | ((with_reducible refine at_load 46 (.tmp 3) ?_); refine wpList_loadK rfl 46 (.tmp 3) rfl _ rfl _ LX.out ?_) | ((with_reducible refine at_bslice 40 (.tmp 20) ?_); refine wpList_pushD rfl rfl (.tmp 20) (.tmp 19) (.tmp 21) rfl rfl d (by rw [← HX.out.1]; rfl) W0.heap.size _ _ _ _ HO1.out rfl (by first | rfl | simp) rfl (by rw [HLN.out]; have := putR_len B.devs d kk; omega) HB1.out.size ?_; intro A3 c3 w5 h1 h2 h3))
    have HO2 := Aside0.mk h1
    have HB2 := Aside0.mk h2
    clear h1 h2 h3
    go_wp2_with fail
    go_roundg ko
    case measure => omega
    case rel => exact ⟨kk + 1, A3, c3, l ++ [d], by go_num, by rw [List.length_append]; rfl, by omega, ⟨HO2.out⟩, ⟨by rw [HPN.out, HLN.out]; unfold putAt; rw [if_pos (HN.out.trans HX.out.2)]⟩, ⟨HB1.out.trans HB2.out⟩⟩
   ·have hnb : ((kk : Int) + 1 == dn) = false := beq_eq_false_iff_ne.2 hn
    have HN := Aside0.mk hn
    clear hn
    rcases HSP.out with ⟨h1, -⟩ | ⟨i, x, hx, -, h3, -⟩
    ·have h1n : ¬ (0 ≤ ix) := by omega
     have HNI := Aside0.mk h1n
     have h1d : decide (0 ≤ ix) = false := decide_eq_false h1n
     clear h1 h1n
     go_wp2_with fail
     go_roundg ko
     case measure => omega
     case rel => exact ⟨kk + 1, A, c, l, by go_num, rfl, by omega, ⟨HO1.out⟩, ⟨by rw [HPN.out, HLN.out]; unfold putAt; rw [if_neg (fun e => HN.out (e.trans HX.out.2.symm)), ← HIX.out, if_neg (by have := HNI.out; omega)]; simp⟩, ⟨HB1.out⟩⟩
    ·have hlt2 := (List.getElem?_eq_some_iff.1 hx).1
     obtain ⟨g, o, hA1, hc⟩ := HI.out.src.dev hx
     subst hA1
     have LX := Aside0.mk (hc w1 HB1.out)
     have HFW := HAR.out.few
     have hixi : ix = (i : Int) := by omega
     have HXI := Aside0.mk (And.intro hx hixi)
     obtain ⟨Y, hY⟩ : ∃ Y, Y = (encD x).toArray := ⟨_, rfl⟩
     have HY := Aside0.mk hY
     rw [← hY] at LX
     have k2 := (HI.out.later HB1.out).cells.2.2.1
     have hlt3 : (i : Int) < (B.devs.length : Int) := by omega
     clear hx h3 hc hY
     subst hixi
     go_wp2_with (first | ((with_reducible refine at_load 46 (.tmp 29) ?_); refine wpList_loadK rfl 46 (.tmp 29) rfl _ rfl _ LX.out ?_) | ((with_reducible refine at_bslice 40 (.tmp 30) ?_); refine wpList_pushD rfl rfl (.tmp 30) (.tmp 25) (.tmp 31) rfl rfl x (by rw [← HY.out]; rfl) W0.heap.size _ _ _ _ HO1.out rfl (by first | rfl | simp) rfl (by rw [HLN.out]; have := putR_len B.devs d kk; omega) HB1.out.size ?_; intro A3 c3 w5 h1 h2 h3))
     have HO2 := Aside0.mk h1
     have HB2 := Aside0.mk h2
     clear h1 h2 h3
     go_wp2_with fail
     go_roundg ko
     case measure => omega
     case rel => exact ⟨kk + 1, A3, c3, l ++ [x], by go_num, by rw [List.length_append]; rfl, by omega, ⟨HO2.out⟩, ⟨by rw [HPN.out, HLN.out]; unfold putAt; rw [if_neg (fun e => HN.out (e.trans HX.out.2.symm)), ← HIX.out, if_pos (by omega), Int.toNat_natCast, List.getD_eq_getElem?_getD, HXI.out.1]; rfl⟩, ⟨HB1.out.trans HB2.out⟩⟩
  ·have hltz : ¬ (kk : Int) + 1 ≤ 8 := by omega
   have : kk = 8 := by omega
   subst this
   have HE2 := Aside0.mk (show putR B.devs d 8 = l from HLN.out.symm)
   have HLE := Aside0.mk (show l.length = l.length from rfl)
   have BX := Aside0.mk (HI.out.later HB.out)
   obtain ⟨W6, hW6⟩ : ∃ W6, W6 = wr.setCell ⟨p, 2, none⟩ (.slice A l.length c) := ⟨_, rfl⟩
   have hq : W6.heap[p]? = some (.cells (bookCells { B with devs := l } A c A2 c2).toArray 43 (0, 0)) := by
    rw [hW6, heap_setCell_same wr p 2 _ _ _ BX.out.bx, ← HLE.out]
    rfl
   have hq3 : W6.heap[p + 2]? = some (.cells ([.int .i64 0, .int .i64 0, .slice none 0 0, .slice none 0 0, .string ⟨#[]⟩] : List Value).toArray 43 (0, 0)) := by
    rw [hW6, Below.heap_setCell _ _ _ _ (by simp), HB.out.block _ HQ3.out.2]
    exact HQ3.out.1
   have LB := Aside0.mk (run_loadAtK Tryz.prog W6 43 5 Tryz.isAgg43 Tryz.sizeOf43 p 0 _ rfl (cells_of_heap hq))
   have ST := Aside0.mk (store_book W6 (p + 2) _ hq3 rfl { B with devs := l } A c A2 c2)
   have HF := Aside0.mk (setRow_heap W6 (p + 2) _ (bookCells { B with devs := l } A c A2 c2).toArray 43 (0, 0) hq3)
   have k3 := BX.out.cells.2.2.1
   have fz : wr.frozen? ⟨p, 2, none⟩ = false := frozen_of_heap BX.out.bx
   have HW6 := Aside0.mk hW6
   clear hq hq3
   go_upto_region 11 with fail
   rw [← hW6]
   clear hW6 k3 fz
   obtain ⟨CB, hCB⟩ : ∃ CB, CB = (bookCells { B with devs := l } A c A2 c2).toArray := ⟨_, rfl⟩
   rw [← hCB] at LB ST HF
   have HCB := Aside0.mk hCB
   have HSZ := Aside0.mk (show CB.size = 5 by rw [hCB]; rfl)
   clear hCB
   go_wp2_with (first | ((with_reducible refine at_load 43 (.tmp 2) ?_); refine wpList_loadK rfl 43 (.tmp 2) rfl _ rfl _ LB.out ?_) | ((with_reducible refine at_store 43 (.tmp 4) (.tmp 35) ?_); refine wpList_storeK rfl 43 (.tmp 4) (.tmp 35) rfl rfl _ _ rfl rfl _ ST.out ?_))
   try simp only [Exit.inBlock, Exit.then]
   refine bodyPost_ret (results_cell_row rfl _ _ (p + 2) 43 _ (0, 0) _ rfl HF.out Tryz.underlying43 rfl (by rw [HSZ.out]; kernel_rfl)) rfl ?_
   have hlt0 := HQ3.out.2
   have hfr : Below w.heap.size w (W6.setRow (p + 2) CB) := below_setRow (by rw [HW6.out]; exact (HI.out.fr.trans (HB.out.mono HI.out.fr.size)).setCell (by rw [HEQ.out.2.1]; exact Nat.le_refl _) _) (by rw [HEQ.out.2.1]; omega) _
   have hown : OwnD (W6.setRow (p + 2) CB) W0.heap.size A c (l) := ownD_setRow (by rw [HW6.out]; exact ownsRow_setCell_other HO.out (a := ⟨p, 2, none⟩) (fun j hj e => by have h1 := own_base HO.out j hj; have h2 : j = p := e; omega) _) hlt0 _
   rw [HE2.out, HCB.out]
   rw [HCB.out] at hfr hown
   exact ⟨A, c, rfl, ⟨hown.src, HAR.out.spent.grown hfr, by show (l).length ≤ _; rw [HLN.out]; have := putR_len B.devs d 8; omega, HAR.out.len⟩, fun a ha => ⟨Nat.le_trans HI.out.fr.size (own_newA hown a ha), own_typed hown a ha⟩, hfr⟩
end Go.Proofs.YthnpiimiimiijaaGreatDoor.Dir
