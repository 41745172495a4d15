/- A book that is spoilt. -/
import Derived.Test.YthnpiimiimiijaaGreatDoorRefM
namespace Go.Proofs.YthnpiimiimiijaaGreatDoor.Dir
open Go Go.RowKit Go.Proofs Go.Proofs.YthnpiimiimiijaaGreatDoorW.PrintWords Go.Proofs.YthnpiimiimiijaaGreatDoorW.PrintLast Go.Proofs.YthnpiimiimiijaaGreatDoorW.PrintMore
set_option linter.unusedVariables false
set_option linter.unusedSimpArgs false
def SpoilEnd (w w' : World) (B : Book) (b1 b2 : Option Nat) (e : Ending) : Prop := ∃ A3 c3 A4 c4, e = .returned (.agg (bookCells B A3 c3 A4 c4).toArray) ∧ Lists w' w.heap.size B A3 c3 A4 c4 ∧ Kept2 w w' b1 b2
theorem own_other {w w' : World} {base : Nat} {e : TypeId} {size n : Nat} {v : Value} {xs : List Value} (h : w.ownsRow base e size v n xs) (hb : ∀ k, v.ownBlock = some k → w'.heap[k]? = w.heap[k]?) : w'.ownsRow base e size v n xs := by
 obtain ⟨h1, h2⟩ := h
 refine ⟨h1, ?_⟩
 rcases h2 with h2 | ⟨g, cap, cur, hv, hg, hh, r⟩
 ·exact Or.inl h2
 ·exact Or.inr ⟨g, cap, cur, hv, hg, by rw [hb g (by rw [hv]; rfl)]; exact hh, r⟩
theorem splice_len (cur : List Value) (i : Nat) (cs : List Value) (h : i + cs.length ≤ cur.length) : (splice cur i cs).length = cur.length := by
 unfold splice
 rw [List.length_append, List.length_append, List.length_take, List.length_drop]
 omega
set_option maxHeartbeats 8000000 in
set_option maxRecDepth 100000 in
theorem spoil_any (B : Book) (A1 : Option Addr) (c1 : Nat) (A2 : Option Addr) (c2 : Nat) (base : Nat) (w : World) (h : Lists w base B A1 c1 A2 c2) (hs1 : B.devs.length ≤ 2513169434916) (hs2 : B.spent.length ≤ 4398046511104) :
  Calls Tryz.prog 26 #[.agg (bookCells B A1 c1 A2 c2).toArray] w fun e w' => SpoilEnd w w' B (Value.slice A1 B.devs.length c1).ownBlock (Value.slice A2 B.spent.length c2).ownBlock e := by
 have hsrc : SrcB w B A1 A2 := ⟨h.src.1, h.src.2, by omega, by omega⟩
 obtain ⟨b1, hb1⟩ : ∃ b1, b1 = (Value.slice A1 B.devs.length c1).ownBlock := ⟨_, rfl⟩
 obtain ⟨b2, hb2⟩ : ∃ b2, b2 = (Value.slice A2 B.spent.length c2).ownBlock := ⟨_, rfl⟩
 have hI := InB.start (c1 := c1) (c2 := c2) hsrc
 obtain ⟨W0, hW0⟩ : ∃ W0, W0 = (w.alloc (.cells (bookCells B A1 c1 A2 c2).toArray 43)).alloc (.cells #[.int .i64 0, .int .i64 0, .slice none 0 0, .slice none 0 0, .string ⟨#[]⟩] 43) := ⟨_, rfl⟩
 obtain ⟨p, hp⟩ : ∃ p, p = w.heap.size := ⟨_, rfl⟩
 have hsz : (w.alloc (.cells (bookCells B A1 c1 A2 c2).toArray 43)).heap.size = p + 1 := by rw [hp]; simp
 have hI0 : InB w W0 p B A1 c1 A2 c2 := by rw [hW0, hp]; exact hI.later ((Below.refl _ _).alloc (Nat.le_refl _) _)
 have q2 : W0.heap[p + 1]? = some (.cells ([.int .i64 0, .int .i64 0, .slice none 0 0, .slice none 0 0, .string ⟨#[]⟩] : List Value).toArray 43 (0, 0)) := by rw [hW0, ← hsz]; exact heap_alloc_new _ _
 have HB := Aside0.mk (And.intro hb1 hb2)
 have HI := Aside0.mk hI0
 have HQ2 := Aside0.mk q2
 have HP := Aside0.mk hp
 have LB := Aside0.mk hI0.load
 have HS := Aside0.mk (And.intro hs1 hs2)
 have HCP := Aside0.mk (copy_ref B A1 c1 A2 c2 W0 hI0.src hs1 hs2)
 have HR1 := Aside0.mk (show RowN w b1 46 (B.devs.length * 35) by rw [hb1]; exact rowN_own h.1)
 have HR2 := Aside0.mk (show RowN w b2 34 (B.spent.length * 32) by rw [hb2]; exact rowN_own h.2.1)
 have HOW := Aside0.mk h
 have HLT := Aside0.mk (show (∀ k, b1 = some k → k < w.heap.size) ∧ (∀ k, b2 = some k → k < w.heap.size) from ⟨fun k hk => own_lt h.1 k (by rw [← hb1]; exact hk), fun k hk => own_lt h.2.1 k (by rw [← hb2]; exact hk)⟩)
 rw [← hb1, ← hb2]
 obtain ⟨BA, hBA⟩ : ∃ BA, BA = (bookCells B A1 c1 A2 c2).toArray := ⟨_, rfl⟩
 rw [← hBA] at hW0 hsz LB HCP ⊢
 clear h hs1 hs2 hsrc hb1 hb2 hI hI0 q2 hBA
 go_enter Tryz.func26, Tryz.ntmps26
 go_upto_region 1 with fail
 rw [← hW0]
 try rw [hsz]
 try rw [← hp]
 have HEQ := Aside0.mk (And.intro hW0 hsz)
 clear hW0 hsz hp
 go_wp2_with ((with_reducible refine at_load 43 (.tmp 1) ?_); refine wpList_loadK rfl 43 (.tmp 1) rfl _ rfl _ LB.out ?_)
 refine HCP.out.mono ?_
 rintro e w1 ⟨A3, c3, A4, c4, rfl, hL, hb1⟩
 obtain ⟨CB, hCB⟩ : ∃ CB, CB = (bookCells B A3 c3 A4 c4).toArray := ⟨_, rfl⟩
 obtain ⟨W2, hW2⟩ : ∃ W2, W2 = w1.alloc (.cells (bookCells B A3 c3 A4 c4).toArray 43) := ⟨_, rfl⟩
 obtain ⟨nb, hnb⟩ : ∃ nb, nb = w1.heap.size := ⟨_, rfl⟩
 have hb2 : Below W0.heap.size W0 W2 := by rw [hW2]; exact hb1.alloc hb1.size _
 have HB2 := Aside0.mk hb2
 have HI2 := Aside0.mk (HI.out.later hb2)
 have HL2 := Aside0.mk (show Lists W2 w.heap.size B A3 c3 A4 c4 by rw [hW2]; exact (hL.lower HI.out.fr.size).below ((Below.refl _ w1).alloc (Nat.le_refl _) _))
 have HNB := Aside0.mk (show W2.heap[nb]? = some (.cells (bookCells B A3 c3 A4 c4).toArray 43 (0, 0)) by rw [hW2, hnb]; exact heap_alloc_new w1 _)
 have HRM := Aside0.mk (room_at HQ2.out hb2)
 have HNW := Aside0.mk (show w.heap.size ≤ nb by rw [hnb]; exact Nat.le_trans HI.out.fr.size hb1.size)
 have st := Aside0.mk (fun (c : Array Value) (hc : c.size = 5) => run_storeNew Tryz.prog w1 43 5 size43 c (bookCells B A3 c3 A4 c4).toArray hc rfl (by simpa using book_one B A3 A4 c3 c4))
 have HSZ := Aside0.mk (show CB.size = 5 by rw [hCB]; rfl)
 rw [← hCB] at st hW2 HNB ⊢
 have HCB := Aside0.mk hCB
 clear hL hb1 hb2 hCB
 go_upto_region 2 with ((with_reducible refine at_store 43 (.tmp 3) (.tmp 7) ?_); refine wpList_storeK rfl 43 (.tmp 3) (.tmp 7) rfl rfl _ _ rfl rfl _ (st.out _ rfl) ?_)
 rw [← hW2, ← hnb]
 clear hW2 hnb st
 have HK2 := Aside0.mk (show Kept2 w W2 b1 b2 from Kept2.of_below (below_step HI.out.fr HB2.out))
 have HX1 := Aside0.mk (HR1.out.below (below_step HI.out.fr HB2.out))
 have HX2 := Aside0.mk (HR2.out.below (below_step HI.out.fr HB2.out))
 clear HR1 HR2
 go_upto_region 3 with fail
 go_loopg [4] B.devs.length (fun kx s4 wr => ∃ kk : Nat, s4 = .int .i64 kk ∧ kk + kx = B.devs.length ∧ Aside0 (Kept2 W2 wr b1 b2) ∧ Aside0 (RowN wr b1 46 (B.devs.length * 35)) ∧ Aside0 (RowN wr b2 34 (B.spent.length * 32)))
 case atStart => exact ⟨0, rfl, by omega, ⟨Kept2.of_below (Below.refl _ _)⟩, HX1, HX2⟩
 case round =>
  obtain ⟨kk, rfl, hkk, HK, H1, H2⟩ := hrel
  have hl1 := HS.out.1
  have HPB := Aside0.mk (show wr.heap[p]? = some (.cells (bookCells B A1 c1 A2 c2).toArray 43 (0, 0)) from (HK.out.block p HI2.out.lt (fun e => by have := HLT.out.1 p e.symm; have := HP.out; omega) (fun e => by have := HLT.out.2 p e.symm; have := HP.out; omega)).trans HI2.out.bx)
  have k2 : wr.cell? ⟨p, 2, none⟩ = some (.slice A1 B.devs.length c1) := by rw [cell_of_heap HPB.out]; rfl
  by_cases hlt : kk < B.devs.length
  ·have hltz : (kk : Int) < (B.devs.length : Int) := by omega
   obtain ⟨g, hA⟩ := owned_at HOW.out.1 (by omega)
   subst hA
   obtain ⟨cur, hg, hc⟩ := H1.out g HB.out.1
   have hkc : kk * 35 < cur.length := by omega
   have y0 : wr.cell? ⟨g, kk * 35, none⟩ = some cur[kk * 35] := by rw [cell_of_heap hg]; exact List.getElem?_eq_getElem hkc
   have fz : wr.frozen? ⟨g, kk * 35, none⟩ = false := frozen_of_heap hg
   obtain ⟨W3, hW3⟩ : ∃ W3, W3 = wr.setCell ⟨g, kk * 35, none⟩ (.int .i64 (-1)) := ⟨_, rfl⟩
   have he : W3 = wr.setRow g (cur.set (kk * 35) (.int .i64 (-1))).toArray := by rw [hW3, setCell_eq_setRow wr g (kk * 35) _ _ _ _ hg]; simp
   have HK3 := Aside0.mk (show Kept2 W2 W3 b1 b2 by rw [he]; exact HK.out.setRow (.inl HB.out.1) _)
   have H13 := Aside0.mk (show RowN W3 b1 46 (B.devs.length * 35) by rw [he]; exact H1.out.setRow g _ (fun c hc => by rw [hg] at hc; cases hc; rw [List.length_set]; exact Nat.le_refl _))
   have H23 := Aside0.mk (show RowN W3 b2 34 (B.spent.length * 32) by rw [he]; exact H2.out.setRow g _ (fun c hc => by rw [hg] at hc; cases hc))
   generalize cur[kk * 35] = yv at y0
   clear he hg hc hkc
   obtain ⟨ko, rfl⟩ : ∃ ko, gk = ko + 1 := ⟨gk - 1, by omega⟩
   go_upto_region 4 with fail
   rw [← hW3]
   clear hW3 y0 fz k2
   go_wp2_with fail
   go_roundg ko
   case measure => omega
   case rel => exact ⟨kk + 1, by go_num, by omega, HK3, H13, H23⟩
  ·have hltz : ¬ (kk : Int) < (B.devs.length : Int) := by omega
   go_upto_region 7 with fail
   clear k2 hltz hlt hkk hl1
   have HKA := HK
   have HXA := H2
   clear H1 HPB
   go_loopg [5] B.spent.length (fun kx s5 wr2 => ∃ kk : Nat, s5 = .int .i64 kk ∧ kk + kx = B.spent.length ∧ Aside0 (Kept2 W2 wr2 b1 b2) ∧ Aside0 (RowN wr2 b2 34 (B.spent.length * 32)))
   case atStart => exact ⟨0, rfl, by omega, HKA, HXA⟩
   clear HK H2 HKA HXA
   case round =>
    obtain ⟨kj, rfl, hkk, HK, H2⟩ := hrel
    have hl2 := HS.out.2
    have HPB := Aside0.mk (show wr.heap[p]? = some (.cells (bookCells B A1 c1 A2 c2).toArray 43 (0, 0)) from (HK.out.block p HI2.out.lt (fun e => by have := HLT.out.1 p e.symm; have := HP.out; omega) (fun e => by have := HLT.out.2 p e.symm; have := HP.out; omega)).trans HI2.out.bx)
    have k3 : wr.cell? ⟨p, 3, none⟩ = some (.slice A2 B.spent.length c2) := by rw [cell_of_heap HPB.out]; rfl
    by_cases hlt : kj < B.spent.length
    ·have hltz : (kj : Int) < (B.spent.length : Int) := by omega
     obtain ⟨g, hA⟩ := owned_at HOW.out.2.1 (by omega)
     subst hA
     obtain ⟨cur, hg, hc⟩ := H2.out g HB.out.2
     have hkc : kj * 32 + 32 ≤ cur.length := by omega
     have hst := run_storeAtK Tryz.prog wr 34 32 Tryz.sizeOf34 g (kj * 32) (encK key0) (encK_len _) (encK_one _) cur 34 hg hkc
     obtain ⟨W3, hW3⟩ : ∃ W3, W3 = wr.setRow g (splice cur (kj * 32) (encK key0)).toArray := ⟨_, rfl⟩
     have HK3 := Aside0.mk (show Kept2 W2 W3 b1 b2 by rw [hW3]; exact HK.out.setRow (.inr (.inl HB.out.2)) _)
     have H23 := Aside0.mk (show RowN W3 b2 34 (B.spent.length * 32) by rw [hW3]; exact H2.out.setRow g _ (fun c hc => by rw [hg] at hc; cases hc; rw [splice_len _ _ _ (by rw [encK_len]; exact hkc)]; exact Nat.le_refl _))
     rw [← hW3, zeroKey_eq] at hst
     simp only [zeroKey] at hst
     have ST := Aside0.mk hst
     clear hg hc hkc hst hW3
     obtain ⟨ko, rfl⟩ : ∃ ko, gk = ko + 1 := ⟨gk - 1, by omega⟩
     go_upto_region 8 with ((with_reducible refine at_store 34 (.tmp 31) (.tmp 30) ?_); refine wpList_storeK rfl 34 (.tmp 31) (.tmp 30) rfl rfl _ _ rfl rfl _ ST.out ?_)
     clear k3
     go_wp2_with fail
     go_roundg ko
     case measure => omega
     case rel => exact ⟨kj + 1, by go_num, by omega, HK3, H23⟩
    ·have hltz : ¬ (kj : Int) < (B.spent.length : Int) := by omega
     have hnb : wr.heap[nb]? = some (.cells CB 43 (0, 0)) := (HK.out.block nb (Array.getElem?_eq_some_iff.1 HNB.out).1 (fun e => by have := HLT.out.1 nb e.symm; have := HNW.out; omega) (fun e => by have := HLT.out.2 nb e.symm; have := HNW.out; omega)).trans HNB.out
     have hrm := (HK.out.block (p + 1) (Array.getElem?_eq_some_iff.1 HRM.out).1 (fun e => by have := HLT.out.1 (p + 1) e.symm; have := HP.out; omega) (fun e => by have := HLT.out.2 (p + 1) e.symm; have := HP.out; omega)).trans HRM.out
     have hlb := run_loadAtK Tryz.prog wr 43 5 Tryz.isAgg43 Tryz.sizeOf43 nb 0 (bookCells B A3 c3 A4 c4) rfl (cells_of_heap (T := 43) (fr := (0, 0)) (by rw [← HCB.out]; exact hnb))
     have hst := store_book wr (p + 1) _ hrm rfl B A3 c3 A4 c4
     have hff := setRow_heap wr (p + 1) _ (bookCells B A3 c3 A4 c4).toArray 43 (0, 0) hrm
     rw [← HCB.out] at hlb hst hff
     have LB2 := Aside0.mk hlb
     have ST := Aside0.mk hst
     have HFF := Aside0.mk hff
     clear hnb hrm hlb hst hff
     go_wp2_with (first | ((with_reducible refine at_load 43 (.tmp 3) ?_); refine wpList_loadK rfl 43 (.tmp 3) rfl _ rfl _ LB2.out ?_) | ((with_reducible refine at_store 43 (.tmp 2) (.tmp 32) ?_); refine wpList_storeK rfl 43 (.tmp 2) (.tmp 32) rfl rfl _ _ rfl rfl _ ST.out ?_))
     try simp only [Exit.inBlock, Exit.then]
     refine bodyPost_ret (results_cell_row rfl _ _ (p + 1) 43 _ (0, 0) _ rfl HFF.out Tryz.underlying43 rfl (by rw [HSZ.out]; kernel_rfl)) rfl ?_
     have hKK : Kept2 W2 (wr.setRow (p + 1) CB) b1 b2 ∨ True := .inr trivial
     have hp := HP.out
     have hfin : Kept2 w (wr.setRow (p + 1) CB) b1 b2 := (HK2.out.step HK.out).setRow (.inr (.inr (by omega))) _
     have same : ∀ k, w.heap.size ≤ k → k < W2.heap.size → k ≠ p + 1 → (wr.setRow (p + 1) CB).heap[k]? = W2.heap[k]? := fun k h1 h2 h3 => (setRow_other _ _ _ _ h3).trans (HK.out.block k h2 (fun e => by have := HLT.out.1 k e.symm; omega) (fun e => by have := HLT.out.2 k e.symm; omega))
     have o1 := own_other (w' := wr.setRow (p + 1) CB) HL2.out.1 (fun k hk => same k (HL2.out.1.lt k hk).1 (HL2.out.1.lt k hk).2 (fun e => own_ne HL2.out.1 HRM.out (by decide) (by rw [hk, e])))
     have o2 := own_other (w' := wr.setRow (p + 1) CB) HL2.out.2.1 (fun k hk => same k (HL2.out.2.1.lt k hk).1 (HL2.out.2.1.lt k hk).2 (fun e => own_ne HL2.out.2.1 HRM.out (by decide) (by rw [hk, e])))
     exact ⟨A3, c3, A4, c4, by rw [HCB.out], ⟨o1, o2, own_apart o1 o2 (by decide)⟩, hfin⟩
end Go.Proofs.YthnpiimiimiijaaGreatDoor.Dir
