/- The document's Bytes. Valid at books that came in: the program's, the document's. EqBytes at bytes that are alike; CopyBytes. The law DirectChecks. -/
import Derived.Test.YthnpiimiimiijaaGreatDoorKc22
section
namespace Go.Proofs.YthnpiimiimiijaaGreatDoor.Dir
open Go Go.RowKit Go.Proofs Go.Proofs.YthnpiimiimiijaaGreatDoorW.PrintWords Go.Proofs.YthnpiimiimiijaaGreatDoorW.PrintLast Go.Proofs.YthnpiimiimiijaaGreatDoorW.PrintMore
set_option linter.unusedVariables false
set_option linter.unusedSimpArgs false
theorem RWr.up {w : World} {base rw : Nat} {xs : List UInt8} {k k' : Nat} (h : RWr w base rw xs k) (hk : k ≤ k') : RWr w base rw xs k' := by
 obtain ⟨v, ps, h1, h2, h3, h4, h5⟩ := h
 exact ⟨v, ps, h1, h2, h3, by omega, h5⟩
set_option maxHeartbeats 8000000 in
set_option maxRecDepth 100000 in
theorem bytes_ref (B : Book) (A1 : Option Addr) (c1 : Nat) (A2 : Option Addr) (c2 : Nat) (w : World) (h : SrcB w B A1 A2) :
  Calls Tryz.prog 30 #[.agg (bookCells B A1 c1 A2 c2).toArray] w fun e w' => BytesEnd w w' B e ∧ Below w.heap.size w w' := by
 have hI := InB.start (c1 := c1) (c2 := c2) h
 obtain ⟨W0, hW0⟩ : ∃ W0, W0 = w.alloc (.cells (bookCells B A1 c1 A2 c2).toArray 43) := ⟨_, rfl⟩
 obtain ⟨p, hp⟩ : ∃ p, p = w.heap.size := ⟨_, rfl⟩
 rw [← hW0, ← hp] at hI
 have HI := Aside0.mk hI
 have hck := Aside0.mk (check_ref B A1 c1 A2 c2 W0 hI.src)
 have L1 := Aside0.mk hI.load
 obtain ⟨BA, hBA⟩ : ∃ BA, BA = (bookCells B A1 c1 A2 c2).toArray := ⟨_, rfl⟩
 rw [← hBA] at hW0 hck L1 ⊢
 clear hI h hBA
 go_enter Tryz.func30, Tryz.ntmps30
 go_upto_region 1 with fail
 rw [← hW0, ← hp]
 have HEQ := Aside0.mk (And.intro hW0 hp)
 clear hW0 hp
 go_wp2_with ((with_reducible refine at_load 43 (.tmp 1) ?_); refine wpList_loadK rfl 43 (.tmp 1) rfl _ rfl _ L1.out ?_)
 refine hck.out.mono ?_
 rintro e w1 ⟨hce, hb1⟩
 have HB1 := Aside0.mk hb1
 clear hb1 hck L1
 rcases hce with ⟨rfl, hok⟩ | ⟨rfl, hno⟩
 case inr =>
  have HNO := Aside0.mk hno
  clear hno
  go_wp2_with fail
  go_ret2
  exact ⟨.inr ⟨rfl, HNO.out⟩, below_step HI.out.fr HB1.out⟩
 case inl =>
  have hwf := hok.1
  have HM := Aside0.mk hok
  have HL := Aside0.mk (show B.devs.length ≤ 8 ∧ B.spent.length ≤ 64 from ⟨hwf.few.1, hwf.few.2⟩)
  have HWF := Aside0.mk hwf
  have HA := Aside0.mk (acl_short hok.2)
  obtain ⟨vn, hvn⟩ : ∃ vn : Nat, B.ver = vn := ⟨B.ver.toNat, by have := hwf.ver.1; omega⟩
  obtain ⟨cn, hcn⟩ : ∃ cn : Nat, B.clock = cn := ⟨B.clock.toNat, by have := hwf.clock.1; omega⟩
  have HVN := Aside0.mk (show vn ≤ 9007199254740991 ∧ cn ≤ 9007199254740991 by have h1 := hwf.ver.2; have h2 := hwf.clock.2; unfold maxN at h1 h2; omega)
  have HVC := Aside0.mk (And.intro hvn hcn)
  clear hok hwf
  go_upto_region 5 with (go_at_call 61; refine (write61 w1).mono ?_; rintro e w2 ⟨bw, rfl, hw, hb⟩)
  obtain ⟨base, hbase⟩ : ∃ base, base = w1.heap.size := ⟨_, rfl⟩
  rw [← hbase] at hw hb
  have HBS := Aside0.mk (show W0.heap.size ≤ base by rw [hbase]; exact HB1.out.size)
  have B2 := Aside0.mk (HB1.out.trans (hb.mono HBS.out))
  have hk := (HI.out.later B2.out).cells
  obtain ⟨k0, -, -, -, -⟩ := hk
  rw [hvn] at k0
  have hp := Aside0.mk (put62 base bw _ 0 vn 7 w2 hw (by have := HVN.out; omega) (by decide) (by decide) (by have := HVN.out; omega) (by decide))
  clear hw hb hvn hcn
  go_upto_region 6 with (go_at_call 62; refine hp.out.mono ?_; rintro e w3 ⟨rfl, h3, hb3, -⟩)
  clear k0 hp
  have B3 := Aside0.mk (B2.out.trans (hb3.mono HBS.out))
  have hk := (HI.out.later B3.out).cells
  obtain ⟨-, k1, -, -, -⟩ := hk
  rw [HVC.out.2] at k1
  have hp := Aside0.mk (put62 base bw _ _ cn 7 w3 h3 (by have := HVN.out; omega) (by decide) (by decide) (by have := HVN.out; omega) (by decide))
  clear h3 hb3
  go_upto_region 7 with (go_at_call 62; refine hp.out.mono ?_; rintro e w4 ⟨rfl, h4, hb4, -⟩)
  clear k1 hp
  have B4 := Aside0.mk (B3.out.trans (hb4.mono HBS.out))
  have hk := (HI.out.later B4.out).cells
  obtain ⟨-, -, k2, -, -⟩ := hk
  have hp := Aside0.mk (put62 base bw _ _ B.devs.length 1 w4 h4 (by have := HL.out; omega) (by decide) (by decide) (by have := HL.out; omega) (by decide))
  clear h4 hb4
  go_upto_region 8 with (go_at_call 62; refine hp.out.mono ?_; rintro e w5 ⟨rfl, h5, hb5, -⟩)
  clear k2 hp
  have B5 := Aside0.mk (B4.out.trans (hb5.mono HBS.out))
  have H5 := Aside0.mk (show RWr w5 base bw (headB B) 3 by
   have e : [] ++ beN vn 7 ++ beN cn 7 ++ beN B.devs.length 1 = headB B := by
    unfold headB
    rw [HVC.out.1, HVC.out.2]
    simp
   rw [← e]; exact h5)
  clear h5 hb5
  have HBSR := Aside0.mk (show Below w.heap.size w W0 from HI.out.fr)
  go_upto_region 9 with fail
  go_loopg [6] B.devs.length (fun kx s6 wr => ∃ kk : Nat, s6 = .int .i64 kk ∧ kk + kx = B.devs.length ∧ Aside0 (RWr wr base bw (headB B ++ devsB (B.devs.take kk)) (3 + 4 * kk) ∧ Below W0.heap.size W0 wr))
  case atStart => exact ⟨0, rfl, by omega, ⟨by simpa [devsB] using H5.out, B5.out⟩⟩
  case round =>
   obtain ⟨kk, rfl, hkk, HT⟩ := hrel
   have hL8 := HL.out.1
   have hk := (HI.out.later HT.out.2).cells
   obtain ⟨-, -, k2, -, -⟩ := hk
   by_cases hlt : kk < B.devs.length
   ·have hltz : (kk : Int) < (B.devs.length : Int) := by omega
    obtain ⟨d, hd⟩ : ∃ d, B.devs[kk]? = some d := ⟨_, List.getElem?_eq_getElem hlt⟩
    obtain ⟨g, o, hA1, hc⟩ := HI.out.src.devc hd
    subst hA1
    have hmem := List.mem_of_getElem? hd
    have DL := Aside0.mk (run_loadAtK Tryz.prog wr 46 35 Tryz.isAgg46 Tryz.sizeOf46 g (o + kk * 35) (encD d) (encD_len _) (fun j v hj => hc wr HT.out.2 j v hj))
    have st := Aside0.mk (fun (c : Array Value) (hc : c.size = 35) => run_storeNew Tryz.prog wr 46 35 sizeD c (encD d).toArray hc (by simpa using encD_len d) (by simpa using encD_one d))
    obtain ⟨w6, hw6⟩ : ∃ w6, w6 = wr.alloc (.cells (encD d).toArray 46) := ⟨_, rfl⟩
    obtain ⟨nb, hnb⟩ : ∃ nb, nb = wr.heap.size := ⟨_, rfl⟩
    have hd6 : w6.heap[nb]? = some (.cells (encD d).toArray 46 (0, 0)) := by rw [hw6, hnb]; exact heap_alloc_new wr _
    have B6 := Aside0.mk (show Below W0.heap.size W0 w6 by rw [hw6]; exact HT.out.2.alloc HT.out.2.size _)
    have h6 : RWr w6 base bw (headB B ++ devsB (B.devs.take kk)) (3 + 4 * kk) := by rw [hw6]; exact HT.out.1.below ((Below.refl _ wr).alloc (Nat.le_refl _) _)
    obtain ⟨dn, hdn⟩ : ∃ dn : Nat, d.node = dn := ⟨d.node.toNat, by have := HWF.out.nodes d hmem; omega⟩
    obtain ⟨de, hde⟩ : ∃ de : Nat, d.exp = de := ⟨d.exp.toNat, by have := HWF.out.exps d hmem; omega⟩
    have HDN := Aside0.mk (show dn ≤ 8 ∧ de ≤ 9007199254740991 by have h1 := HWF.out.nodes d hmem; have h2 := HWF.out.exps d hmem; unfold maxN at h2; omega)
    have HDE := Aside0.mk (And.intro hdn hde)
    have HK8 := Aside0.mk (show kk ≤ 8 by omega)
    have HNXT := Aside0.mk (devsB_next hd)
    have y0 : w6.cell? ⟨nb, 0, none⟩ = some (.int .i64 dn) := by rw [cell_of_heap hd6, ← hdn]; rfl
    have HD6 := Aside0.mk hd6
    obtain ⟨DA, hDA⟩ : ∃ DA, DA = (encD d).toArray := ⟨_, rfl⟩
    rw [← hDA] at DL st hw6
    have HDK := Aside0.mk hd
    have HKK := Aside0.mk hkk
    obtain ⟨ko, rfl⟩ : ∃ ko, gk = ko + 1 := ⟨gk - 1, by omega⟩
    have hp := Aside0.mk (put62 base bw _ _ dn 1 w6 h6 (by have := HDN.out; omega) (by decide) (by decide) (by have := HDN.out; omega) (by have := HK8.out; omega))
    clear hd hd6 hDA hc hmem hdn hde h6 hkk
    go_upto_region 12 with (first | ((with_reducible refine at_load 46 (.tmp 39) ?_); refine wpList_loadK rfl 46 (.tmp 39) rfl _ rfl _ DL.out ?_) | ((with_reducible refine at_store 46 (.tmp 7) (.tmp 40) ?_); refine wpList_storeK rfl 46 (.tmp 7) (.tmp 40) rfl rfl _ _ rfl rfl _ (st.out _ rfl) ?_))
    rw [← hw6, ← hnb]
    clear hw6 hnb DL st hltz k2
    go_upto_region 13 with (go_at_call 62; refine hp.out.mono ?_; rintro e w7 ⟨rfl, h7, hb7, hk7⟩)
    clear y0 hp
    have hd7 := hk7 nb _ 46 (0, 0) HD6.out (by decide)
    have B7 := Aside0.mk (B6.out.trans (hb7.mono HBS.out))
    have hp : Aside0 (Calls Tryz.prog 63 #[.pointer (some ⟨bw, 0, none⟩), .slice (some ⟨nb, 1, none⟩) 32 32] w7 fun e w' => RWrEnd w7 w' base bw (headB B ++ devsB (B.devs.take kk) ++ beN dn 1 ++ d.key.1) (3 + 4 * kk + 1 + 1) e) := ⟨by
     have := bytes63 base bw (headB B ++ devsB (B.devs.take kk) ++ beN dn 1) d.key.1 _ (some ⟨nb, 1, none⟩) 32 w7 h7 (src_cells hd7 1 _ _ (by simp) (fun j u hj => dev_key hj)) (by rw [d.key.2]; omega) (by have := HK8.out; omega)
     rw [d.key.2] at this
     exact this⟩
    have HD7 := Aside0.mk hd7
    clear hk7 hd7 h7 hb7
    go_upto_region 14 with (go_at_call 63; refine hp.out.mono ?_; rintro e w8 ⟨rfl, h8, hb8, hk8⟩)
    clear hp
    have hd8 := hk8 nb _ 46 (0, 0) HD7.out (by decide)
    have B8 := Aside0.mk (B7.out.trans (hb8.mono HBS.out))
    have y3 : w8.cell? ⟨nb, 33, none⟩ = some (.int .i64 de) := by rw [cell_of_heap hd8, ← HDE.out.2]; exact expOfD d
    have hp := Aside0.mk (put62 base bw _ _ de 7 w8 h8 (by have := HDN.out; omega) (by decide) (by decide) (by have := HDN.out; omega) (by have := HK8.out; omega))
    have HD8 := Aside0.mk hd8
    clear hk8 hd8 h8 hb8
    go_upto_region 15 with (go_at_call 62; refine hp.out.mono ?_; rintro e w9 ⟨rfl, h9, hb9, hk9⟩)
    clear y3 hp
    have hd9 := hk9 nb _ 46 (0, 0) HD8.out (by decide)
    have B9 := Aside0.mk (B8.out.trans (hb9.mono HBS.out))
    obtain ⟨rv, hrv⟩ : ∃ rv, rv = d.rev := ⟨_, rfl⟩
    have y4 : w9.cell? ⟨nb, 34, none⟩ = some (.bool rv) := by rw [cell_of_heap hd9, hrv]; exact revOfD d
    have hp := Aside0.mk (put62 base bw _ _ (if rv then 1 else 0) 1 w9 h9 (by split <;> omega) (by decide) (by decide) (by split <;> omega) (by have := HK8.out; omega))
    have HRV := Aside0.mk hrv
    clear hk9 hd9 h9 hb9 hrv
    cases rv
    all_goals
     first | rw [if_neg (by decide)] at hp | rw [if_pos rfl] at hp
     go_wp2_with (go_at_call 62; refine hp.out.mono ?_; rintro e w10 ⟨rfl, h10, hb10, -⟩)
     have H10 := Aside0.mk h10
     have B10 := Aside0.mk (B9.out.trans (hb10.mono HBS.out))
     clear h10 hb10 hp y4
     go_wp2_with fail
     go_roundg ko
     case measure => have := HKK.out; omega
     case rel =>
      refine ⟨kk + 1, by go_num, by have := HKK.out; omega, ⟨?_, B10.out⟩⟩
      have e := H10.out
      rw [HNXT.out, ← List.append_assoc]
      unfold devB
      rw [HDE.out.1, HDE.out.2, ← HRV.out]
      simpa [Nat.mul_add, Nat.add_assoc] using e
   ·have hltz : ¬ (kk : Int) < (B.devs.length : Int) := by omega
    have : kk = B.devs.length := by omega
    subst this
    have hk := (HI.out.later HT.out.2).cells
    obtain ⟨-, -, -, k3, -⟩ := hk
    have hp := Aside0.mk (put62 base bw _ _ B.spent.length 1 wr HT.out.1 (by have := HL.out; omega) (by decide) (by decide) (by have := HL.out; omega) (by omega))
    clear hlt hkk
    go_upto_region 20 with (go_at_call 62; refine hp.out.mono ?_; rintro e x1 ⟨rfl, h1, hb1, -⟩)
    clear hp k3
    have HX1 := Aside0.mk (show RWr x1 base bw (midB B) 36 by rw [List.take_length] at h1; exact h1.up (by omega))
    have X1 := Aside0.mk (HT.out.2.trans (hb1.mono HBS.out))
    clear h1 hb1 hltz k2
    go_upto_region 21 with fail
    go_loopg [9] B.spent.length (fun kx s9 wr => ∃ kk : Nat, s9 = .int .i64 kk ∧ kk + kx = B.spent.length ∧ Aside0 (RWr wr base bw (midB B ++ keysB (B.spent.take kk)) (36 + kk) ∧ Below W0.heap.size W0 wr))
    case atStart => exact ⟨0, rfl, by omega, ⟨by simpa [keysB] using HX1.out, X1.out⟩⟩
    case round =>
     obtain ⟨kk, rfl, hkk, HU⟩ := hrel
     have hL9 := HL.out.2
     have hk := (HI.out.later HU.out.2).cells
     obtain ⟨-, -, -, k3, -⟩ := hk
     by_cases hlt : kk < B.spent.length
     ·have hltz : (kk : Int) < (B.spent.length : Int) := by omega
      obtain ⟨d, hd⟩ : ∃ d, B.spent[kk]? = some d := ⟨_, List.getElem?_eq_getElem hlt⟩
      obtain ⟨g, o, hA2, -⟩ := HI.out.src.key hd
      subst hA2
      have hsrc := (HI.out.src.later HU.out.2).spent
      have HNXT := Aside0.mk (keysB_next hd)
      have hp : Aside0 (Calls Tryz.prog 63 #[.pointer (some ⟨bw, 0, none⟩), .slice (some ⟨g, o + kk * 32, none⟩) 32 32] wr fun e w' => RWrEnd wr w' base bw (midB B ++ keysB (B.spent.take kk) ++ d.1) (36 + kk + 1) e) := ⟨by
       have := bytes63 base bw (midB B ++ keysB (B.spent.take kk)) d.1 _ (some ⟨g, o + kk * 32, none⟩) 32 wr HU.out.1 ⟨by simp, fun e => (by cases e), fun a ha j u hj => by
        cases ha
        have := hsrc.2.2 _ rfl _ _ (flatMap_at encK 32 encK_len B.spent kk d hd j u hj)
        rw [add_at] at this ⊢
        rw [← this]
        congr 1
        simp [Nat.add_assoc]⟩ (by rw [d.2]; omega) (by omega)
       rw [d.2] at this
       exact this⟩
      have HKK := Aside0.mk hkk
      obtain ⟨ko, rfl⟩ : ∃ ko, gk = ko + 1 := ⟨gk - 1, by omega⟩
      clear hd hkk hsrc
      go_wp2_with (go_at_call 63; refine hp.out.mono ?_; rintro e w7 ⟨rfl, h7, hb7, -⟩)
      have H7 := Aside0.mk h7
      have B7 := Aside0.mk (HU.out.2.trans (hb7.mono HBS.out))
      clear h7 hb7 hp
      go_wp2_with fail
      go_roundg ko
      case measure => have := HKK.out; omega
      case rel =>
       refine ⟨kk + 1, by go_num, by have := HKK.out; omega, ⟨?_, B7.out⟩⟩
       rw [HNXT.out, ← List.append_assoc]
       exact H7.out
     ·have hltz : ¬ (kk : Int) < (B.spent.length : Int) := by omega
      have : kk = B.spent.length := by omega
      subst this
      have hk := (HI.out.later HU.out.2).cells
      obtain ⟨-, -, -, -, k4⟩ := hk
      have hu := HU.out.1
      rw [List.take_length] at hu
      obtain ⟨cv, wv, hcv, hbv, ⟨cs, fr, hrow, hcells⟩, hsz⟩ := conv67 B.acl wr
      have HU2 := Aside0.mk hu
      have hal := HA.out
      have hp := Aside0.mk (octets64 base bw (midB B ++ keysB B.spent) B.acl _ (some ⟨wr.heap.size, 0, none⟩) cv wv (hu.below hbv) (fun w' _ hks => src_cells (hks wr.heap.size _ _ _ hrow (by decide)) 0 _ _ (by simp) (fun j u hj => by rw [Nat.zero_add]; exact hcells j u hj)) (by omega) (by omega))
      have BV := Aside0.mk (below_step HU.out.2 hbv)
      clear hu hrow hcells hbv hsz hlt hkk
      go_upto_region 25 with (go_at_call 64; refine hp.out.mono ?_; rintro e x3 ⟨rfl, h3, hb3, -⟩)
      have X3 := Aside0.mk (BV.out.trans (hb3.mono HBS.out))
      have hbl : (bytesB B).length ≤ 10000 := by
       unfold bytesB midB
       rw [List.length_append, List.length_append, List.length_append, List.length_append, List.length_append, keysB_len, devsB_len, headB_len, beN_len, beN_len]
       have := HA.out
       have := HL.out
       omega
      have hp := Aside0.mk (out65 base bw (bytesB B) _ x3 h3 (by omega) (by omega))
      clear h3 hb3 hbl k4 hcv
      go_wp2_with (go_at_call 65; refine hp.out.mono ?_; intro e x4 h5; obtain ⟨A, c, rfl, ho, hb⟩ := h5)
      go_ret2
      exact ⟨.inl ⟨A, c, rfl, own_weaken ho (Nat.le_trans HBSR.out.size X3.out.size), HM.out⟩, below_step HBSR.out (below_step X3.out hb)⟩
end Go.Proofs.YthnpiimiimiijaaGreatDoor.Dir
end
section
namespace Go.Proofs.YthnpiimiimiijaaGreatDoor.Dir
open Go Go.RowKit Go.Proofs Go.Proofs.YthnpiimiimiijaaGreatDoorW.PrintWords Go.Proofs.YthnpiimiimiijaaGreatDoorW.PrintLast Go.Proofs.YthnpiimiimiijaaGreatDoorW.PrintMore
set_option linter.unusedVariables false
set_option linter.unusedSimpArgs false
set_option maxHeartbeats 2000000 in
set_option maxRecDepth 100000 in
theorem index_devS (l : List Dev) (k : Key) (A : Option Addr) (c cb : Nat) (w : World) (h : SrcAt w A l.length 35 (flatD l)) (hl : l.length ≤ 4611686018427387904) (hc : w.heap[cb]? = some (.cells (encK k).toArray 34 (0, 0))) :
  Calls Tryz.prog 45 #[.slice A l.length c, .func (.func 46) #[] #[.pointer (some ⟨cb, 0, none⟩)]] w fun e w' => ((e = .returned (.int .i64 (-1)) ∧ ∀ d ∈ l, d.key ≠ k) ∨ ∃ (i : Nat) (d : Dev), e = .returned (.int .i64 i) ∧ l[i]? = some d ∧ d.key = k ∧ ∀ j, j < i → ∀ d', l[j]? = some d' → d'.key ≠ k) ∧ Below w.heap.size w w' := by
 have HW := Aside0.mk h
 have HC := Aside0.mk hc
 have HL := Aside0.mk hl
 have hcl : cb < w.heap.size := (Array.getElem?_eq_some_iff.1 hc).1
 have HCL := Aside0.mk hcl
 clear h hc hl hcl
 go_enter Tryz.func45, Tryz.ntmps45
 go_wp2
 go_loopg [5, 8] l.length (fun gg _ s8 wr => ∃ kk : Nat, kk ≤ l.length ∧ l.length - kk ≤ gg ∧ s8 = .int .i64 kk ∧ Aside0 (Below w.heap.size w wr) ∧ Aside0 (∀ j, j < kk → ∀ d', l[j]? = some d' → d'.key ≠ k))
 case atStart => exact ⟨0, Nat.zero_le _, by omega, rfl, ⟨Below.refl _ w⟩, ⟨fun j hj => absurd hj (Nat.not_lt_zero _)⟩⟩
 case round =>
  obtain ⟨kk, hkk, hg, rfl, BW, AL⟩ := hrel
  have LL := HL.out
  by_cases hlt : kk < l.length
  ·have hltz : (kk : Int) < (l.length : Int) := by omega
   obtain ⟨d, hd⟩ : ∃ d, l[kk]? = some d := ⟨_, List.getElem?_eq_getElem hlt⟩
   obtain ⟨g, o, hA, -⟩ : ∃ g o, A = some ⟨g, o, none⟩ ∧ True := by
    cases hA : A with
    | none => exact absurd (HW.out.2.1 hA) (by omega)
    | some a =>
     subst hA
     obtain ⟨g, o, rfl⟩ := src_bareD HW.out (by omega)
     exact ⟨g, o, rfl, trivial⟩
   subst hA
   have l1 := Aside0.mk (src_dev HW.out hd BW.out)
   have hcall := Aside0.mk (same_any d k cb wr ((BW.out.block _ HCL.out).trans HC.out))
   have HD := Aside0.mk hd
   clear hd
   by_cases hq : d.key = k
   ·rw [show decide (d.key = k) = true from decide_eq_true hq] at hcall
    go_wp2_with (first | (refine wpList_loadK rfl 46 _ rfl _ rfl _ l1.out ?_) | (go_at_call 46; refine hcall.out.mono ?_; rintro e w' ⟨rfl, rfl⟩))
    go_ret
    exact ⟨.inr ⟨kk, d, rfl, HD.out, hq, AL.out⟩, BW.out.alloc BW.out.size _⟩
   ·rw [show decide (d.key = k) = false from decide_eq_false hq] at hcall
    have HQ := Aside0.mk hq
    clear hq
    go_wp2_with (first | (refine wpList_loadK rfl 46 _ rfl _ rfl _ l1.out ?_) | (go_at_call 46; refine hcall.out.mono ?_; rintro e w' ⟨rfl, rfl⟩))
    go_roundg (l.length - (kk + 1))
    case measure => omega
    case rel =>
     refine ⟨kk + 1, by omega, by omega, by go_num, ⟨BW.out.alloc BW.out.size _⟩, ⟨fun j hj d' hd' => ?_⟩⟩
     by_cases e : j = kk
     ·subst e
      rw [HD.out] at hd'
      cases hd'
      exact HQ.out
     ·exact AL.out j (by omega) d' hd'
  ·have hltz : ¬ (kk : Int) < (l.length : Int) := by omega
   have : kk = l.length := by omega
   subst this
   go_wp2
   go_ret
   refine ⟨.inl ⟨rfl, fun d hd => ?_⟩, BW.out⟩
   obtain ⟨j, hj⟩ := List.getElem?_of_mem hd
   exact AL.out j (List.getElem?_eq_some_iff.1 hj).1 d hj
/-- What a device answers. -/
def devRes (d : Dev) (now cl : Int) : Value := if d.rev = true ∨ d.exp ≤ now ∨ d.exp ≤ cl then .tuple #[.int .i64 0, .bool false] else .tuple #[.int .i64 d.node, .bool true]
theorem valid_some {B : Book} {k : Key} {now : Int} {d : Dev} (h : B.devs.find? (fun d => decide (d.key = k)) = some d) : validRes (validOf B k now) = devRes d now B.clock := by
 unfold validOf devRes
 rw [h]
 show validRes (if _ then _ else _) = _
 split <;> rfl
theorem valid_none {B : Book} {k : Key} {now : Int} (h : B.devs.find? (fun d => decide (d.key = k)) = none) : validRes (validOf B k now) = .tuple #[.int .i64 0, .bool false] := by
 unfold validOf
 rw [h]
 rfl
set_option maxHeartbeats 2000000 in
set_option maxRecDepth 100000 in
theorem valid_src (B : Book) (k : Key) (now : Int) (A1 : Option Addr) (c1 : Nat) (A2 : Option Addr) (c2 : Nat) (w : World) (h : SrcB w B A1 A2) :
  Calls Tryz.prog 19 #[.agg (bookCells B A1 c1 A2 c2).toArray, .agg (encK k).toArray, .int .i64 now] w fun e w' => e = .returned (validRes (validOf B k now)) ∧ Below w.heap.size w w' := by
 obtain ⟨W0, hW0⟩ : ∃ W0, W0 = (w.alloc (.cells (bookCells B A1 c1 A2 c2).toArray 43)).alloc (.cells (encK k).toArray 34) := ⟨_, rfl⟩
 have hb0 : Below w.heap.size w W0 := by rw [hW0]; exact ((Below.refl _ w).alloc (Nat.le_refl _) _).alloc (by simp) _
 have q1 : W0.heap[w.heap.size]? = some (.cells (bookCells B A1 c1 A2 c2).toArray 43 (0, 0)) := by rw [hW0, Below.heap_alloc _ _ _ (by simp)]; exact heap_alloc_new w _
 have q2 : W0.heap[w.heap.size + 1]? = some (.cells (encK k).toArray 34 (0, 0)) := by rw [hW0]; have := heap_alloc_new (w.alloc (.cells (bookCells B A1 c1 A2 c2).toArray 43)) (.cells (encK k).toArray 34); simpa using this
 have hS := h.later hb0
 have HI := Aside0.mk (index_devS B.devs k A1 c1 (w.heap.size + 1) W0 hS.devs hS.few q2)
 have HS := Aside0.mk hS
 have hc1 := cell_of_heap (j := 1) q1
 have hc2 := cell_of_heap (j := 2) q1
 have HB := Aside0.mk hb0
 obtain ⟨R, hR⟩ : ∃ R, R = validRes (validOf B k now) := ⟨_, rfl⟩
 rw [← hR]
 have HRR := Aside0.mk hR
 have hF := hS.few
 obtain ⟨cl, hcl⟩ : ∃ cl, cl = B.clock := ⟨_, rfl⟩
 obtain ⟨n1, hn1⟩ : ∃ n1, n1 = B.devs.length := ⟨_, rfl⟩
 have c1' : W0.cell? ⟨w.heap.size, 1, none⟩ = some (.int .i64 cl) := by rw [hc1, hcl]; rfl
 have c2' : W0.cell? ⟨w.heap.size, 2, none⟩ = some (.slice A1 n1 c1) := by rw [hc2, hn1]; rfl
 have HCL := Aside0.mk hcl
 have HN := Aside0.mk hn1
 rw [← hn1] at hF
 clear hc1 hc2 hR hb0 q1 q2 hS h hcl hn1
 go_enter Tryz.func19, Tryz.ntmps19
 go_upto_region 1 with fail
 rw [← hW0]
 clear hW0
 go_wp2_with fail
 rw [HN.out]
 refine HI.out.mono ?_
 rintro e w1 ⟨hres, hb1⟩
 have d1 := (hb1.cell (p := ⟨w.heap.size, 1, none⟩) (World.block_lt_of_cell? W0 _ c1')).trans c1'
 have d2 := (hb1.cell (p := ⟨w.heap.size, 2, none⟩) (World.block_lt_of_cell? W0 _ c2')).trans c2'
 have HB1 := Aside0.mk hb1
 clear hb1 c1' c2'
 rcases hres with ⟨rfl, hno⟩ | ⟨i, d, rfl, hi, hk, hfst⟩
 ·have HNO := Aside0.mk hno
  clear hno
  go_wp2_with fail
  go_ret2
  refine ⟨?_, below_step HB.out HB1.out⟩
  rw [HRR.out, valid_none (List.find?_eq_none.2 fun d hd => by simpa using HNO.out d hd)]
  rfl
 ·have hfind : B.devs.find? (fun d => decide (d.key = k)) = some d := find_at hi (decide_eq_true hk) (fun j hj d' hd' => decide_eq_false (hfst j hj d' hd'))
  have hlt := (List.getElem?_eq_some_iff.1 hi).1
  have hin : (i : Int) < (n1 : Int) := by rw [HN.out]; omega
  obtain ⟨g, o, hA, hld⟩ := HS.out.dev hi
  subst hA
  have l1 := Aside0.mk (hld w1 HB1.out)
  have st := Aside0.mk (fun (c : Array Value) (hc : c.size = 35) => run_storeNew Tryz.prog w1 46 35 sizeD c (encD d).toArray hc (by simpa using encD_len d) (by simpa using encD_one d))
  have a0 : (encD d).toArray[0]? = some (.int .i64 d.node) := rfl
  have a33 : (encD d).toArray[33]? = some (.int .i64 d.exp) := by simpa using expOfD d
  have a34 : (encD d).toArray[34]? = some (.bool d.rev) := by simpa using revOfD d
  have HV := Aside0.mk (HRR.out.trans (by rw [valid_some hfind, ← HCL.out]; rfl : validRes (validOf B k now) = if d.rev = true ∨ d.exp ≤ now ∨ d.exp ≤ cl then .tuple #[.int .i64 0, .bool false] else .tuple #[.int .i64 d.node, .bool true]))
  generalize (encD d).toArray = A at l1 st a0 a33 a34
  generalize d.rev = rv at a34 HV
  generalize d.exp = ex at a33 HV
  generalize d.node = nd at a0 HV
  clear hi hk hfst hfind hlt hld
  have d1' : ∀ o, (w1.alloc o).cell? ⟨w.heap.size, 1, none⟩ = some (.int .i64 cl) := fun o => Lib.cell?_alloc_some o d1
  go_wp2_with (first | (refine wpList_loadK rfl 46 _ rfl _ rfl _ l1.out ?_) | (refine wpList_storeK rfl 46 _ _ rfl rfl _ _ rfl rfl _ (st.out _ rfl) ?_))
  all_goals
   go_ret2
   refine ⟨?_, (below_step HB.out HB1.out).alloc (below_step HB.out HB1.out).size _⟩
   rw [HV.out]
  all_goals first
   | (rw [if_pos (by first | (left; assumption) | (right; assumption) | (right; left; assumption) | (right; omega))]; rfl)
   | (rw [if_neg (by rintro (h | h | h) <;> first | contradiction | omega)]; rfl)
set_option maxHeartbeats 4000000 in
set_option maxRecDepth 100000 in
theorem valid_ref (B : Book) (k : Key) (now : Int) (A1 : Option Addr) (c1 : Nat) (A2 : Option Addr) (c2 : Nat) (w : World) (h : SrcB w B A1 A2) :
  Calls Tryz.prog 33 #[.agg (bookCells B A1 c1 A2 c2).toArray, .agg (encK k).toArray, .int .i64 now] w fun e w' => e = .returned (validRes (validOf B k now)) ∧ Below w.heap.size w w' := by
 obtain ⟨p, hp⟩ : ∃ p, p = w.heap.size := ⟨_, rfl⟩
 obtain ⟨W0, hW0⟩ : ∃ W0, W0 = (w.alloc (.cells (bookCells B A1 c1 A2 c2).toArray 43)).alloc (.cells (encK k).toArray 34) := ⟨_, rfl⟩
 have hb1 := (Below.refl w.heap.size w).alloc (Nat.le_refl _) (.cells (bookCells B A1 c1 A2 c2).toArray 43)
 have hI : InB w W0 p B A1 c1 A2 c2 := by rw [hW0, hp]; exact (InB.start h).later ((Below.refl _ _).alloc (Nat.le_refl _) _)
 have q2 : W0.heap[p + 1]? = some (.cells (encK k).toArray 34 (0, 0)) := by rw [hW0, hp]; have := heap_alloc_new (w.alloc (.cells (bookCells B A1 c1 A2 c2).toArray 43)) (.cells (encK k).toArray 34); simpa using this
 have hsz : (w.alloc (.cells (bookCells B A1 c1 A2 c2).toArray 43)).heap.size = p + 1 := by rw [hp]; simp
 have HI := Aside0.mk hI
 have HQ := Aside0.mk q2
 have HF := Aside0.mk h.few
 obtain ⟨BA, hBA⟩ : ∃ BA, BA = (bookCells B A1 c1 A2 c2).toArray := ⟨_, rfl⟩
 rw [← hBA] at hW0 hsz ⊢
 obtain ⟨KA, hKA⟩ : ∃ KA, KA = (encK k).toArray := ⟨_, rfl⟩
 rw [← hKA] at hW0 ⊢
 obtain ⟨R, hR⟩ : ∃ R, R = validRes (validOf B k now) := ⟨_, rfl⟩
 rw [← hR]
 have HRR := Aside0.mk hR
 clear hI h hb1 q2 hBA hKA hR
 go_enter Tryz.func33, Tryz.ntmps33
 go_upto_region 2 with fail
 rw [← hW0]
 try rw [hsz]
 rw [← hp]
 have HEQ := Aside0.mk (And.intro hW0 (And.intro hp hsz))
 clear hW0 hp hsz
 go_loopg [8] B.devs.length (fun kx s8 wr => ∃ kk : Nat, s8 = .int .i64 kk ∧ kk + kx = B.devs.length ∧ Aside0 (Below W0.heap.size W0 wr) ∧ Aside0 (∀ j, j < kk → ∀ d', B.devs[j]? = some d' → d'.key ≠ k))
 case atStart => exact ⟨0, rfl, by omega, ⟨Below.refl _ _⟩, ⟨fun j hj => absurd hj (Nat.not_lt_zero _)⟩⟩
 case round =>
  obtain ⟨kk, rfl, hkk, BW, AL⟩ := hrel
  have hf1 := HF.out
  have k2 := (HI.out.later BW.out).cells.2.2.1
  by_cases hlt : kk < B.devs.length
  ·have hltz : (kk : Int) < (B.devs.length : Int) := by omega
   obtain ⟨d, hd⟩ : ∃ d, B.devs[kk]? = some d := ⟨_, List.getElem?_eq_getElem hlt⟩
   obtain ⟨g, o, hA1, hc⟩ := HI.out.src.devc hd
   subst hA1
   have DL := Aside0.mk (run_loadAtK Tryz.prog wr 46 35 Tryz.isAgg46 Tryz.sizeOf46 g (o + kk * 35) (encD d) (encD_len _) (fun j v hj => hc wr BW.out j v hj))
   have st := Aside0.mk (fun (c : Array Value) (hc : c.size = 35) => run_storeNew Tryz.prog wr 46 35 sizeD c (encD d).toArray hc (by simpa using encD_len d) (by simpa using encD_one d))
   obtain ⟨w6, hw6⟩ : ∃ w6, w6 = wr.alloc (.cells (encD d).toArray 46) := ⟨_, rfl⟩
   obtain ⟨nb, hnb⟩ : ∃ nb, nb = wr.heap.size := ⟨_, rfl⟩
   have hd3 : w6.heap[nb]? = some (.cells (encD d).toArray 46 (0, 0)) := by rw [hw6, hnb]; exact heap_alloc_new wr _
   have y0 : w6.cell? ⟨nb, 0, none⟩ = some (.int .i64 d.node) := by rw [cell_of_heap hd3]; rfl
   have y3 : w6.cell? ⟨nb, 33, none⟩ = some (.int .i64 d.exp) := by rw [cell_of_heap hd3]; exact expOfD d
   have y4 : w6.cell? ⟨nb, 34, none⟩ = some (.bool d.rev) := by rw [cell_of_heap hd3]; exact revOfD d
   have B6 := Aside0.mk (show Below W0.heap.size W0 w6 by rw [hw6]; exact BW.out.alloc BW.out.size _)
   have L3 := Aside0.mk (run_loadAtK Tryz.prog w6 34 32 Tryz.isAgg34 Tryz.sizeOf34 nb 1 (encK d.key) (encK_len _) (fun j v hj => by rw [cell_of_heap hd3]; simpa using keyOfD d j v hj))
   have L4 := Aside0.mk (run_loadAtK Tryz.prog w6 34 32 Tryz.isAgg34 Tryz.sizeOf34 (p + 1) 0 (encK k) (encK_len _) (cells_of_heap ((B6.out.block _ (Array.getElem?_eq_some_iff.1 HQ.out).1).trans HQ.out)))
   have he := eqlK d.key k
   have hg := fun op x y w => guardK op x y d.key k w
   generalize (encK d.key).toArray = X at L3 he hg
   generalize (encK k).toArray = Y at L4 he hg
   obtain ⟨DA, hDA⟩ : ∃ DA, DA = (encD d).toArray := ⟨_, rfl⟩
   rw [← hDA] at DL st hw6
   have HDK := Aside0.mk hd
   have HKK := Aside0.mk hkk
   obtain ⟨ko, rfl⟩ : ∃ ko, gk = ko + 1 := ⟨gk - 1, by omega⟩
   clear hd hd3 hDA hc hkk
   go_upto_region 5 with (first | ((with_reducible refine at_load 46 (.tmp 20) ?_); refine wpList_loadK rfl 46 (.tmp 20) rfl _ rfl _ DL.out ?_) | ((with_reducible refine at_store 46 (.tmp 9) (.tmp 21) ?_); refine wpList_storeK rfl 46 (.tmp 9) (.tmp 21) rfl rfl _ _ rfl rfl _ (st.out _ rfl) ?_))
   rw [← hw6, ← hnb]
   clear hw6 hnb DL st k2
   have k1 := (HI.out.later B6.out).cells.2.1
   by_cases hq : d.key = k
   ·have hfind : B.devs.find? (fun d => decide (d.key = k)) = some d := find_at HDK.out (decide_eq_true hq) (fun j hj d' hd' => decide_eq_false (AL.out j hj d' hd'))
    have HV := Aside0.mk (HRR.out.trans (by rw [valid_some hfind]; rfl : validRes (validOf B k now) = if d.rev = true ∨ d.exp ≤ now ∨ d.exp ≤ B.clock then .tuple #[.int .i64 0, .bool false] else .tuple #[.int .i64 d.node, .bool true]))
    rw [show decide (d.key = k) = true from decide_eq_true hq] at he
    generalize B.clock = cl at k1 HV
    generalize d.rev = rv at y4 HV
    generalize d.exp = ex at y3 HV
    generalize d.node = nd at y0 HV
    clear hfind
    go_wp2_with (first | ((with_reducible refine at_load 34 (.tmp 22) ?_); refine wpList_loadK rfl 34 (.tmp 22) rfl _ rfl _ L3.out ?_) | ((with_reducible refine at_load 34 (.tmp 4) ?_); refine wpList_loadK rfl 34 (.tmp 4) rfl _ rfl _ L4.out ?_))
    all_goals
     go_ret2
     refine ⟨?_, below_step HI.out.fr B6.out⟩
     rw [HV.out]
    all_goals first
     | (rw [if_pos (by first | (left; assumption) | (right; assumption) | (right; left; assumption) | (right; omega))]; rfl)
     | (rw [if_neg (by rintro (h | h | h) <;> first | contradiction | omega)]; rfl)
   ·rw [show decide (d.key = k) = false from decide_eq_false hq] at he
    have HQK := Aside0.mk hq
    clear hq y0 y3 y4 k1
    go_wp2_with (first | ((with_reducible refine at_load 34 (.tmp 22) ?_); refine wpList_loadK rfl 34 (.tmp 22) rfl _ rfl _ L3.out ?_) | ((with_reducible refine at_load 34 (.tmp 4) ?_); refine wpList_loadK rfl 34 (.tmp 4) rfl _ rfl _ L4.out ?_))
    go_roundg ko
    case measure => have := HKK.out; omega
    case rel =>
     refine ⟨kk + 1, by go_num, by have := HKK.out; omega, ⟨B6.out⟩, ⟨fun j hj d' hd' => ?_⟩⟩
     by_cases e : j = kk
     ·subst e
      rw [HDK.out] at hd'
      cases hd'
      exact HQK.out
     ·exact AL.out j (by omega) d' hd'
  ·have hltz : ¬ (kk : Int) < (B.devs.length : Int) := by omega
   have : kk = B.devs.length := by omega
   subst this
   have HEND := Aside0.mk (HRR.out.trans (valid_none (List.find?_eq_none.2 fun d hd => by
    obtain ⟨j, hj⟩ := List.getElem?_of_mem hd
    simpa using AL.out j (List.getElem?_eq_some_iff.1 hj).1 d hj)))
   go_wp2_with fail
   go_ret2
   exact ⟨by rw [HEND.out]; rfl, below_step HI.out.fr BW.out⟩
end Go.Proofs.YthnpiimiimiijaaGreatDoor.Dir
end
section
namespace Go.Proofs.YthnpiimiimiijaaGreatDoor.Dir
open Go Go.RowKit Go.Proofs Go.Proofs.YthnpiimiimiijaaGreatDoorW.PrintWords Go.Proofs.YthnpiimiimiijaaGreatDoorW.PrintLast Go.Proofs.YthnpiimiimiijaaGreatDoorW.PrintMore
set_option linter.unusedVariables false
set_option linter.unusedSimpArgs false
/-- Bytes that lie there. -/
theorem src_byte {w W : World} {A : Option Addr} {n : Nat} {l : List UInt8} (h : SrcAt w A n 1 (l.map byteV)) (hb : Below w.heap.size w W) {j : Nat} {b : UInt8} (hj : l[j]? = some b) : ∃ g o, A = some ⟨g, o, none⟩ ∧ W.cell? ⟨g, o + j, none⟩ = some (byteV b) := by
 have hlt := (List.getElem?_eq_some_iff.1 hj).1
 have hl : l.length = n := by have := h.1; simpa using this
 cases hA : A with
 | none => exact absurd (h.2.1 hA) (by omega)
 | some a =>
  subst hA
  have h1 := h.2.2 a rfl j (byteV b) (by rw [List.getElem?_map, hj]; rfl)
  obtain ⟨g, o, sp⟩ := a
  cases sp with
  | none => exact ⟨g, o, rfl, by rw [add_at] at h1; exact (hb.cell (World.block_lt_of_cell? w _ h1)).trans h1⟩
  | some s =>
   have h0 := h.2.2 _ rfl 0 (byteV l[0]) (by rw [List.getElem?_map, List.getElem?_eq_getElem (by omega)]; rfl)
   have hn : w.cell? ((⟨g, o, some s⟩ : Addr).add 0) = none := by unfold World.cell?; split <;> rfl
   rw [hn] at h0
   cases h0
set_option maxHeartbeats 4000000 in
set_option maxRecDepth 100000 in
theorem eqb_same (l : List UInt8) (n : Nat) (hn : n = l.length) (A1 : Option Addr) (c1 : Nat) (A2 : Option Addr) (c2 : Nat) (w : World) (h1 : SrcAt w A1 l.length 1 (l.map byteV)) (h2 : SrcAt w A2 l.length 1 (l.map byteV)) (hl : l.length ≤ 4611686018427387904) :
  Calls Tryz.prog 32 #[.slice A1 n c1, .slice A2 n c2] w fun e w' => e = .returned (.bool true) ∧ Below w.heap.size w w' := by
 subst hn
 have H1 := Aside0.mk h1
 have H2 := Aside0.mk h2
 have HL := Aside0.mk hl
 clear h1 h2
 go_enter Tryz.func32, Tryz.ntmps32
 go_upto_region 4 with fail
 clear hl
 go_loopg [5] l.length (fun kx s5 wr => ∃ kk : Nat, s5 = .int .i64 kk ∧ kk + kx = l.length ∧ Aside0 (Below w.heap.size w wr))
 case atStart => exact ⟨0, rfl, by omega, ⟨Below.refl _ _⟩⟩
 case round =>
  obtain ⟨kk, rfl, hkk, BW⟩ := hrel
  have hl := HL.out
  by_cases hlt : kk < l.length
  ·have hltz : (kk : Int) < (l.length : Int) := by omega
   obtain ⟨b, hb⟩ : ∃ b, l[kk]? = some b := ⟨_, List.getElem?_eq_getElem hlt⟩
   obtain ⟨g1, o1, hA1, e1⟩ := src_byte H1.out BW.out hb
   obtain ⟨g2, o2, hA2, e2⟩ := src_byte H2.out BW.out hb
   subst hA1 hA2
   clear hb
   unfold byteV at e1 e2
   obtain ⟨ko, rfl⟩ : ∃ ko, gk = ko + 1 := ⟨gk - 1, by omega⟩
   go_wp2_with fail
   go_quiet (fail)
   have H6 := Aside0.mk (below_step BW.out (bdn (Below.refl _ _) nq))
   go_wp2_with fail
   go_roundg ko
   case measure => omega
   case rel => exact ⟨kk + 1, by go_num, by omega, H6⟩
  ·have hltz : ¬ (kk : Int) < (l.length : Int) := by omega
   go_wp2_with fail
   go_ret
   exact ⟨rfl, BW.out⟩
end Go.Proofs.YthnpiimiimiijaaGreatDoor.Dir
end
section
namespace Go.Proofs.YthnpiimiimiijaaGreatDoor.Dir
open Go Go.RowKit Go.Proofs Go.Proofs.YthnpiimiimiijaaGreatDoorW.PrintWords Go.Proofs.YthnpiimiimiijaaGreatDoorW.PrintLast Go.Proofs.YthnpiimiimiijaaGreatDoorW.PrintMore
set_option linter.unusedVariables false
set_option linter.unusedSimpArgs false
theorem bytesB_le {B : Book} (h : MayB B) : (bytesB B).length ≤ 10000 := by
 unfold bytesB midB
 rw [List.length_append, List.length_append, List.length_append, List.length_append, List.length_append, keysB_len, devsB_len, headB_len, beN_len, beN_len]
 have := acl_short h.2
 have h1 := h.1.few.1
 have h2 := h.1.few.2
 omega
/-- What is said of a book: an error; bytes. -/
def Said (B : Book) (ev : Int) (l : List UInt8) : Prop := (MayB B ∧ ev = 0 ∧ l = bytesB B) ∨ (¬ MayB B ∧ ev = 2 ∧ l = [])
theorem said_some (B : Book) : ∃ ev l, Said B ev l := by
 by_cases h : MayB B
 ·exact ⟨0, bytesB B, .inl ⟨h, rfl, rfl⟩⟩
 ·exact ⟨2, [], .inr ⟨h, rfl, rfl⟩⟩
theorem Said.le {B : Book} {ev : Int} {l : List UInt8} (h : Said B ev l) : l.length ≤ 10000 := by
 rcases h with ⟨h, -, rfl⟩ | ⟨-, -, rfl⟩
 ·exact bytesB_le h
 ·simp
theorem src_none {w : World} {size : Nat} : SrcAt w none 0 size [] := ⟨by simp, fun _ => rfl, fun a e => by cases e⟩
theorem BytesEnd.said {w w' : World} {B : Book} {e : Ending} {ev : Int} {l : List UInt8} (h : BytesEnd w w' B e) (s : Said B ev l) : ∃ A c, e = .returned (.tuple #[.slice A l.length c, .int .i64 ev]) ∧ SrcAt w' A l.length 1 (l.map byteV) := by
 rcases h with ⟨A, c, rfl, ho, hm⟩ | ⟨rfl, hm⟩ <;> rcases s with ⟨h, rfl, rfl⟩ | ⟨h, rfl, rfl⟩
 ·exact ⟨A, c, rfl, ho.src⟩
 ·exact absurd hm h
 ·exact absurd h hm
 ·exact ⟨none, 0, rfl, src_none⟩
theorem CheckEnd.said {B : Book} {e : Ending} {ev : Int} {l : List UInt8} (h : CheckEnd B e) (s : Said B ev l) : e = .returned (.int .i64 ev) := by
 rcases h with ⟨rfl, hm⟩ | ⟨rfl, hm⟩ <;> rcases s with ⟨h, rfl, rfl⟩ | ⟨h, rfl, rfl⟩
 ·rfl
 ·exact absurd ((may_ok B).1 hm) h
 ·exact absurd ((may_ok B).2 h) hm
 ·rfl
theorem RCheckEnd.said {B : Book} {e : Ending} {ev : Int} {l : List UInt8} (h : RCheckEnd B e) (s : Said B ev l) : e = .returned (.int .i64 ev) := by
 rcases h with ⟨rfl, hm⟩ | ⟨rfl, hm⟩ <;> rcases s with ⟨h, rfl, rfl⟩ | ⟨h, rfl, rfl⟩
 ·rfl
 ·exact absurd hm h
 ·exact absurd h hm
 ·rfl
theorem validRes_two (r : Option Int) : ∃ (a : Int) (b : Bool), validRes r = .tuple #[.int .i64 a, .bool b] := by
 cases r with
 | none => exact ⟨0, false, rfl⟩
 | some n => exact ⟨n, true, rfl⟩
/-- All blocks are kept but one. -/
structure ButW (g0 : Nat) (W W' : World) : Prop where
 size : W.heap.size ≤ W'.heap.size
 block : ∀ g, g < W.heap.size → g ≠ g0 → W'.heap[g]? = W.heap[g]?
theorem ButW.refl (g0 : Nat) (W : World) : ButW g0 W W := ⟨Nat.le_refl _, fun _ _ _ => rfl⟩
theorem ButW.below {g0 : Nat} {W W' W2 : World} (h : ButW g0 W W') (hb : Below W'.heap.size W' W2) : ButW g0 W W2 := ⟨Nat.le_trans h.size hb.size, fun g hg hn => (hb.block g (Nat.lt_of_lt_of_le hg h.size)).trans (h.block g hg hn)⟩
theorem ButW.set {g0 : Nat} {W W' : World} (h : ButW g0 W W') (cs : Array Value) : ButW g0 W (W'.setRow g0 cs) :=
 ⟨Nat.le_trans h.size (grownBy_setRow W' g0 cs).size, fun g hg hn => ((grownBy_setRow W' g0 cs).block g (Nat.lt_of_lt_of_le hg h.size) (fun e => hn (Option.some.inj e))).trans (h.block g hg hn)⟩
theorem ButW.obj {g0 g : Nat} {W W' : World} {o : Obj} (h : ButW g0 W W') (hg : W.heap[g]? = some o) (hn : g ≠ g0) : W'.heap[g]? = some o := (h.block g (Array.getElem?_eq_some_iff.1 hg).1 hn).trans hg
theorem ButW.cell {g0 : Nat} {W W' : World} {a : Addr} {v : Value} (h : ButW g0 W W') (hc : W.cell? a = some v) (hn : a.block ≠ g0) : W'.cell? a = some v := by
 have hlt := World.block_lt_of_cell? W a hc
 unfold World.cell? at hc ⊢
 rw [h.block a.block hlt hn]
 exact hc
theorem SrcAt.but {g0 : Nat} {W W' : World} {A : Option Addr} {n size : Nat} {xs : List Value} (h : SrcAt W A n size xs) (hb : ButW g0 W W') (ha : ∀ a, A = some a → a.block ≠ g0) : SrcAt W' A n size xs :=
 ⟨h.1, h.2.1, fun a e j u hj => hb.cell (h.2.2 a e j u hj) (by rw [add_block]; exact ha a e)⟩
theorem SrcB.but {g0 : Nat} {W W' : World} {B : Book} {A1 A2 : Option Addr} (h : SrcB W B A1 A2) (hb : ButW g0 W W') (h1 : ∀ a, A1 = some a → a.block ≠ g0) (h2 : ∀ a, A2 = some a → a.block ≠ g0) : SrcB W' B A1 A2 := ⟨h.devs.but hb h1, h.spent.but hb h2, h.few, h.len⟩
theorem own_at_base {w : World} {base : Nat} {e : TypeId} {size n c : Nat} {A : Option Addr} {xs : List Value} (h : w.ownsRow base e size (.slice A n c) n xs) : ∀ a, A = some a → base ≤ a.block := fun a ha => by
 subst ha
 exact own_base h a.block rfl
set_option maxHeartbeats 8000000 in
set_option maxRecDepth 100000 in
theorem checks_law (B : Book) (A1 : Option Addr) (c1 : Nat) (A2 : Option Addr) (c2 : Nat) (k : Key) (now : Int) (w : World) (h : SrcB w B A1 A2) (hs1 : B.devs.length ≤ 2513169434916) (hs2 : B.spent.length ≤ 4398046511104) (hx : PA.LaidW w) :
  Calls Tryz.prog 9 #[.agg (bookCells B A1 c1 A2 c2).toArray, .agg (encK k).toArray, .int .i64 now] w fun e w' => e = .returned (.bool true) ∧ Below w.heap.size w w' := by
 obtain ⟨p, hp⟩ : ∃ p, p = w.heap.size := ⟨_, rfl⟩
 obtain ⟨W0, hW0⟩ : ∃ W0, W0 = (w.alloc (.cells (bookCells B A1 c1 A2 c2).toArray 43)).alloc (.cells (encK k).toArray 34) := ⟨_, rfl⟩
 have hI : InB w W0 p B A1 c1 A2 c2 := by rw [hW0, hp]; exact (InB.start h).later ((Below.refl _ _).alloc (Nat.le_refl _) _)
 have q2 : W0.heap[p + 1]? = some (.cells (encK k).toArray 34 (0, 0)) := by rw [hW0, hp]; have := heap_alloc_new (w.alloc (.cells (bookCells B A1 c1 A2 c2).toArray 43)) (.cells (encK k).toArray 34); simpa using this
 have hsz : (w.alloc (.cells (bookCells B A1 c1 A2 c2).toArray 43)).heap.size = p + 1 := by rw [hp]; simp
 have hszz : W0.heap.size = p + 2 := by rw [hW0, hp]; simp
 have HI := Aside0.mk hI
 have HSZ := Aside0.mk hszz
 have HQ := Aside0.mk q2
 have HSRC0 := Aside0.mk h
 have HLB := Aside0.mk (fun (W : World) (hb : Below W0.heap.size W0 W) => (hI.later hb).load)
 have L0 := Aside0.mk hI.load
 have HCP := Aside0.mk (copy_ref B A1 c1 A2 c2 W0 hI.src hs1 hs2)
 have HBR := Aside0.mk (fun (W : World) (hb : Below W0.heap.size W0 W) => bytes_ref B A1 c1 A2 c2 W (hI.later hb).src)
 have HCR := Aside0.mk (fun (W : World) (hb : Below W0.heap.size W0 W) => check_ref B A1 c1 A2 c2 W (hI.later hb).src)
 have HX := Aside0.mk hx
 have HS := Aside0.mk (And.intro hs1 hs2)
 obtain ⟨ev, lb, hsaid⟩ := said_some B
 have HSD := Aside0.mk hsaid
 have HVR := Aside0.mk (fun (W : World) (hb : Below w.heap.size w W) (k' : Key) => valid_ref B k' now A1 c1 A2 c2 W (h.later hb))
 have HLD3 := Aside0.mk (fun (W : World) (hW : W.heap[p]? = some (.cells (bookCells B A1 c1 A2 c2).toArray 43 (0, 0))) => run_loadAtK Tryz.prog W 43 5 Tryz.isAgg43 Tryz.sizeOf43 p 0 (bookCells B A1 c1 A2 c2) rfl (cells_of_heap hW))
 have HSS := Aside0.mk (fun (Ai : Option Addr) (ci : Nat) (Aj : Option Addr) (cj : Nat) (W : World) (hb : Below w.heap.size w W) (hE : SrcB W B Ai Aj) => same_eq B Ai ci Aj cj A1 c1 A2 c2 W hE (h.later hb))
 obtain ⟨BA, hBA⟩ : ∃ BA, BA = (bookCells B A1 c1 A2 c2).toArray := ⟨_, rfl⟩
 rw [← hBA] at hW0 hsz HLB L0 HCP HBR HCR HVR HLD3 HSS ⊢
 obtain ⟨KA, hKA⟩ : ∃ KA, KA = (encK k).toArray := ⟨_, rfl⟩
 rw [← hKA] at hW0 ⊢
 have HBA := Aside0.mk hBA
 clear hI h q2 hs1 hs2 hx hsaid hBA hKA hszz
 go_enter Tryz.func9, Tryz.ntmps9
 go_upto_region 1 with fail
 rw [← hW0]
 try rw [hsz]
 rw [← hp]
 have HEQ := Aside0.mk (And.intro hW0 (And.intro hp hsz))
 clear hW0 hp hsz
 go_wp2_with ((with_reducible refine at_load 43 (.tmp 3) ?_); refine wpList_loadK rfl 43 (.tmp 3) rfl _ rfl _ L0.out ?_)
 refine HCP.out.mono ?_
 rintro e w1 ⟨Ai, ci, Aj, cj, rfl, hL, hb1⟩
 obtain ⟨IA, hIA⟩ : ∃ IA, IA = (bookCells B Ai ci Aj cj).toArray := ⟨_, rfl⟩
 obtain ⟨W2, hW2⟩ : ∃ W2, W2 = w1.alloc (.cells (bookCells B Ai ci Aj cj).toArray 43) := ⟨_, rfl⟩
 obtain ⟨nbi, hnb⟩ : ∃ nbi, nbi = w1.heap.size := ⟨_, rfl⟩
 have hb2 : Below W0.heap.size W0 W2 := by rw [hW2]; exact hb1.alloc hb1.size _
 have HB2 := Aside0.mk hb2
 have HLI := Aside0.mk (show Lists W2 W0.heap.size B Ai ci Aj cj by rw [hW2]; exact hL.below ((Below.refl _ w1).alloc (Nat.le_refl _) _))
 have HNBI := Aside0.mk (show W2.heap[nbi]? = some (.cells (bookCells B Ai ci Aj cj).toArray 43 (0, 0)) by rw [hW2, hnb]; exact heap_alloc_new w1 _)
 have HNP := Aside0.mk (show nbi ≠ p + 1 by have := hb1.size; rw [HSZ.out] at this; rw [hnb]; omega)
 have st := Aside0.mk (fun (c : Array Value) (hc : c.size = 5) => run_storeNew Tryz.prog w1 43 5 size43 c (bookCells B Ai ci Aj cj).toArray hc rfl (by simpa using book_one B Ai Aj ci cj))
 have HSRC := Aside0.mk (show SrcB W2 B Ai Aj from ⟨HLI.out.src.1, HLI.out.src.2, by have := HS.out.1; omega, by have := HS.out.2; omega⟩)
 have HA1 := Aside0.mk (show (∀ a, Ai = some a → a.block ≠ p + 1) ∧ (∀ a, Aj = some a → a.block ≠ p + 1) from ⟨fun a ha => by have := own_at_base HLI.out.1 a ha; rw [HSZ.out] at this; omega, fun a ha => by have := own_at_base HLI.out.2.1 a ha; rw [HSZ.out] at this; omega⟩)
 have HBY := Aside0.mk (bytes_any B Ai ci Aj cj W2 HSRC.out (bare_own HLI.out.1) (HX.out.below (below_step HI.out.fr hb2)))
 have HCK := Aside0.mk (fun (W : World) (hb : Below W2.heap.size W2 W) => check_any B Ai ci Aj cj W (HSRC.out.later hb).devs (HSRC.out.later hb).spent HSRC.out.few HSRC.out.len (bare_own HLI.out.1) (HX.out.below (below_step HI.out.fr (below_step hb2 hb))))
 have LI := Aside0.mk (fun (W : World) (hb : W.heap[nbi]? = some (.cells (bookCells B Ai ci Aj cj).toArray 43 (0, 0))) => run_loadAtK Tryz.prog W 43 5 Tryz.isAgg43 Tryz.sizeOf43 nbi 0 (bookCells B Ai ci Aj cj) rfl (cells_of_heap hb))
 have HVP := Aside0.mk (fun (W : World) (hb : SrcB W B Ai Aj) (k' : Key) => valid_src B k' now Ai ci Aj cj W hb)
 have HSQ := Aside0.mk (fun (W : World) (hb : Below w.heap.size w W) (hE : SrcB W B Ai Aj) => HSS.out Ai ci Aj cj W hb hE)
 have LI0 := Aside0.mk (LI.out W2 HNBI.out)
 rw [← hIA] at st hW2 HBY HCK LI LI0 HVP HSQ HNBI ⊢
 have HIA := Aside0.mk hIA
 clear hL hb1 hb2 hIA
 go_upto_region 2 with ((with_reducible refine at_store 43 (.tmp 7) (.tmp 18) ?_); refine wpList_storeK rfl 43 (.tmp 7) (.tmp 18) rfl rfl _ _ rfl rfl _ (st.out _ rfl) ?_)
 rw [← hW2, ← hnb]
 clear hW2 hnb st
 go_wp2_with ((with_reducible refine at_load 43 (.tmp 7) ?_); refine wpList_loadK rfl 43 (.tmp 7) rfl _ rfl _ LI0.out ?_)
 refine HBY.out.mono ?_
 rintro e w3 ⟨hle, hb3⟩
 obtain ⟨X1, y1, rfl, hX⟩ := hle.said HSD.out
 have HB3 := Aside0.mk hb3
 have HX3 := Aside0.mk hX
 have B30 := Aside0.mk (below_step HB2.out hb3)
 have L3 := Aside0.mk (HLB.out w3 B30.out)
 have HBR3 := Aside0.mk (HBR.out w3 B30.out)
 clear hb3 hX hle
 go_upto_region 3 with fail
 go_wp2_with ((with_reducible refine at_load 43 (.tmp 3) ?_); refine wpList_loadK rfl 43 (.tmp 3) rfl _ rfl _ L3.out ?_)
 refine HBR3.out.mono ?_
 rintro e w4 ⟨hle, hb4⟩
 obtain ⟨X2, y2, rfl, hX⟩ := hle.said HSD.out
 have HB4 := Aside0.mk (below_step HB3.out hb4)
 have HX4 := Aside0.mk (And.intro (HX3.out.grown hb4) hX)
 have B40 := Aside0.mk (below_step B30.out hb4)
 clear hb4 hX hle
 have HC4 := Aside0.mk (fun (W : World) (hb : Below w4.heap.size w4 W) => (HCK.out W (below_step HB4.out hb)).mono fun e w' hh => (⟨hh.1.said HSD.out, below_step hb hh.2⟩ : e = .returned (.int .i64 ev) ∧ Below w4.heap.size w4 w'))
 have HR4 := Aside0.mk (fun (W : World) (hb : Below w4.heap.size w4 W) => (HCR.out W (below_step B40.out hb)).mono fun e w' hh => (⟨hh.1.said HSD.out, below_step hb hh.2⟩ : e = .returned (.int .i64 ev) ∧ Below w4.heap.size w4 w'))
 have HE4 := Aside0.mk (fun (W : World) (hb : Below w4.heap.size w4 W) => (eqb_same lb lb.length rfl X1 y1 X2 y2 W (HX4.out.1.grown hb) (HX4.out.2.grown hb) (by have := HSD.out.le; omega)).mono fun e w' hh => (⟨hh.1, below_step hb hh.2⟩ : e = .returned (.bool true) ∧ Below w4.heap.size w4 w'))
 have LI4 := Aside0.mk (fun (W : World) (hb : Below w4.heap.size w4 W) => LI.out W (room_at (room_at HNBI.out HB4.out) hb))
 have LB4 := Aside0.mk (fun (W : World) (hb : Below w4.heap.size w4 W) => HLB.out W (below_step B40.out hb))
 obtain ⟨n4, hn4⟩ : ∃ n4, n4 = lb.length := ⟨_, rfl⟩
 rw [← hn4] at HE4 ⊢
 clear hn4
 go_upto_region 4 with fail
 refine region_quietC (C := fun W => Below w4.heap.size w4 W) (by kernel_rfl) (by kernel_rfl) ((Below.refl _ w4).drew) ?_
 repeat (first | ((with_reducible refine at_ql 43 (.tmp 7) ?_); refine wpQuiet_loadK 43 (.tmp 7) rfl _ rfl _ (by kernel_rfl) LI4.out ?_; simp only [Act.put, List.setIfInBounds_toArray, List.set_cons_zero, List.set_cons_succ]) | ((with_reducible refine at_ql 43 (.tmp 3) ?_); refine wpQuiet_loadK 43 (.tmp 3) rfl _ rfl _ (by kernel_rfl) LB4.out ?_; simp only [Act.put, List.setIfInBounds_toArray, List.set_cons_zero, List.set_cons_succ]) | ((with_reducible refine at_qc 21 ?_); refine wpQuiet_callK Tryz.func21 (by kernel_rfl) rfl #[.agg IA] rfl (by simp only [List.map_toArray, List.map_cons, List.map_nil]; rfl) (.int .i64 ev) (by kernel_rfl) HC4.out ?_; simp only [Act.put, List.setIfInBounds_toArray, List.set_cons_zero, List.set_cons_succ]) | ((with_reducible refine at_qc 31 ?_); refine wpQuiet_callK Tryz.func31 (by kernel_rfl) rfl #[.agg BA] rfl (by simp only [List.map_toArray, List.map_cons, List.map_nil]; rfl) (.int .i64 ev) (by kernel_rfl) HR4.out ?_; simp only [Act.put, List.setIfInBounds_toArray, List.set_cons_zero, List.set_cons_succ]) | ((with_reducible refine at_qc 32 ?_); refine wpQuiet_callK Tryz.func32 (by kernel_rfl) rfl #[.slice X1 n4 y1, .slice X2 n4 y2] rfl (by simp only [List.map_toArray, List.map_cons, List.map_nil]; rfl) (.bool true) (by kernel_rfl) HE4.out ?_; simp only [Act.put, List.setIfInBounds_toArray, List.set_cons_zero, List.set_cons_succ]) | go_big_quiet_step (exact fun _ => rfl))
 refine wpQuiet_nil ?_
 rintro wq hq
 have HWQ := Aside0.mk hq
 clear hq
 have B50 := Aside0.mk (below_step B40.out HWQ.out)
 have HQ5 := Aside0.mk (room_at HQ.out B50.out)
 have HP5 := Aside0.mk (by have := room_at HI.out.bx B50.out; rw [← HBA.out] at this; exact this)
 have HN5 := Aside0.mk (room_at (room_at HNBI.out HB4.out) HWQ.out)
 have HS5 := Aside0.mk (HSRC.out.later (below_step HB4.out HWQ.out))
 have HF5 := Aside0.mk (below_step HI.out.fr B50.out)
 have hfw := HI.out.src.few
 go_upto_region 7 with fail
 go_loopg [12] (B.devs.length + 1) (fun kx s12 wr => ∃ (kk : Nat) (z : Int), s12 = .int .i64 z ∧ z = (kk : Int) - 1 ∧ kk + kx = B.devs.length + 1 ∧ Aside0 (Below w.heap.size w wr ∧ ButW (p + 1) wq wr ∧ ∃ k' : Key, wr.heap[p + 1]? = some (.cells (encK k').toArray 34 (0, 0))))
 case atStart => exact ⟨0, -1, rfl, by omega, by omega, ⟨HF5.out, ButW.refl _ _, k, HQ5.out⟩⟩
 case round =>
  obtain ⟨kk, z, rfl, hz, hkk, HT⟩ := hrel
  have hfw := HI.out.src.few
  have hbx := HT.out.2.1.obj HP5.out (by omega)
  rw [HBA.out] at hbx
  have k2 : wr.cell? ⟨p, 2, none⟩ = some (.slice A1 B.devs.length c1) := by rw [cell_of_heap hbx]; rfl
  clear hbx
  by_cases hlt : kk < B.devs.length + 1
  ·have hltz : z < (B.devs.length : Int) := by omega
   obtain ⟨ko, rfl⟩ : ∃ ko, gk = ko + 1 := ⟨gk - 1, by omega⟩
   have HKK := Aside0.mk (And.intro hkk hz)
   by_cases h0 : kk = 0
   ·subst h0
    have hz1 : z = -1 := by omega
    subst hz1
    obtain ⟨kx, hkx⟩ := HT.out.2.2
    have BX := Aside0.mk (And.intro HT.out.1 (And.intro HT.out.2.1 hkx))
    obtain ⟨wx, hwx⟩ : ∃ wx, wx = wr := ⟨_, rfl⟩
    rw [← hwx] at BX k2 ⊢
    clear hkk hz hkx hwx hltz hlt
    go_upto_region 11 with fail
    clear k2 HT
    have LK := Aside0.mk (fun (W : World) (hb : Below wx.heap.size wx W) => run_loadAtK Tryz.prog W 34 32 Tryz.isAgg34 Tryz.sizeOf34 (p + 1) 0 (encK kx) (encK_len _) (cells_of_heap (room_at BX.out.2.2 hb)))
    have LK0 := Aside0.mk (LK.out wx (Below.refl _ _))
    have LN := Aside0.mk (LI.out wx (BX.out.2.1.obj HN5.out HNP.out))
    have L8 := Aside0.mk (fun (W : World) (hb : Below wx.heap.size wx W) => HLD3.out W (room_at (BX.out.2.1.obj HP5.out (by omega)) hb))
    have HV1 := HVP.out wx (HS5.out.but BX.out.2.1 HA1.out.1 HA1.out.2) kx
    have HV2 := fun (W : World) (hb : Below wx.heap.size wx W) => HVR.out W (below_step BX.out.1 hb) kx
    obtain ⟨ra, rb, hab⟩ := validRes_two (validOf B kx now)
    rw [hab] at HV1 HV2
    obtain ⟨KX, hKX⟩ : ∃ KX, KX = (encK kx).toArray := ⟨_, rfl⟩
    rw [← hKX] at LK LK0 HV1 HV2
    have HV1 := Aside0.mk HV1
    have HV2 := Aside0.mk HV2
    clear hKX hab
    go_upto_region 12 with (first | ((with_reducible refine at_load 43 (.tmp 7) ?_); refine wpList_loadK rfl 43 (.tmp 7) rfl _ rfl _ LN.out ?_) | ((with_reducible refine at_load 34 (.tmp 4) ?_); refine wpList_loadK rfl 34 (.tmp 4) rfl _ rfl _ LK0.out ?_) | (go_at_call 19; refine HV1.out.mono ?_; rintro e w8 ⟨rfl, hb8⟩))
    have B8 := Aside0.mk hb8
    have L80 := Aside0.mk (L8.out w8 hb8)
    have LK8 := Aside0.mk (LK.out w8 hb8)
    have HV8 := Aside0.mk (HV2.out w8 hb8)
    clear hb8
    go_upto_region 13 with (first | ((with_reducible refine at_load 43 (.tmp 3) ?_); refine wpList_loadK rfl 43 (.tmp 3) rfl _ rfl _ L80.out ?_) | ((with_reducible refine at_load 34 (.tmp 4) ?_); refine wpList_loadK rfl 34 (.tmp 4) rfl _ rfl _ LK8.out ?_) | (go_at_call 33; refine HV8.out.mono ?_; rintro e w9 ⟨rfl, hb9⟩))
    have B9 := Aside0.mk (below_step B8.out hb9)
    clear hb9
    go_wp2_with fail
    go_roundg ko
    case measure => have := HKK.out; omega
    case rel => exact ⟨1, _, rfl, by first | go_num | (have := HKK.out; unfold Go.RowKit.wrap64; omega), by have := HKK.out; omega, ⟨below_step BX.out.1 B9.out, BX.out.2.1.below B9.out, kx, room_at BX.out.2.2 B9.out⟩⟩
   ·obtain ⟨j, rfl⟩ : ∃ j, kk = j + 1 := ⟨kk - 1, by omega⟩
    have hz1 : z = (j : Int) := by omega
    subst hz1
    have hj : j < B.devs.length := by omega
    have hjz : (j : Int) < (B.devs.length : Int) := by omega
    obtain ⟨d, hd⟩ : ∃ d, B.devs[j]? = some d := ⟨_, List.getElem?_eq_getElem hj⟩
    obtain ⟨g, o, hA1, hc⟩ := HSRC0.out.devc hd
    subst hA1
    obtain ⟨kx, hkx⟩ := HT.out.2.2
    have DL := Aside0.mk (run_loadAtK Tryz.prog wr 34 32 Tryz.isAgg34 Tryz.sizeOf34 g (o + j * 35 + 1) (encK d.key) (encK_len _) (fun i v hi => by
     have := hc wr HT.out.1 (1 + i) v (by simpa [Nat.add_comm] using keyOfD d i v hi)
     rw [← this]; congr 2; omega))
    have st := Aside0.mk (store_full wr 34 32 (p + 1) Tryz.sizeOf34 (encK kx) (encK d.key) hkx (encK_len _) (encK_len _) (encK_one _))
    have hkx2 := setRow_heap wr (p + 1) _ (encK d.key).toArray 34 (0, 0) hkx
    have BX := Aside0.mk (And.intro (below_setRow HT.out.1 (show w.heap.size ≤ p + 1 by rw [HEQ.out.2.1]; omega) (encK d.key).toArray) (And.intro (HT.out.2.1.set (encK d.key).toArray) hkx2))
    obtain ⟨wx, hwx⟩ : ∃ wx, wx = wr.setRow (p + 1) (encK d.key).toArray := ⟨_, rfl⟩
    rw [← hwx] at BX st
    obtain ⟨DK, hDK⟩ : ∃ DK, DK = (encK d.key).toArray := ⟨_, rfl⟩
    rw [← hDK] at DL st
    clear hkk hz hkx hkx2 hwx hltz hlt h0 hd hc hj hDK
    go_upto_region 11 with (first | ((with_reducible refine at_load 34 (.tmp 58) ?_); refine wpList_loadK rfl 34 (.tmp 58) rfl _ rfl _ DL.out ?_) | ((with_reducible refine at_store 34 (.tmp 4) (.tmp 59) ?_); refine wpList_storeK rfl 34 (.tmp 4) (.tmp 59) rfl rfl _ _ rfl rfl _ st.out ?_))
    clear k2 HT DL st hjz
    obtain ⟨kx, hkx⟩ : ∃ kx, kx = d.key := ⟨_, rfl⟩
    rw [← hkx] at BX
    clear hkx
    have LK := Aside0.mk (fun (W : World) (hb : Below wx.heap.size wx W) => run_loadAtK Tryz.prog W 34 32 Tryz.isAgg34 Tryz.sizeOf34 (p + 1) 0 (encK kx) (encK_len _) (cells_of_heap (room_at BX.out.2.2 hb)))
    have LK0 := Aside0.mk (LK.out wx (Below.refl _ _))
    have LN := Aside0.mk (LI.out wx (BX.out.2.1.obj HN5.out HNP.out))
    have L8 := Aside0.mk (fun (W : World) (hb : Below wx.heap.size wx W) => HLD3.out W (room_at (BX.out.2.1.obj HP5.out (by omega)) hb))
    have HV1 := HVP.out wx (HS5.out.but BX.out.2.1 HA1.out.1 HA1.out.2) kx
    have HV2 := fun (W : World) (hb : Below wx.heap.size wx W) => HVR.out W (below_step BX.out.1 hb) kx
    obtain ⟨ra, rb, hab⟩ := validRes_two (validOf B kx now)
    rw [hab] at HV1 HV2
    obtain ⟨KX, hKX⟩ : ∃ KX, KX = (encK kx).toArray := ⟨_, rfl⟩
    rw [← hKX] at LK LK0 HV1 HV2
    have HV1 := Aside0.mk HV1
    have HV2 := Aside0.mk HV2
    clear hKX hab
    go_upto_region 12 with (first | ((with_reducible refine at_load 43 (.tmp 7) ?_); refine wpList_loadK rfl 43 (.tmp 7) rfl _ rfl _ LN.out ?_) | ((with_reducible refine at_load 34 (.tmp 4) ?_); refine wpList_loadK rfl 34 (.tmp 4) rfl _ rfl _ LK0.out ?_) | (go_at_call 19; refine HV1.out.mono ?_; rintro e w8 ⟨rfl, hb8⟩))
    have B8 := Aside0.mk hb8
    have L80 := Aside0.mk (L8.out w8 hb8)
    have LK8 := Aside0.mk (LK.out w8 hb8)
    have HV8 := Aside0.mk (HV2.out w8 hb8)
    clear hb8
    go_upto_region 13 with (first | ((with_reducible refine at_load 43 (.tmp 3) ?_); refine wpList_loadK rfl 43 (.tmp 3) rfl _ rfl _ L80.out ?_) | ((with_reducible refine at_load 34 (.tmp 4) ?_); refine wpList_loadK rfl 34 (.tmp 4) rfl _ rfl _ LK8.out ?_) | (go_at_call 33; refine HV8.out.mono ?_; rintro e w9 ⟨rfl, hb9⟩))
    have B9 := Aside0.mk (below_step B8.out hb9)
    clear hb9
    go_wp2_with fail
    go_roundg ko
    case measure => have := HKK.out; omega
    case rel => exact ⟨j + 1 + 1, _, rfl, by first | go_num | (have := HKK.out; unfold Go.RowKit.wrap64; omega), by have := HKK.out; omega, ⟨below_step BX.out.1 B9.out, BX.out.2.1.below B9.out, kx, room_at BX.out.2.2 B9.out⟩⟩
  ·have hltz : ¬ z < (B.devs.length : Int) := by omega
   have BX := Aside0.mk (And.intro HT.out.1 HT.out.2.1)
   have LN := Aside0.mk (LI.out wr (BX.out.2.obj HN5.out HNP.out))
   have L9 := Aside0.mk (HLD3.out wr (BX.out.2.obj HP5.out (by omega)))
   have HSQ9 := Aside0.mk (HSQ.out wr BX.out.1 (HS5.out.but BX.out.2 HA1.out.1 HA1.out.2))
   clear hlt hkk hz HT
   go_wp2_with (first | ((with_reducible refine at_load 43 (.tmp 7) ?_); refine wpList_loadW (by rfl) 43 (.tmp 7) rfl _ rfl _ LN.out ?_) | ((with_reducible refine at_load 43 (.tmp 3) ?_); refine wpList_loadW (by rfl) 43 (.tmp 3) rfl _ rfl _ L9.out ?_))
   refine HSQ9.out.mono ?_
   rintro e w8 ⟨rfl, hb8⟩
   have B8 := Aside0.mk (below_step BX.out.1 hb8)
   clear hb8 k2 hltz
   go_wp2_with fail
   refine (works_any w8 (HX.out.below B8.out)).mono ?_
   rintro e w9 ⟨rfl, hb⟩
   have B9 := Aside0.mk (below_step B8.out hb)
   clear hb
   go_wp2_with fail
   go_ret
   exact ⟨rfl, B9.out⟩
end Go.Proofs.YthnpiimiimiijaaGreatDoor.Dir
end
