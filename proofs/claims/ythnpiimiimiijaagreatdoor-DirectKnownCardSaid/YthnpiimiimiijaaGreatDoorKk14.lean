/- direct.Check: whether a book may be. The statements' keys and ops. works: the chapter's directory. -/
import Derived.Test.YthnpiimiimiijaaGreatDoorKk8
import Derived.Test.YthnpiimiimiijaaGreatDoorKk7
import Derived.Test.YthnpiimiimiijaaGreatDoorKk13
section
namespace Go.Proofs.YthnpiimiimiijaaGreatDoor.Dir
open Go Go.RowKit Go.Proofs Go.Proofs.YthnpiimiimiijaaGreatDoorW.PrintWords Go.Proofs.YthnpiimiimiijaaGreatDoorW.PrintLast Go.Proofs.YthnpiimiimiijaaGreatDoorW.PrintMore
set_option linter.unusedVariables false
set_option linter.unusedSimpArgs false
def devsOk : Int → List Dev → Bool
 | _, [] => true
 | last, d :: l => decide (last < d.node) && decide (d.node ≤ 8) && decide (1 ≤ d.exp) && number d.exp && devsOk d.node l
structure OkB (B : Book) : Prop where
 ver : number B.ver = true
 clock : number B.clock = true
 few : B.devs.length ≤ 8
 len : B.spent.length ≤ 64
 devs : devsOk 0 B.devs = true
 acl : rulesOf B.acl = 0
 sorted : SortedL B.spent
 apart : ApartL (sortL (takenB B))
 nonzero : key0 ∉ takenB B
def CheckEnd (B : Book) (e : Ending) : Prop := (e = .returned (.int .i64 0) ∧ OkB B) ∨ (e = .returned (.int .i64 2) ∧ ¬ OkB B)
theorem devsOk_next {l : List Dev} {n : Nat} {d : Dev} {last : Int} (h : l[n]? = some d) : devsOk last (l.drop n) = (decide (last < d.node) && decide (d.node ≤ 8) && decide (1 ≤ d.exp) && number d.exp && devsOk d.node (l.drop (n + 1))) := by
 obtain ⟨hl, e⟩ := List.getElem?_eq_some_iff.1 h
 rw [List.drop_eq_getElem_cons hl, e]
 rfl
theorem key0_least (k : Key) : ltK k key0 = false := by
 rcases ltK_tri k key0 with h | h | h
 ·exfalso
  have h1 : Lib.compareBytes k.1 key0.1 < 0 := of_decide_eq_true h
  have : ∀ (n : Nat) (a : List UInt8), 0 ≤ Lib.compareBytes a (List.replicate n 0) ∨ a.length < n := by
   intro n
   induction n with
   | zero =>
    intro a
    cases a with
    | nil => exact .inl (by simp [Lib.compareBytes])
    | cons b r => exact .inl (by simp [Lib.compareBytes])
   | succ n ih =>
    intro a
    cases a with
    | nil => exact .inr (by simp)
    | cons b r =>
     rw [List.replicate_succ]
     unfold Lib.compareBytes
     rw [if_neg (by rw [UInt8.lt_iff_toNat_lt]; simp)]
     split
     ·exact .inl (by omega)
     ·rcases ih r with h | h
      ·exact .inl h
      ·exact .inr (by simpa using h)
  rcases this 32 k.1 with h2 | h2
  ·exact absurd h1 (by show ¬ Lib.compareBytes k.1 (List.replicate 32 0) < 0; omega)
  ·have := k.2; omega
 ·subst h; exact ltK_irrefl _
 ·exact ltK_asymm h
theorem first_zero (l : List Key) {x : Key} (hx : (sortL l)[0]? = some x) : x = key0 ↔ key0 ∈ l := by
 have hp := sortL_perm l
 constructor
 ·rintro rfl
  exact hp.mem_iff.1 (List.mem_of_getElem? hx)
 ·intro h
  have hs := sortL_sorted l
  cases hl : sortL l with
  | nil => rw [hl] at hx; cases hx
  | cons y r =>
   rw [hl] at hx hs
   simp at hx
   subst hx
   have h0 : key0 ∈ y :: r := by rw [← hl]; exact hp.mem_iff.2 h
   rcases List.mem_cons.1 h0 with e | e
   ·exact e.symm
   ·have h1 := (List.pairwise_cons.1 hs).1 _ e
    rcases ltK_tri key0 y with h2 | h2 | h2
    ·rw [h1] at h2; cases h2
    ·exact h2.symm
    ·rw [key0_least] at h2; cases h2
set_option maxHeartbeats 8000000 in
set_option maxRecDepth 100000 in
theorem check_any (B : Book) (A1 : Option Addr) (c1 : Nat) (A2 : Option Addr) (c2 : Nat) (w : World) (h1 : SrcAt w A1 B.devs.length 35 (flatD B.devs)) (h2 : SrcAt w A2 B.spent.length 32 (flatK B.spent)) (hl1 : B.devs.length ≤ 4611686018427387904) (hl2 : B.spent.length ≤ 4611686018427387904) (hbare : Bare A1) (hx : PA.LaidW w) :
  Calls Tryz.prog 21 #[.agg (bookCells B A1 c1 A2 c2).toArray] w fun e w' => CheckEnd B e ∧ Below w.heap.size w w' := by
 obtain ⟨W0, hW0⟩ : ∃ W0, W0 = w.alloc (.cells (bookCells B A1 c1 A2 c2).toArray 43) := ⟨_, rfl⟩
 obtain ⟨b0, hb0⟩ : ∃ b0, b0 = w.heap.size := ⟨_, rfl⟩
 have q1 : W0.heap[b0]? = some (.cells (bookCells B A1 c1 A2 c2).toArray 43 (0, 0)) := by rw [hW0, hb0]; exact heap_alloc_new w _
 have k0 : W0.cell? ⟨b0, 0, none⟩ = some (.int .i64 B.ver) := by rw [cell_of_heap q1]; rfl
 have k1 : W0.cell? ⟨b0, 1, none⟩ = some (.int .i64 B.clock) := by rw [cell_of_heap q1]; rfl
 have k2 : W0.cell? ⟨b0, 2, none⟩ = some (.slice A1 B.devs.length c1) := by rw [cell_of_heap q1]; rfl
 have k3 : W0.cell? ⟨b0, 3, none⟩ = some (.slice A2 B.spent.length c2) := by rw [cell_of_heap q1]; rfl
 have HB0 := Aside0.mk (show Below w.heap.size w W0 by rw [hW0]; exact (Below.refl _ w).alloc (Nat.le_refl _) _)
 have Q1 := Aside0.mk q1
 have H1 := Aside0.mk (h1.grown HB0.out)
 have H2 := Aside0.mk (h2.grown HB0.out)
 have HBA := Aside0.mk hbare
 have HX := Aside0.mk (hx.below HB0.out)
 clear h1 h2 hbare hx q1
 have hnum := fun n W => number_any n W
 go_enter Tryz.func21, Tryz.ntmps21
 go_upto_region 1 with fail
 rw [← hW0, ← hb0]
 have HEQ := Aside0.mk (And.intro hW0 hb0)
 clear hW0 hb0
 obtain ⟨n1, hn1⟩ : ∃ n1, n1 = number B.ver := ⟨_, rfl⟩
 obtain ⟨n2, hn2⟩ : ∃ n2, n2 = number B.clock := ⟨_, rfl⟩
 have HN := Aside0.mk (And.intro hn1 hn2)
 have hv : ∀ W, Calls Tryz.prog 47 #[.int .i64 B.ver] W fun e w' => e = .returned (.bool n1) ∧ w' = W := fun W => by rw [hn1]; exact number_any _ _
 have hc : ∀ W, Calls Tryz.prog 47 #[.int .i64 B.clock] W fun e w' => e = .returned (.bool n2) ∧ w' = W := fun W => by rw [hn2]; exact number_any _ _
 have HV := Aside0.mk hv
 have HC := Aside0.mk hc
 clear hn1 hn2 hv hc hnum
 cases n1
 ·go_wp2_with (go_at_call 47; refine (HV.out _).mono ?_; rintro e w' ⟨rfl, hw⟩; obtain rfl := hw.symm)
  go_ret
  exact ⟨.inr ⟨rfl, fun h => by have h3 := h.ver; rw [← HN.out.1] at h3; cases h3⟩, HB0.out⟩
 cases n2
 ·go_wp2_with fail
  refine (HV.out _).mono ?_
  rintro e w' ⟨rfl, hw⟩
  obtain rfl := hw.symm
  clear hw
  go_wp2_with fail
  refine (HC.out _).mono ?_
  rintro e w' ⟨rfl, hw⟩
  obtain rfl := hw.symm
  clear hw
  go_wp2_with fail
  go_ret
  exact ⟨.inr ⟨rfl, fun h => by have h3 := h.clock; rw [← HN.out.2] at h3; cases h3⟩, HB0.out⟩
 by_cases g1 : 8 < B.devs.length
 ·have g1z : (8 : Int) < (B.devs.length : Int) := by omega
  go_wp2_with fail
  refine (HV.out _).mono ?_
  rintro e w' ⟨rfl, hw⟩
  obtain rfl := hw.symm
  clear hw
  go_wp2_with fail
  refine (HC.out _).mono ?_
  rintro e w' ⟨rfl, hw⟩
  obtain rfl := hw.symm
  clear hw
  go_wp2_with fail
  go_ret
  exact ⟨.inr ⟨rfl, fun h => by have h3 := h.few; omega⟩, HB0.out⟩
 by_cases g2 : 64 < B.spent.length
 ·have g1z : ¬ (8 : Int) < (B.devs.length : Int) := by omega
  have g2z : (64 : Int) < (B.spent.length : Int) := by omega
  go_wp2_with fail
  refine (HV.out _).mono ?_
  rintro e w' ⟨rfl, hw⟩
  obtain rfl := hw.symm
  clear hw
  go_wp2_with fail
  refine (HC.out _).mono ?_
  rintro e w' ⟨rfl, hw⟩
  obtain rfl := hw.symm
  clear hw
  go_wp2_with fail
  go_ret
  exact ⟨.inr ⟨rfl, fun h => by have h3 := h.len; omega⟩, HB0.out⟩
 have g1z : ¬ (8 : Int) < (B.devs.length : Int) := by omega
 have g2z : ¬ (64 : Int) < (B.spent.length : Int) := by omega
 have HF : Aside0 (Few B) := ⟨by omega, by omega⟩
 clear hl1 hl2
 go_wp2_with fail
 refine (HV.out _).mono ?_
 rintro e w' ⟨rfl, hw⟩
 obtain rfl := hw.symm
 clear hw
 go_wp2_with fail
 refine (HC.out _).mono ?_
 rintro e w' ⟨rfl, hw⟩
 obtain rfl := hw.symm
 clear hw
 go_upto_region 5 with fail
 clear k0 k1 g1 g2
 go_loopg [3, 34] B.devs.length (fun kx s3 s34 wr => ∃ (kk : Nat) (last : Int), s34 = .int .i64 kk ∧ s3 = .int .i64 last ∧ kk + kx = B.devs.length ∧ Aside0 (Below W0.heap.size W0 wr) ∧ Aside0 (devsOk 0 B.devs = devsOk last (B.devs.drop kk)))
 case atStart => exact ⟨0, 0, rfl, rfl, by omega, ⟨Below.refl _ _⟩, ⟨rfl⟩⟩
 case round =>
  obtain ⟨kk, last, rfl, rfl, hkk, BW, AL⟩ := hrel
  by_cases hlt : kk < B.devs.length
  ·have hltz : (kk : Int) < (B.devs.length : Int) := by omega
   obtain ⟨a, hA⟩ : ∃ a, A1 = some a := by
    cases hA : A1 with
    | some a => exact ⟨a, rfl⟩
    | none => exact absurd (H1.out.2.1 hA) (by omega)
   obtain ⟨g, o, rfl⟩ := HBA.out a hA
   subst hA
   obtain ⟨d, hd⟩ : ∃ d, B.devs[kk]? = some d := ⟨_, List.getElem?_eq_getElem hlt⟩
   have l1 := Aside0.mk (load_devS H1.out BW.out hd)
   have st := Aside0.mk (fun (c : Array Value) (hc : c.size = 35) => run_storeNew Tryz.prog wr 46 35 sizeD c (encD d).toArray hc (by simpa using encD_len d) (by simpa using encD_one d))
   have HNX := Aside0.mk (devsOk_next (last := last) hd)
   obtain ⟨w6, hw6⟩ : ∃ w6, w6 = wr.alloc (.cells (encD d).toArray 46) := ⟨_, rfl⟩
   obtain ⟨nb, hnb⟩ : ∃ nb, nb = wr.heap.size := ⟨_, rfl⟩
   have hd3 : w6.heap[nb]? = some (.cells (encD d).toArray 46 (0, 0)) := by rw [hw6, hnb]; exact heap_alloc_new wr _
   have c0 : w6.cell? ⟨nb, 0, none⟩ = some (.int .i64 d.node) := by rw [cell_of_heap hd3]; rfl
   have c3 : w6.cell? ⟨nb, 33, none⟩ = some (.int .i64 d.exp) := by rw [cell_of_heap hd3]; simp [encD, encK_len]
   have B6 := Aside0.mk (show Below W0.heap.size W0 w6 by rw [hw6]; exact BW.out.alloc BW.out.size _)
   obtain ⟨DA, hDA⟩ : ∃ DA, DA = (encD d).toArray := ⟨_, rfl⟩
   rw [← hDA] at l1 st hw6
   clear hd hd3 hDA
   go_upto_region 7 with (first | ((with_reducible refine at_load 46 (.tmp 36) ?_); refine wpList_loadK rfl 46 (.tmp 36) rfl _ rfl _ l1.out ?_) | ((with_reducible refine at_store 46 (.tmp 5) (.tmp 37) ?_); refine wpList_storeK rfl 46 (.tmp 5) (.tmp 37) rfl rfl _ _ rfl rfl _ (st.out _ rfl) ?_))
   rw [← hw6, ← hnb]
   clear hw6 hnb l1 st
   obtain ⟨dn, hdn⟩ : ∃ dn, dn = d.node := ⟨_, rfl⟩
   obtain ⟨de, hde⟩ : ∃ de, de = d.exp := ⟨_, rfl⟩
   obtain ⟨n3, hn3⟩ : ∃ n3, n3 = number de := ⟨_, rfl⟩
   rw [← hdn, ← hde] at HNX
   rw [← hdn] at c0
   rw [← hde] at c3
   rw [← hn3] at HNX
   have HE : Aside0 (∀ W, Calls Tryz.prog 47 #[.int .i64 de] W fun e w' => e = .returned (.bool n3) ∧ w' = W) := ⟨fun W => by rw [hn3]; exact number_any _ _⟩
   clear hdn hde hn3
   have hbad : devsOk last (B.devs.drop kk) = false → ¬ OkB B := fun h ho => by
    have := ho.devs
    rw [AL.out, h] at this
    cases this
   have HBAD := Aside0.mk hbad
   clear hbad
   by_cases e1 : dn ≤ last
   ·have e1d : decide (dn ≤ last) = true := decide_eq_true e1
    have hf := HBAD.out (by rw [HNX.out, show decide (last < dn) = false from decide_eq_false (by omega)]; rfl)
    have HFF := Aside0.mk hf
    clear hf
    go_wp2_with fail
    go_ret
    exact ⟨.inr ⟨rfl, HFF.out⟩, below_step HB0.out B6.out⟩
   by_cases e2 : 8 < dn
   ·have e1d : decide (dn ≤ last) = false := decide_eq_false e1
    have e2d : decide (8 < dn) = true := decide_eq_true e2
    have hf := HBAD.out (by rw [HNX.out, show decide (dn ≤ 8) = false from decide_eq_false (by omega)]; simp)
    have HFF := Aside0.mk hf
    clear hf
    go_wp2_with fail
    go_ret
    exact ⟨.inr ⟨rfl, HFF.out⟩, below_step HB0.out B6.out⟩
   by_cases e3 : de < 1
   ·have e1d : decide (dn ≤ last) = false := decide_eq_false e1
    have e2d : decide (8 < dn) = false := decide_eq_false e2
    have e3d : decide (de < 1) = true := decide_eq_true e3
    have hf := HBAD.out (by rw [HNX.out, show decide (1 ≤ de) = false from decide_eq_false (by omega)]; simp)
    have HFF := Aside0.mk hf
    clear hf
    go_wp2_with fail
    go_ret
    exact ⟨.inr ⟨rfl, HFF.out⟩, below_step HB0.out B6.out⟩
   have e1d : decide (dn ≤ last) = false := decide_eq_false e1
   have e2d : decide (8 < dn) = false := decide_eq_false e2
   have e3d : decide (de < 1) = false := decide_eq_false e3
   cases n3
   ·have hf := HBAD.out (by rw [HNX.out]; simp)
    have HFF := Aside0.mk hf
    clear hf
    go_wp2_with (go_at_call 47; refine (HE.out _).mono ?_; rintro e w' ⟨rfl, hw⟩; obtain rfl := hw.symm)
    go_ret
    exact ⟨.inr ⟨rfl, HFF.out⟩, below_step HB0.out B6.out⟩
   ·have hst := HNX.out
    rw [show decide (last < dn) = true from decide_eq_true (by omega), show decide (dn ≤ 8) = true from decide_eq_true (by omega), show decide (1 ≤ de) = true from decide_eq_true (by omega)] at hst
    simp only [Bool.true_and] at hst
    have HST := Aside0.mk hst
    clear hst
    go_wp2_with (go_at_call 47; refine (HE.out _).mono ?_; rintro e w' ⟨rfl, hw⟩; obtain rfl := hw.symm)
    obtain ⟨kq, rfl⟩ : ∃ kq, gk = kq + 1 := ⟨gk - 1, by omega⟩
    go_roundg kq
    case measure => omega
    case rel => exact ⟨kk + 1, dn, by go_num, rfl, by omega, ⟨B6.out⟩, ⟨AL.out.trans HST.out⟩⟩
  ·have hltz : ¬ (kk : Int) < (B.devs.length : Int) := by omega
   have : kk = B.devs.length := by omega
   subst this
   have HDV : Aside0 (devsOk 0 B.devs = true) := ⟨by rw [AL.out, List.drop_length]; rfl⟩
   clear hkk
   go_upto_region 11 with fail
   clear hltz k2
   have hLB := run_loadAtK Tryz.prog wr 43 5 Tryz.isAgg43 Tryz.sizeOf43 b0 0 (bookCells B A1 c1 A2 c2) rfl (cells_of_heap ((BW.out.block _ (Array.getElem?_eq_some_iff.1 Q1.out).1).trans Q1.out))
   have hTK := taken_any B A1 A2 c1 c2 wr (H1.out.grown BW.out) (H2.out.grown BW.out) HF.out HBA.out
   have k3w : ∀ W, Below W0.heap.size W0 W → W.cell? ⟨b0, 3, none⟩ = some (.slice A2 B.spent.length c2) := fun W hb => by rw [cell_of_heap ((hb.block _ (Array.getElem?_eq_some_iff.1 Q1.out).1).trans Q1.out)]; rfl
   have k4w : ∀ W, Below W0.heap.size W0 W → W.cell? ⟨b0, 4, none⟩ = some (.string (str B.acl)) := fun W hb => by rw [cell_of_heap ((hb.block _ (Array.getElem?_eq_some_iff.1 Q1.out).1).trans Q1.out)]; rfl
   obtain ⟨BA, hBA⟩ : ∃ BA, BA = (bookCells B A1 c1 A2 c2).toArray := ⟨_, rfl⟩
   rw [← hBA] at hLB hTK
   have LB := Aside0.mk hLB
   have HTK := Aside0.mk hTK
   have K3 := Aside0.mk k3w
   have K4 := Aside0.mk k4w
   clear hLB hTK hBA k3w k4w k3
   go_wp2_with ((with_reducible refine at_load 43 (.tmp 1) ?_); refine wpList_loadK rfl 43 (.tmp 1) rfl _ rfl _ LB.out ?_)
   refine HTK.out.mono ?_
   rintro e w7 ⟨A3, c3, rfl, ho, hb7⟩
   have HO := Aside0.mk ho
   have HB7 := Aside0.mk (below_step BW.out hb7)
   have HWR := Aside0.mk BW.out.size
   clear ho hb7
   go_wp2_with fail
   refine (sort_any (takenB B) A3 c3 _ w7 HO.out (taken_len B HF.out)).mono ?_
   rintro e w8 ⟨rfl, ho8, hg8⟩
   have HO8 := Aside0.mk ho8
   have HB8 := Aside0.mk (HB7.out.grown hg8 HB7.out.size (fun k hk => Nat.le_trans HWR.out (HO.out.lt k hk).1))
   have k4 := K4.out w8 HB8.out
   clear ho8 hg8
   go_wp2_with fail
   refine (Acl.parse_any B.acl w8 (HX.out.below HB8.out)).mono ?_
   rintro e w9 ⟨hb9, v0, rfl, -⟩
   have HB9 := Aside0.mk (below_step HB8.out hb9)
   have HO9 := Aside0.mk (pw_own_below HO8.out hb9)
   have HB0A := Aside0.mk (below_step HB0.out (show Below W0.heap.size W0 w9 from HB9.out))
   obtain ⟨pe, hpe⟩ : ∃ pe, pe = (Acl.parseOf B.acl).2 := ⟨_, rfl⟩
   rw [← hpe]
   have HPE := Aside0.mk (show rulesOf B.acl = pe from hpe.symm)
   clear hb9 hpe k4
   by_cases hz : pe = 0
   ·subst hz
    have k3 := K3.out w9 HB9.out
    go_wp2_with fail
    refine (sorted_any B.spent A2 c2 w9 (H2.out.grown HB9.out) (by have := HF.out.2; omega)).mono ?_
    rintro e w10 ⟨⟨bs, rfl, hbs⟩, hb10⟩
    have HBS := Aside0.mk hbs
    have HB10 := Aside0.mk (below_step HB9.out hb10)
    have HO10 := Aside0.mk (pw_own_below HO9.out hb10)
    clear hbs hb10 k3
    cases bs
    ·go_wp2_with fail
     go_ret
     exact ⟨.inr ⟨rfl, fun h => by have h3 := HBS.out.2 h.sorted; cases h3⟩, below_step HB0.out HB10.out⟩
    ·go_wp2_with fail
     obtain ⟨A4, c4, hA4, hs4, hn4⟩ := src_owns HO10.out
     cases hA4
     refine (cloned54 A3 (takenB B).length c3 (flatK (sortL (takenB B))) w10 hs4 (by have := taken_len B HF.out; omega) (flatK_one _)).mono ?_
     rintro e w11 ⟨A5, c5, rfl, ho5, -, hb11⟩
     have HB11 := Aside0.mk (below_step HB10.out hb11)
     have HO11 := Aside0.mk (pw_own_below HO10.out hb11)
     have HO5 := Aside0.mk ho5
     have HLT := Aside0.mk HB10.out.size
     clear hs4 hn4 ho5 hb11
     go_wp2_with fail
     have hcm := compact_any (sortL (takenB B)) A5 c5 w10.heap.size w11 (by rw [sortL_len]; exact HO5.out) (by rw [sortL_len]; exact taken_len B HF.out)
     rw [sortL_len] at hcm
     refine hcm.mono ?_
     rintro e w12 ⟨hce, hg12⟩
     have HB12 := Aside0.mk (HB11.out.grown hg12 HB11.out.size (fun k hk => Nat.le_trans HLT.out (HO5.out.lt k hk).1))
     have HO12 : Aside0 (w12.ownsRow wr.heap.size 34 32 (.slice A3 (takenB B).length c3) (takenB B).length (flatK (sortL (takenB B)))) := ⟨HO11.out.kept hg12 (by
      cases h3 : (Value.slice A3 (takenB B).length c3).ownBlock with
      | none => exact .inl rfl
      | some k => exact .inr (fun e => by
       have h5 := (HO5.out.lt k e.symm).1
       have h6 := (HO10.out.lt k h3).2
       omega))⟩
     clear hcm hg12
     rcases hce with ⟨he0, hap⟩ | ⟨m, c6, hm, hna, rfl⟩
     ·rw [sortL_len] at he0
      subst he0
      have HAP := Aside0.mk hap
      clear hap
      by_cases hn0 : (takenB B).length = 0
      ·have hnil : takenB B = [] := List.length_eq_zero_iff.1 hn0
       have HOK : Aside0 (OkB B) := ⟨⟨HN.out.1.symm, HN.out.2.symm, HF.out.1, HF.out.2, HDV.out, HPE.out, HBS.out.1 (by first | rfl | trivial), HAP.out, by rw [hnil]; simp⟩⟩
       rw [hn0]
       go_wp2_with fail
       go_ret
       exact ⟨.inl ⟨rfl, HOK.out⟩, below_step HB0.out HB12.out⟩
      ·have hn1 : (0 : Int) < ((takenB B).length : Int) := by omega
       have hn1d : decide ((0 : Int) < ((takenB B).length : Int)) = true := decide_eq_true hn1
       obtain ⟨g, rfl⟩ := owned_at HO12.out hn0
       obtain ⟨x, hx⟩ : ∃ x, (sortL (takenB B))[0]? = some x := ⟨_, List.getElem?_eq_getElem (by rw [sortL_len]; omega)⟩
       have hfz := first_zero (takenB B) hx
       have hlx := load_key HO12.out (Below.refl _ w12) hx
       rw [Nat.zero_mul] at hlx
       have he := eqlK x key0
       have hgd := fun op a b w => guardK op a b x key0 w
       obtain ⟨XA, hXA⟩ : ∃ XA, XA = (encK x).toArray := ⟨_, rfl⟩
       rw [← hXA] at hlx he hgd
       rw [zeroKey_eq] at he hgd
       simp only [zeroKey] at he hgd
       have HLX := Aside0.mk hlx
       have HFZ := Aside0.mk hfz
       clear hlx hfz hXA hx
       by_cases hq : x = key0
       ·have HQ := Aside0.mk hq
        rw [show decide (x = key0) = true from decide_eq_true hq] at he
        clear hq
        go_wp2_with ((with_reducible refine at_load 34 (.tmp 91) ?_); refine wpList_loadW (by rfl) 34 (.tmp 91) rfl _ rfl _ HLX.out ?_)
        go_ret
        exact ⟨.inr ⟨rfl, fun h => h.nonzero (HFZ.out.1 HQ.out)⟩, below_step HB0.out HB12.out⟩
       ·have HOK : Aside0 (OkB B) := ⟨⟨HN.out.1.symm, HN.out.2.symm, HF.out.1, HF.out.2, HDV.out, HPE.out, HBS.out.1 (by first | rfl | trivial), HAP.out, fun h => hq (HFZ.out.2 h)⟩⟩
        rw [show decide (x = key0) = false from decide_eq_false hq] at he
        clear hq
        go_wp2_with ((with_reducible refine at_load 34 (.tmp 91) ?_); refine wpList_loadW (by rfl) 34 (.tmp 91) rfl _ rfl _ HLX.out ?_)
        go_ret
        exact ⟨.inl ⟨rfl, HOK.out⟩, below_step HB0.out HB12.out⟩
     ·have HNA := Aside0.mk hna
      have hmz : (m : Int) < ((takenB B).length : Int) := by rw [sortL_len] at hm; omega
      clear hna
      go_wp2_with fail
      go_ret
      exact ⟨.inr ⟨rfl, fun h => HNA.out h.apart⟩, below_step HB0.out HB12.out⟩
   ·have hz2 : (pe == 0) = false := beq_eq_false_iff_ne.2 hz
    have HZ := Aside0.mk hz
    go_wp2_with fail
    go_ret
    exact ⟨.inr ⟨rfl, fun h => HZ.out (HPE.out.symm.trans h.acl)⟩, HB0A.out⟩
end Go.Proofs.YthnpiimiimiijaaGreatDoor.Dir
end
section
namespace Go.Proofs.YthnpiimiimiijaaGreatDoor.Dir
open Go Go.RowKit Go.Proofs Go.Proofs.YthnpiimiimiijaaGreatDoorW.PrintWords Go.Proofs.YthnpiimiimiijaaGreatDoorW.PrintLast Go.Proofs.YthnpiimiimiijaaGreatDoorW.PrintMore
set_option linter.unusedVariables false
set_option linter.unusedSimpArgs false
def keyN (n : Nat) : Key := ⟨1 :: 0 :: 0 :: n.toUInt8 :: List.replicate 28 0, by simp⟩
theorem size34' : (Tryz.prog.info? 34).map (·.size) = some 32 := by kernel_rfl
section
variable {P : Program} {w : World} {ops : Array Oper} {rest : List Oper} {o : Oper} {a : Act} {Q : Exit → Act → World → Prop}
theorem wpList_build2 (hgd : o.guard = none) (t : TypeId) (i0 i1 : Nat) (x0 x1 : Operand) (ho : o.op = .build t #[(i0, x0), (i1, x1)]) (v0 v1 : Value) (h0 : a.eval x0 = v0) (h1 : a.eval x1 = v1) (r : Value) (w' : World)
  (hr : (Instr.build t #[(i0, v0), (i1, v1)]).run P w = .ok r w') (h : wpList P ops Q rest (a.put o.dst r) w') : wpList P ops Q (o :: rest) a w :=
 wpList_plain hgd fun K hK => by
  unfold Oper.wp execOp
  simp only [ho, Sem.run_bind]
  simp [h0, h1, hr]
  exact hK _ _ h
theorem wpList_build4 (hgd : o.guard = none) (t : TypeId) (x0 x1 x2 x3 : Operand) (ho : o.op = .build t #[(0, x0), (1, x1), (2, x2), (3, x3)]) (v0 v1 v2 v3 : Value) (h0 : a.eval x0 = v0) (h1 : a.eval x1 = v1) (h2 : a.eval x2 = v2) (h3 : a.eval x3 = v3) (r : Value) (w' : World)
  (hr : (Instr.build t #[(0, v0), (1, v1), (2, v2), (3, v3)]).run P w = .ok r w') (h : wpList P ops Q rest (a.put o.dst r) w') : wpList P ops Q (o :: rest) a w :=
 wpList_plain hgd fun K hK => by
  unfold Oper.wp execOp
  simp only [ho, Sem.run_bind]
  simp [h0, h1, h2, h3, hr]
  exact hK _ _ h
end
def opZ : Op := ⟨0, 0, key0, 0, [], 0⟩
def zeroOp : Array Value := #[.int .i64 0, .int .i64 0, .int .u8 0, .int .u8 0, .int .u8 0, .int .u8 0, .int .u8 0, .int .u8 0, .int .u8 0, .int .u8 0, .int .u8 0, .int .u8 0, .int .u8 0, .int .u8 0, .int .u8 0, .int .u8 0, .int .u8 0, .int .u8 0, .int .u8 0, .int .u8 0, .int .u8 0, .int .u8 0, .int .u8 0, .int .u8 0, .int .u8 0, .int .u8 0, .int .u8 0, .int .u8 0, .int .u8 0, .int .u8 0, .int .u8 0, .int .u8 0, .int .u8 0, .int .u8 0, .int .i64 0, .string ⟨#[]⟩, .int .i64 0]
theorem zeroOp_list : zeroOp.toList = encO opZ := rfl
theorem spO0 (o : Op) (k : Int) : splice (encO o) 0 [.int .i64 k] = encO { o with kind := k } := rfl
theorem spO1 (o : Op) (k : Int) : splice (encO o) 1 [.int .i64 k] = encO { o with node := k } := rfl
theorem spO2 (o : Op) (k : Key) : splice (encO o) 2 (encK k) = encO { o with key := k } := by
 unfold splice encO
 rw [encK_len]
 simp only [List.take_succ_cons, List.take_zero, Nat.reduceAdd, List.drop_succ_cons]
 rw [List.drop_append, List.drop_eq_nil_of_le (by rw [encK_len]; omega), encK_len]
 rfl
theorem spO34 (o : Op) (e : Int) : splice (encO o) 34 [.int .i64 e] = encO { o with exp := e } := by
 unfold splice encO
 simp only [List.take_succ_cons, List.length_cons, List.length_nil, Nat.reduceAdd, List.drop_succ_cons]
 rw [List.take_append_of_le_length (by rw [encK_len]; omega), List.take_of_length_le (by rw [encK_len]; omega), List.drop_append, List.drop_eq_nil_of_le (by rw [encK_len]; omega), encK_len]
 rfl
theorem spO36 (o : Op) (e : Int) : splice (encO o) 36 [.int .i64 e] = encO { o with at_ := e } := by
 unfold splice encO
 simp only [List.take_succ_cons, List.length_cons, List.length_nil, Nat.reduceAdd, List.drop_succ_cons]
 rw [List.take_append, List.take_of_length_le (by rw [encK_len]; omega), encK_len, List.drop_append, List.drop_eq_nil_of_le (by rw [encK_len]; omega), encK_len]
 simp
def placesO : Array (Nat × Nat) := #[(0, 1), (1, 1), (2, 32), (34, 1), (35, 1), (36, 1)]
theorem fillO (o : Op) (i off size : Nat) (v : Value) (cs : List Value) (o' : Op) (rest : List (Nat × Value)) (hp : placesO[i]? = some (off, size)) (hv : v.cells.toList = cs) (hl : cs.length = size) (hs : splice (encO o) off cs = encO o') (hf : off + size ≤ 37) :
  Instr.fill (placesO[·]?) (encO o).toArray ((i, v) :: rest) = Instr.fill (placesO[·]?) (encO o').toArray rest := by
 rw [fill_cons (placesO[·]?) _ i v rest off size hp (by rw [← Array.length_toList, hv, hl]) (by simp only [List.size_toArray, encO_len]; omega), hv]
 rw [show (encO o).toArray.toList = encO o from rfl, hs]
set_option maxRecDepth 100000 in
theorem run_buildO (w : World) (parts : Array (Nat × Value)) (o' : Op) (hf : Instr.fill (placesO[·]?) (encO opZ).toArray parts.toList = some (encO o').toArray) : (Instr.build 36 parts).run Tryz.prog w = .ok (.agg (encO o').toArray) w := by
 have hz : (zeroValue 36).run Tryz.prog w = .ok (.agg zeroOp) w := Tryz.zeroValue36 w
 rw [← zeroOp_list, Array.toArray_toList] at hf
 unfold placesO at hf
 generalize zeroOp = Z at hf hz
 simp only [Instr.build, Sem.run_bind, hz, Result.andThen_ok, run_underlying Tryz.underlying36, Value.cells]
 simp only [List.mapM_toArray, List.mapM_cons, List.mapM_nil, Sem.run_bind, Sem.run_map, Sem.run_pure, Result.andThen_ok, Functor.map]
 have hb : ∀ {α β : Type} (x : Sem α) (f : α → Sem β), Sem.bind x f = x >>= f := fun _ _ => rfl
 simp only [hb, Sem.run_bind, Sem.run_pure, Result.andThen_ok, Tryz.sizeOf3, Tryz.sizeOf34, Tryz.sizeOf9, Function.comp]
 change ((Result.ok (#[(0, 1), (1, 1), (2, 32), (34, 1), (35, 1), (36, 1)] : Array (Nat × Nat)) w).andThen fun a w' => _) = _
 simp only [Result.andThen_ok]
 rw [hf]
 rfl
theorem buildO4 (w : World) (kind node e : Int) (k : Key) : (Instr.build 36 #[(0, .int .i64 kind), (1, .int .i64 node), (2, .agg (encK k).toArray), (3, .int .i64 e)]).run Tryz.prog w = .ok (.agg (encO ⟨kind, node, k, e, [], 0⟩).toArray) w := by
 refine run_buildO w _ _ ?_
 show Instr.fill (placesO[·]?) (encO opZ).toArray [(0, .int .i64 kind), (1, .int .i64 node), (2, .agg (encK k).toArray), (3, .int .i64 e)] = _
 rw [fillO opZ 0 0 1 _ [.int .i64 kind] _ _ rfl rfl rfl (spO0 _ _) (by omega), fillO _ 1 1 1 _ [.int .i64 node] _ _ rfl rfl rfl (spO1 _ _) (by omega),
  fillO _ 2 2 32 _ (encK k) _ _ rfl (by simp [Value.cells]) (encK_len k) (spO2 _ _) (by omega), fillO _ 3 34 1 _ [.int .i64 e] _ _ rfl rfl rfl (spO34 _ _) (by omega)]
 rfl
theorem buildO3 (w : World) (kind node : Int) : (Instr.build 36 #[(0, .int .i64 kind), (1, .int .i64 node)]).run Tryz.prog w = .ok (.agg (encO ⟨kind, node, key0, 0, [], 0⟩).toArray) w := by
 refine run_buildO w _ _ ?_
 show Instr.fill (placesO[·]?) (encO opZ).toArray [(0, .int .i64 kind), (1, .int .i64 node)] = _
 rw [fillO opZ 0 0 1 _ [.int .i64 kind] _ _ rfl rfl rfl (spO0 _ _) (by omega), fillO _ 1 1 1 _ [.int .i64 node] _ _ rfl rfl rfl (spO1 _ _) (by omega)]
 rfl
theorem buildO5 (w : World) (kind at_ : Int) : (Instr.build 36 #[(0, .int .i64 kind), (5, .int .i64 at_)]).run Tryz.prog w = .ok (.agg (encO ⟨kind, 0, key0, 0, [], at_⟩).toArray) w := by
 refine run_buildO w _ _ ?_
 show Instr.fill (placesO[·]?) (encO opZ).toArray [(0, .int .i64 kind), (5, .int .i64 at_)] = _
 rw [fillO opZ 0 0 1 _ [.int .i64 kind] _ _ rfl rfl rfl (spO0 _ _) (by omega), fillO _ 5 36 1 _ [.int .i64 at_] _ _ rfl rfl rfl (spO36 _ _) (by omega)]
 rfl
theorem encKN (n : Nat) (hn : n < 256) : encK (keyN n) = .int .u8 1 :: .int .u8 0 :: .int .u8 0 :: .int .u8 n :: List.replicate 28 (.int .u8 0) := by
 have : byteV n.toUInt8 = .int .u8 (n : Int) := by
  unfold byteV
  have h : n.toUInt8.toNat = n := by simp; omega
  rw [h]
 show byteV 1 :: byteV 0 :: byteV 0 :: byteV n.toUInt8 :: _ = _
 rw [this]
 rfl
set_option maxRecDepth 100000 in
theorem buildKey (w : World) (n : Nat) (hn : n < 256) : (Instr.build 34 #[(0, .int .u8 1), (1, .int .u8 0), (2, .int .u8 0), (3, .int .u8 n)]).run Tryz.prog w = .ok (.agg (encK (keyN n)).toArray) w := by
 have hz : (zeroValue 34).run Tryz.prog w = .ok (.agg zeroKey) w := Tryz.zeroValue34 w
 have hf : Instr.fill (fun i => some (i * 1, 1)) zeroKey [(0, .int .u8 1), (1, .int .u8 0), (2, .int .u8 0), (3, .int .u8 n)] = some (encK (keyN n)).toArray := by
  rw [encKN n hn]
  rw [fill_cons _ _ 0 _ _ 0 1 rfl rfl (by decide)]
  rw [show splice zeroKey.toList 0 (Value.int .u8 1).cells.toList = .int .u8 1 :: List.replicate 31 (.int .u8 0) from rfl]
  rw [fill_cons _ _ 1 _ _ 1 1 rfl rfl (by simp)]
  rw [show splice (Value.int .u8 1 :: List.replicate 31 (.int .u8 0)).toArray.toList 1 (Value.int .u8 0).cells.toList = .int .u8 1 :: .int .u8 0 :: List.replicate 30 (.int .u8 0) from rfl]
  rw [fill_cons _ _ 2 _ _ 2 1 rfl rfl (by simp)]
  rw [show splice (Value.int .u8 1 :: .int .u8 0 :: List.replicate 30 (.int .u8 0)).toArray.toList 2 (Value.int .u8 0).cells.toList = .int .u8 1 :: .int .u8 0 :: .int .u8 0 :: List.replicate 29 (.int .u8 0) from rfl]
  rw [fill_cons _ _ 3 _ _ 3 1 rfl rfl (by simp)]
  rfl
 generalize zeroKey = Z at hf hz
 simp only [Instr.build, Sem.run_bind, hz, Result.andThen_ok, run_underlying Tryz.underlying34, Value.cells, Tryz.sizeOf5]
 rw [hf]
 rfl
set_option maxHeartbeats 2000000 in
set_option maxRecDepth 100000 in
theorem key_any (n : Nat) (hn : n < 256) (w : World) : Calls Tryz.prog 18 #[.int .i64 n] w fun e w' => e = .returned (.agg (encK (keyN n)).toArray) ∧ Below w.heap.size w w' := by
 have h1 : (n : Int) / 65536 = 0 := by omega
 have h2 : (n : Int) / 256 = 0 := by omega
 have h3 : IntKind.u8.wrap (n : Int) = (n : Int) := by rw [IntKind.wrap_u8]; omega
 obtain ⟨Z, hZ⟩ : ∃ Z, Z = zeroKey := ⟨_, rfl⟩
 have hzv : ∀ w, (zeroValue 34).run Tryz.prog w = .ok (.agg zeroKey) w := Tryz.zeroValue34
 obtain ⟨W0, hW0⟩ : ∃ W0, W0 = w.alloc (.cells zeroKey 34) := ⟨_, rfl⟩
 have b1 := Aside0.mk (buildKey W0 n hn)
 have st := Aside0.mk (run_storeNew Tryz.prog w 34 32 size34' zeroKey (encK (keyN n)).toArray rfl (by simpa using encK_len (keyN n)) (by simpa using encK_one (keyN n)))
 have hq := Aside0.mk (heap_alloc_new w (.cells (encK (keyN n)).toArray 34))
 rw [← hW0] at st
 clear hZ hzv
 go_enter Tryz.func18, Tryz.ntmps18
 go_upto_region 1 with fail
 change Code.wp _ _ _ _ (w.alloc (.cells zeroKey 34))
 rw [← hW0]
 clear hW0
 go_wp2_with (first
  | ((with_reducible refine at_build 34 #[(0, .const (.int .u8 1)), (1, .tmp 5), (2, .tmp 8), (3, .tmp 10)] ?_); refine wpList_build4 rfl 34 (.const (.int .u8 1)) (.tmp 5) (.tmp 8) (.tmp 10) rfl _ _ _ _ rfl rfl rfl rfl _ _ b1.out ?_)
  | ((with_reducible refine at_store 34 (.tmp 2) (.tmp 11) ?_); refine wpList_storeK rfl 34 (.tmp 2) (.tmp 11) rfl rfl _ _ rfl rfl _ st.out ?_))
 try simp only [Exit.inBlock, Exit.then]
 refine bodyPost_ret (results_cell_row rfl _ _ w.heap.size 34 _ (0, 0) _ rfl hq.out Tryz.underlying34 rfl (by rw [size34']; simp [encK_len])) rfl ?_
 exact ⟨rfl, (Below.refl _ w).alloc (Nat.le_refl _) _⟩
end Go.Proofs.YthnpiimiimiijaaGreatDoor.Dir
/- The statements' ops, and what is asked for by numbers. -/
namespace Go.Proofs.YthnpiimiimiijaaGreatDoor.Dir
open Go Go.RowKit Go.Proofs Go.Proofs.YthnpiimiimiijaaGreatDoorW.PrintWords Go.Proofs.YthnpiimiimiijaaGreatDoorW.PrintLast Go.Proofs.YthnpiimiimiijaaGreatDoorW.PrintMore
set_option linter.unusedVariables false
set_option linter.unusedSimpArgs false
theorem size36 : (Tryz.prog.info? 36).map (·.size) = some 37 := by kernel_rfl
def regOp (node : Int) (k : Nat) (e : Int) : Op := ⟨1, node, keyN k, e, [], 0⟩
def rotOp (node : Int) (k : Nat) (e : Int) : Op := ⟨2, node, keyN k, e, [], 0⟩
def revOp (node : Int) : Op := ⟨3, node, key0, 0, [], 0⟩
def advOp (t : Int) : Op := ⟨5, 0, key0, 0, [], t⟩
set_option maxHeartbeats 1000000 in
set_option maxRecDepth 100000 in
theorem reg_law (node : Int) (k : Nat) (hk : k < 256) (e : Int) (w : World) : Calls Tryz.prog 38 #[.int .i64 node, .int .i64 k, .int .i64 e] w fun e' w' => e' = .returned (.agg (encO ⟨1, node, keyN k, e, [], 0⟩).toArray) ∧ Below w.heap.size w w' := by
 obtain ⟨W0, hW0⟩ : ∃ W0, W0 = w.alloc (.cells zeroOp 36) := ⟨_, rfl⟩
 have hb0 : Below w.heap.size w W0 := by rw [hW0]; exact (Below.refl _ w).alloc (Nat.le_refl _) _
 have hq0 : W0.heap[w.heap.size]? = some (.cells zeroOp 36 (0, 0)) := by rw [hW0]; exact heap_alloc_new w _
 have HK := Aside0.mk (key_any k hk W0)
 have HQ := Aside0.mk (And.intro hb0 hq0)
 clear hb0 hq0
 go_enter Tryz.func38, Tryz.ntmps38
 go_upto_region 1 with fail
 change Code.wp _ _ _ _ (w.alloc (.cells zeroOp 36))
 rw [← hW0]
 clear hW0
 go_wp2_with fail
 refine HK.out.mono ?_
 rintro e' w1 ⟨rfl, hb1⟩
 have hq1 := (hb1.block _ (Array.getElem?_eq_some_iff.1 HQ.out.2).1).trans HQ.out.2
 have b1 := Aside0.mk (buildO4 w1 1 node e (keyN k))
 have st := Aside0.mk (run_storeFull Tryz.prog w1 36 37 Tryz.sizeOf36 w.heap.size (encO ⟨1, node, keyN k, e, [], 0⟩) (encO_len _) (encO_one _) _ 36 hq1 rfl)
 have hq2 := Aside0.mk (setRow_heap w1 w.heap.size _ (encO ⟨1, node, keyN k, e, [], 0⟩).toArray 36 (0, 0) hq1)
 have HB := Aside0.mk hb1
 clear hb1 hq1
 go_wp2_with (first
  | ((with_reducible refine at_build 36 #[(0, .const (.int .i64 1)), (1, .tmp 7), (2, .tmp 9), (3, .tmp 10)] ?_); refine wpList_build4 rfl 36 (.const (.int .i64 1)) (.tmp 7) (.tmp 9) (.tmp 10) rfl _ _ _ _ rfl rfl rfl rfl _ _ b1.out ?_)
  | ((with_reducible refine at_store 36 (.tmp 6) (.tmp 11) ?_); refine wpList_storeK rfl 36 (.tmp 6) (.tmp 11) rfl rfl _ _ rfl rfl _ st.out ?_))
 try simp only [Exit.inBlock, Exit.then]
 refine bodyPost_ret (results_cell_row rfl _ _ w.heap.size 36 _ (0, 0) _ rfl hq2.out Tryz.underlying36 rfl (by rw [size36]; simp [encO_len])) rfl ?_
 exact ⟨rfl, below_setRow (below_step HQ.out.1 HB.out) (Nat.le_refl _) _⟩
set_option maxHeartbeats 1000000 in
set_option maxRecDepth 100000 in
theorem rot_law (node : Int) (k : Nat) (hk : k < 256) (e : Int) (w : World) : Calls Tryz.prog 39 #[.int .i64 node, .int .i64 k, .int .i64 e] w fun e' w' => e' = .returned (.agg (encO ⟨2, node, keyN k, e, [], 0⟩).toArray) ∧ Below w.heap.size w w' := by
 obtain ⟨W0, hW0⟩ : ∃ W0, W0 = w.alloc (.cells zeroOp 36) := ⟨_, rfl⟩
 have hb0 : Below w.heap.size w W0 := by rw [hW0]; exact (Below.refl _ w).alloc (Nat.le_refl _) _
 have hq0 : W0.heap[w.heap.size]? = some (.cells zeroOp 36 (0, 0)) := by rw [hW0]; exact heap_alloc_new w _
 have HK := Aside0.mk (key_any k hk W0)
 have HQ := Aside0.mk (And.intro hb0 hq0)
 clear hb0 hq0
 go_enter Tryz.func39, Tryz.ntmps39
 go_upto_region 1 with fail
 change Code.wp _ _ _ _ (w.alloc (.cells zeroOp 36))
 rw [← hW0]
 clear hW0
 go_wp2_with fail
 refine HK.out.mono ?_
 rintro e' w1 ⟨rfl, hb1⟩
 have hq1 := (hb1.block _ (Array.getElem?_eq_some_iff.1 HQ.out.2).1).trans HQ.out.2
 have b1 := Aside0.mk (buildO4 w1 2 node e (keyN k))
 have st := Aside0.mk (run_storeFull Tryz.prog w1 36 37 Tryz.sizeOf36 w.heap.size (encO ⟨2, node, keyN k, e, [], 0⟩) (encO_len _) (encO_one _) _ 36 hq1 rfl)
 have hq2 := Aside0.mk (setRow_heap w1 w.heap.size _ (encO ⟨2, node, keyN k, e, [], 0⟩).toArray 36 (0, 0) hq1)
 have HB := Aside0.mk hb1
 clear hb1 hq1
 go_wp2_with (first
  | ((with_reducible refine at_build 36 #[(0, .const (.int .i64 2)), (1, .tmp 7), (2, .tmp 9), (3, .tmp 10)] ?_); refine wpList_build4 rfl 36 (.const (.int .i64 2)) (.tmp 7) (.tmp 9) (.tmp 10) rfl _ _ _ _ rfl rfl rfl rfl _ _ b1.out ?_)
  | ((with_reducible refine at_store 36 (.tmp 6) (.tmp 11) ?_); refine wpList_storeK rfl 36 (.tmp 6) (.tmp 11) rfl rfl _ _ rfl rfl _ st.out ?_))
 try simp only [Exit.inBlock, Exit.then]
 refine bodyPost_ret (results_cell_row rfl _ _ w.heap.size 36 _ (0, 0) _ rfl hq2.out Tryz.underlying36 rfl (by rw [size36]; simp [encO_len])) rfl ?_
 exact ⟨rfl, below_setRow (below_step HQ.out.1 HB.out) (Nat.le_refl _) _⟩
set_option maxHeartbeats 1000000 in
set_option maxRecDepth 100000 in
theorem rev_law (x : Int) (w : World) : Calls Tryz.prog 40 #[.int .i64 x] w fun e' w' => e' = .returned (.agg (encO ⟨3, x, key0, 0, [], 0⟩).toArray) ∧ Below w.heap.size w w' := by
 obtain ⟨W0, hW0⟩ : ∃ W0, W0 = w.alloc (.cells zeroOp 36) := ⟨_, rfl⟩
 have hq0 : W0.heap[w.heap.size]? = some (.cells zeroOp 36 (0, 0)) := by rw [hW0]; exact heap_alloc_new w _
 have HB := Aside0.mk (show Below w.heap.size w W0 by rw [hW0]; exact (Below.refl _ w).alloc (Nat.le_refl _) _)
 have b1 := Aside0.mk (buildO3 W0 3 x)
 have st := Aside0.mk (run_storeFull Tryz.prog W0 36 37 Tryz.sizeOf36 w.heap.size (encO ⟨3, x, key0, 0, [], 0⟩) (encO_len _) (encO_one _) _ 36 hq0 rfl)
 have hq2 := Aside0.mk (setRow_heap W0 w.heap.size _ (encO ⟨3, x, key0, 0, [], 0⟩).toArray 36 (0, 0) hq0)
 clear hq0
 go_enter Tryz.func40, Tryz.ntmps40
 go_upto_region 1 with fail
 change Code.wp _ _ _ _ (w.alloc (.cells zeroOp 36))
 rw [← hW0]
 clear hW0
 go_wp2_with (first
  | ((with_reducible refine at_build 36 #[(0, .const (.int .i64 3)), (1, .tmp 3)] ?_); refine wpList_build2 rfl 36 0 1 (.const (.int .i64 3)) (.tmp 3) rfl _ _ rfl rfl _ _ b1.out ?_)
  | ((with_reducible refine at_store 36 (.tmp 2) (.tmp 4) ?_); refine wpList_storeK rfl 36 (.tmp 2) (.tmp 4) rfl rfl _ _ rfl rfl _ st.out ?_))
 try simp only [Exit.inBlock, Exit.then]
 refine bodyPost_ret (results_cell_row rfl _ _ w.heap.size 36 _ (0, 0) _ rfl hq2.out Tryz.underlying36 rfl (by rw [size36]; simp [encO_len])) rfl ?_
 exact ⟨rfl, below_setRow HB.out (Nat.le_refl _) _⟩
set_option maxHeartbeats 1000000 in
set_option maxRecDepth 100000 in
theorem adv_law (x : Int) (w : World) : Calls Tryz.prog 41 #[.int .i64 x] w fun e' w' => e' = .returned (.agg (encO ⟨5, 0, key0, 0, [], x⟩).toArray) ∧ Below w.heap.size w w' := by
 obtain ⟨W0, hW0⟩ : ∃ W0, W0 = w.alloc (.cells zeroOp 36) := ⟨_, rfl⟩
 have hq0 : W0.heap[w.heap.size]? = some (.cells zeroOp 36 (0, 0)) := by rw [hW0]; exact heap_alloc_new w _
 have HB := Aside0.mk (show Below w.heap.size w W0 by rw [hW0]; exact (Below.refl _ w).alloc (Nat.le_refl _) _)
 have b1 := Aside0.mk (buildO5 W0 5 x)
 have st := Aside0.mk (run_storeFull Tryz.prog W0 36 37 Tryz.sizeOf36 w.heap.size (encO ⟨5, 0, key0, 0, [], x⟩) (encO_len _) (encO_one _) _ 36 hq0 rfl)
 have hq2 := Aside0.mk (setRow_heap W0 w.heap.size _ (encO ⟨5, 0, key0, 0, [], x⟩).toArray 36 (0, 0) hq0)
 clear hq0
 go_enter Tryz.func41, Tryz.ntmps41
 go_upto_region 1 with fail
 change Code.wp _ _ _ _ (w.alloc (.cells zeroOp 36))
 rw [← hW0]
 clear hW0
 go_wp2_with (first
  | ((with_reducible refine at_build 36 #[(0, .const (.int .i64 5)), (5, .tmp 3)] ?_); refine wpList_build2 rfl 36 0 5 (.const (.int .i64 5)) (.tmp 3) rfl _ _ rfl rfl _ _ b1.out ?_)
  | ((with_reducible refine at_store 36 (.tmp 2) (.tmp 4) ?_); refine wpList_storeK rfl 36 (.tmp 2) (.tmp 4) rfl rfl _ _ rfl rfl _ st.out ?_))
 try simp only [Exit.inBlock, Exit.then]
 refine bodyPost_ret (results_cell_row rfl _ _ w.heap.size 36 _ (0, 0) _ rfl hq2.out Tryz.underlying36 rfl (by rw [size36]; simp [encO_len])) rfl ?_
 exact ⟨rfl, below_setRow HB.out (Nat.le_refl _) _⟩
structure AskV where
 kind : Int
 node : Int
 key : Int
 at_ : Int
 deriving Inhabited
structure AskAt (W : World) (b : Nat) (x0 x1 x2 x3 : Int) : Prop where
 bx : W.heap[b]? = some (.cells #[.int .i64 x0, .int .i64 x1, .int .i64 x2, .int .i64 x3] 38 (0, 0))
theorem AskAt.drew {W : World} {b : Nat} {x0 x1 x2 x3 : Int} (h : AskAt W b x0 x1 x2 x3) : AskAt W.drew b x0 x1 x2 x3 := ⟨h.bx⟩
theorem AskAt.cells {W : World} {b : Nat} {x0 x1 x2 x3 : Int} (h : AskAt W b x0 x1 x2 x3) : W.cell? ⟨b, 0, none⟩ = some (.int .i64 x0) ∧ W.cell? ⟨b, 1, none⟩ = some (.int .i64 x1) ∧ W.cell? ⟨b, 2, none⟩ = some (.int .i64 x2) ∧ W.cell? ⟨b, 3, none⟩ = some (.int .i64 x3) := by
 have hk := h.bx
 simp [World.cell?, hk]
end Go.Proofs.YthnpiimiimiijaaGreatDoor.Dir
/- The statements' own helpers: does, counts. -/
namespace Go.Proofs.YthnpiimiimiijaaGreatDoor.Dir
open Go Go.RowKit Go.Proofs Go.Proofs.YthnpiimiimiijaaGreatDoorW.PrintWords Go.Proofs.YthnpiimiimiijaaGreatDoorW.PrintLast Go.Proofs.YthnpiimiimiijaaGreatDoorW.PrintMore
set_option linter.unusedVariables false
set_option linter.unusedSimpArgs false
structure DirSt (w W : World) (p : Nat) (B : Book) : Prop where
 at_ : DirAt W p B
 fr : Below w.heap.size w W
 new : w.heap.size ≤ p
 wf : WF B
 laid : PA.LaidW w
theorem DirSt.later {w W W' : World} {p : Nat} {B : Book} (h : DirSt w W p B) (hb : Below W.heap.size W W') : DirSt w W' p B :=
 ⟨h.at_.below hb, below_step h.fr hb, h.new, h.wf, h.laid⟩
theorem DirSt.laidW {w W : World} {p : Nat} {B : Book} (h : DirSt w W p B) : PA.LaidW W := h.laid.below h.fr
theorem DirSt.applied {w W W' : World} {p : Nat} {B : Book} (h : DirSt w W p B) (o : Op) (ha : DirAt W' p (applyOf rulesOf B o)) (hg : W.grownBy W' (some p)) : DirSt w W' p (applyOf rulesOf B o) :=
 ⟨ha, h.fr.grown hg h.fr.size (fun k hk => by have : p = k := Option.some.inj hk; have := h.new; omega), h.new, apply_wf rulesOf h.wf o, h.laid⟩
def OpIn (o : Op) : Prop := -9223372036854775808 ≤ o.node ∧ o.node ≤ 9223372036854775807
theorem apply_st (w W : World) (p : Nat) (B : Book) (o : Op) (h : DirSt w W p B) (ho : OpIn o) :
  Calls Tryz.prog 15 #[.pointer (some ⟨p, 0, none⟩), .agg (encO o).toArray] W fun e W' => e = .returned (.tuple #[.agg #[.int .i64 (errOf rulesOf B o), .int .i64 (applyOf rulesOf B o).ver], .int .i64 0]) ∧ DirSt w W' p (applyOf rulesOf B o) ∧ W.grownBy W' (some p) := by
 refine (apply_any W p B o h.at_ h.wf h.laidW ho.1 ho.2).mono ?_
 rintro e W' ⟨he, ha, hg⟩
 exact ⟨he, h.applied o ha hg, hg⟩
theorem book_st (w W : World) (p : Nat) (B : Book) (h : DirSt w W p B) :
  Calls Tryz.prog 17 #[.pointer (some ⟨p, 0, none⟩)] W fun e W' => (∃ A1 c1 A2 c2, e = .returned (.agg (bookCells B A1 c1 A2 c2).toArray) ∧ Lists W' W.heap.size B A1 c1 A2 c2) ∧ DirSt w W' p B ∧ Below W.heap.size W W' := by
 refine (book_any p B W h.at_ h.wf.few).mono ?_
 rintro e W' ⟨⟨v, rfl, A1, c1, A2, c2, rfl, hL⟩, hb⟩
 exact ⟨⟨A1, c1, A2, c2, rfl, hL⟩, h.later hb, hb⟩
theorem eqlR (e v : Int) (w : World) : (binOp .eql 30 (.agg #[.int .i64 e, .int .i64 v]) (.agg #[.int .i64 e, .int .i64 v])).run Tryz.prog w = .ok (.bool true) w := by
 have u3 := Tryz.underlying3
 have u28 := Tryz.underlying28
 have a3 := Tryz.isAgg3
 have a28 := Tryz.isAgg28
 have z3 := Tryz.sizeOf3
 have z28 := Tryz.sizeOf28
 have hS : Tryz.prog.underlying 30 = some (.struct (Tryz.prog.fieldsOf 30)) := by kernel_rfl
 have hp : Tryz.prog.stoodInHeld 30 = false := by kernel_rfl
 rw [run_eql_struct, show (10000 : Nat) = 9999 + 1 from rfl, run_equalIn_agg w 9999 30 _ _ hS hp]
 simp only [Program.fieldsOf, Tryz.underlying30]
 go_simp
theorem guardR (op : BinOp) (a b : Operand) (e v e2 v2 : Int) (w : World) : (eqGuard op 30 a b (.agg #[.int .i64 e, .int .i64 v]) (.agg #[.int .i64 e2, .int .i64 v2])).run Tryz.prog w = .ok () w := run_eqGuard_agg w op 30 a b _ _ (by kernel_rfl)
set_option maxHeartbeats 4000000 in
set_option maxRecDepth 100000 in
theorem does_st (w W : World) (p : Nat) (B : Book) (o : Op) (err ver : Int) (h : DirSt w W p B) (ho : OpIn o) (he : errOf rulesOf B o = err) (hv : (applyOf rulesOf B o).ver = ver) :
  Calls Tryz.prog 37 #[.pointer (some ⟨p, 0, none⟩), .agg (encO o).toArray, .int .i64 err, .int .i64 ver] W fun e W' => e = .returned (.bool true) ∧ DirSt w W' p (applyOf rulesOf B o) := by
 obtain ⟨W0, hW0⟩ : ∃ W0, W0 = W.alloc (.cells (encO o).toArray 36) := ⟨_, rfl⟩
 have hb0 : Below W.heap.size W W0 := by rw [hW0]; exact (Below.refl _ W).alloc (Nat.le_refl _) _
 have hbx : W0.heap[W.heap.size]? = some (.cells (encO o).toArray 36 (0, 0)) := by rw [hW0]; exact heap_alloc_new W _
 have HA := Aside0.mk (apply_st w W0 p B o (h.later hb0) ho)
 rw [he, hv] at HA
 have lo := Aside0.mk (run_loadAtK Tryz.prog W0 36 37 Tryz.isAgg36 Tryz.sizeOf36 W.heap.size 0 (encO o) (encO_len o) (cells_of_heap hbx))
 have heq := eqlR err ver
 have hgd := fun op a b w => guardR op a b err ver err ver w
 clear h ho he hv hb0 hbx
 go_enter Tryz.func37, Tryz.ntmps37
 go_upto_region 1 with fail
 rw [← hW0]
 clear hW0
 go_wp2_with ((with_reducible refine at_load 36 (.tmp 5) ?_); refine wpList_loadK rfl 36 (.tmp 5) rfl _ rfl _ lo.out ?_)
 refine HA.out.mono ?_
 rintro e w1 ⟨rfl, hs, -⟩
 have HS := Aside0.mk hs
 clear hs
 go_wp2_with fail
 go_ret
 refine ⟨rfl, ?_⟩
 exact HS.out.later ((Below.refl _ w1).alloc (Nat.le_refl _) _)
set_option maxHeartbeats 4000000 in
set_option maxRecDepth 100000 in
theorem counts_st (w W : World) (p : Nat) (B : Book) (k : Nat) (hk : k < 256) (now node : Int) (h : DirSt w W p B) (r : Bool) (hr : decide (validOf B (keyN k) now = some node) = r) :
  Calls Tryz.prog 42 #[.pointer (some ⟨p, 0, none⟩), .int .i64 k, .int .i64 now, .int .i64 node] W fun e W' => e = .returned (.bool r) ∧ DirSt w W' p B := by
 have HB := Aside0.mk (book_st w W p B h)
 have HR := Aside0.mk hr
 have HH := Aside0.mk h
 clear h hr
 go_enter Tryz.func42, Tryz.ntmps42
 go_wp2_with fail
 refine HB.out.mono ?_
 rintro e w1 ⟨⟨A1, c1, A2, c2, rfl, hL⟩, hs, hb⟩
 have HS := Aside0.mk (And.intro hL hs)
 have HK := Aside0.mk (key_any k hk w1)
 clear hL hs hb
 go_wp2_with fail
 refine HK.out.mono ?_
 rintro e w2 ⟨rfl, hb2⟩
 have HS2 := Aside0.mk (HS.out.2.later hb2)
 have HV := Aside0.mk (valid_any B (keyN k) now _ W.heap.size w2 ⟨A1, c1, A2, c2, rfl, HS.out.1.below hb2⟩ HH.out.wf.few)
 clear hb2
 cases hv : validOf B (keyN k) now with
 | none =>
  have hf : r = false := by rw [← HR.out, hv]; rfl
  rw [hv] at HV
  subst hf
  clear hv
  go_wp2_with fail
  refine HV.out.mono ?_
  rintro e w3 ⟨rfl, hb3⟩
  have HS3 := Aside0.mk (HS2.out.later hb3)
  clear hb3
  unfold validRes
  go_wp2_with fail
  go_ret
  exact ⟨rfl, HS3.out⟩
 | some m =>
  have hf : r = decide (m = node) := by rw [← HR.out, hv]; simp
  rw [hv] at HV
  clear hv
  have HF := Aside0.mk hf
  clear hf
  go_wp2_with fail
  refine HV.out.mono ?_
  rintro e w3 ⟨rfl, hb3⟩
  have HS3 := Aside0.mk (HS2.out.later hb3)
  clear hb3
  unfold validRes
  go_wp2_with fail
  go_ret
  refine ⟨?_, HS3.out⟩
  rw [HF.out]
  first | rfl | (simp [beq_iff_eq]; done)
end Go.Proofs.YthnpiimiimiijaaGreatDoor.Dir
end
section
namespace Go.Proofs.YthnpiimiimiijaaGreatDoor.Dir
open Go Go.RowKit Go.Proofs Go.Proofs.YthnpiimiimiijaaGreatDoorW.PrintWords Go.Proofs.YthnpiimiimiijaaGreatDoorW.PrintLast Go.Proofs.YthnpiimiimiijaaGreatDoorW.PrintMore
set_option linter.unusedVariables false
set_option linter.unusedSimpArgs false
def wb0 : Book := book0
def wo0 : Op := regOp 1 1 50
def wb1 : Book := applyOf rulesOf wb0 wo0
theorem we0 : errOf rulesOf wb0 wo0 = 0 := by kernel_rfl
theorem wv0 : (applyOf rulesOf wb0 wo0).ver = 1 := by kernel_rfl
def wo1 : Op := regOp 1 9 50
def wb2 : Book := applyOf rulesOf wb1 wo1
theorem we1 : errOf rulesOf wb1 wo1 = 220 := by kernel_rfl
theorem wv1 : (applyOf rulesOf wb1 wo1).ver = 1 := by kernel_rfl
def wo2 : Op := regOp 2 1 50
def wb3 : Book := applyOf rulesOf wb2 wo2
theorem we2 : errOf rulesOf wb2 wo2 = 221 := by kernel_rfl
theorem wv2 : (applyOf rulesOf wb2 wo2).ver = 1 := by kernel_rfl
def wo3 : Op := regOp 2 2 0
def wb4 : Book := applyOf rulesOf wb3 wo3
theorem we3 : errOf rulesOf wb3 wo3 = 9 := by kernel_rfl
theorem wv3 : (applyOf rulesOf wb3 wo3).ver = 1 := by kernel_rfl
theorem wc4 : decide (validOf wb4 (keyN 1) 49 = some 1) = true := by kernel_rfl
theorem wc5 : decide (validOf wb4 (keyN 1) 50 = some 1) = false := by kernel_rfl
def wo6 : Op := rotOp 1 3 60
def wb5 : Book := applyOf rulesOf wb4 wo6
theorem we6 : errOf rulesOf wb4 wo6 = 0 := by kernel_rfl
theorem wv6 : (applyOf rulesOf wb4 wo6).ver = 2 := by kernel_rfl
def wo7 : Op := regOp 2 1 9
def wb6 : Book := applyOf rulesOf wb5 wo7
theorem we7 : errOf rulesOf wb5 wo7 = 221 := by kernel_rfl
theorem wv7 : (applyOf rulesOf wb5 wo7).ver = 2 := by kernel_rfl
theorem wc8 : decide (validOf wb6 (keyN 1) 0 = some 1) = false := by kernel_rfl
theorem wc9 : decide (validOf wb6 (keyN 3) 0 = some 1) = true := by kernel_rfl
def wo10 : Op := revOp 1
def wb7 : Book := applyOf rulesOf wb6 wo10
theorem we10 : errOf rulesOf wb6 wo10 = 0 := by kernel_rfl
theorem wv10 : (applyOf rulesOf wb6 wo10).ver = 3 := by kernel_rfl
def wo11 : Op := rotOp 1 4 70
def wb8 : Book := applyOf rulesOf wb7 wo11
theorem we11 : errOf rulesOf wb7 wo11 = 222 := by kernel_rfl
theorem wv11 : (applyOf rulesOf wb7 wo11).ver = 3 := by kernel_rfl
theorem wc12 : decide (validOf wb8 (keyN 3) 0 = some 1) = false := by kernel_rfl
def wo13 : Op := regOp 1 4 70
def wb9 : Book := applyOf rulesOf wb8 wo13
theorem we13 : errOf rulesOf wb8 wo13 = 0 := by kernel_rfl
theorem wv13 : (applyOf rulesOf wb8 wo13).ver = 4 := by kernel_rfl
theorem wc14 : decide (validOf wb9 (keyN 4) 69 = some 1) = true := by kernel_rfl
def wo15 : Op := advOp 70
def wb10 : Book := applyOf rulesOf wb9 wo15
theorem we15 : errOf rulesOf wb9 wo15 = 0 := by kernel_rfl
theorem wv15 : (applyOf rulesOf wb9 wo15).ver = 5 := by kernel_rfl
theorem wc16 : decide (validOf wb10 (keyN 4) 0 = some 1) = false := by kernel_rfl
theorem field_spent (a b c d e : Value) (w : World) : (Instr.field 43 (.agg #[a, b, c, d, e]) 3).run Tryz.prog w = .ok d w := by
 simp [Instr.field, run_underlying Tryz.underlying43, part, Tryz.isAgg41, asAgg]
theorem ws : wb10.spent.length = 2 := by kernel_rfl
set_option maxHeartbeats 8000000 in
set_option maxRecDepth 100000 in
theorem works_any (w : World) (hx : PA.LaidW w) : Calls Tryz.prog 13 #[] w fun e w' => e = .returned (.bool true) ∧ Below w.heap.size w w' := by
 have HX := Aside0.mk hx
 clear hx
 go_enter Tryz.func13, Tryz.ntmps13
 go_wp2_with fail
 refine (new_dir w).mono ?_
 rintro e w0 ⟨rfl, ha, hb⟩
 obtain ⟨p, hp⟩ : ∃ p, p = w.heap.size := ⟨_, rfl⟩
 rw [← hp] at ha ⊢
 have HS : Aside0 (DirSt w w0 p wb0) := ⟨⟨ha, hb, by omega, book0_wf, HX.out⟩⟩
 clear ha hb hp
 go_wp2_with fail
 refine (reg_law 1 1 (by decide) 50 _).mono ?_
 rintro e w0a ⟨rfl, hb⟩
 replace HS := Aside0.mk (HS.out.later hb)
 clear hb
 go_wp2_with fail
 refine (does_st w w0a p wb0 wo0 0 1 HS.out (by unfold OpIn wo0 regOp; simp) we0 wv0).mono ?_
 rintro e w0 ⟨rfl, hs⟩
 replace HS := Aside0.mk (show DirSt w w0 p wb1 from hs)
 clear hs
 go_wp2_with fail
 refine (reg_law 1 9 (by decide) 50 _).mono ?_
 rintro e w1a ⟨rfl, hb⟩
 replace HS := Aside0.mk (HS.out.later hb)
 clear hb
 go_wp2_with fail
 refine (does_st w w1a p wb1 wo1 220 1 HS.out (by unfold OpIn wo1 regOp; simp) we1 wv1).mono ?_
 rintro e w1 ⟨rfl, hs⟩
 replace HS := Aside0.mk (show DirSt w w1 p wb2 from hs)
 clear hs
 go_wp2_with fail
 refine (reg_law 2 1 (by decide) 50 _).mono ?_
 rintro e w2a ⟨rfl, hb⟩
 replace HS := Aside0.mk (HS.out.later hb)
 clear hb
 go_wp2_with fail
 refine (does_st w w2a p wb2 wo2 221 1 HS.out (by unfold OpIn wo2 regOp; simp) we2 wv2).mono ?_
 rintro e w2 ⟨rfl, hs⟩
 replace HS := Aside0.mk (show DirSt w w2 p wb3 from hs)
 clear hs
 go_wp2_with fail
 refine (reg_law 2 2 (by decide) 0 _).mono ?_
 rintro e w3a ⟨rfl, hb⟩
 replace HS := Aside0.mk (HS.out.later hb)
 clear hb
 go_wp2_with fail
 refine (does_st w w3a p wb3 wo3 9 1 HS.out (by unfold OpIn wo3 regOp; simp) we3 wv3).mono ?_
 rintro e w3 ⟨rfl, hs⟩
 replace HS := Aside0.mk (show DirSt w w3 p wb4 from hs)
 clear hs
 go_wp2_with fail
 refine (counts_st w _ p wb4 1 (by decide) 49 1 HS.out true wc4).mono ?_
 rintro e w4 ⟨rfl, hs⟩
 replace HS := Aside0.mk hs
 clear hs
 go_wp2_with fail
 refine (counts_st w _ p wb4 1 (by decide) 50 1 HS.out false wc5).mono ?_
 rintro e w5 ⟨rfl, hs⟩
 replace HS := Aside0.mk hs
 clear hs
 go_wp2_with fail
 refine (rot_law 1 3 (by decide) 60 _).mono ?_
 rintro e w6a ⟨rfl, hb⟩
 replace HS := Aside0.mk (HS.out.later hb)
 clear hb
 go_wp2_with fail
 refine (does_st w w6a p wb4 wo6 0 2 HS.out (by unfold OpIn wo6 rotOp; simp) we6 wv6).mono ?_
 rintro e w6 ⟨rfl, hs⟩
 replace HS := Aside0.mk (show DirSt w w6 p wb5 from hs)
 clear hs
 go_wp2_with fail
 refine (reg_law 2 1 (by decide) 9 _).mono ?_
 rintro e w7a ⟨rfl, hb⟩
 replace HS := Aside0.mk (HS.out.later hb)
 clear hb
 go_wp2_with fail
 refine (does_st w w7a p wb5 wo7 221 2 HS.out (by unfold OpIn wo7 regOp; simp) we7 wv7).mono ?_
 rintro e w7 ⟨rfl, hs⟩
 replace HS := Aside0.mk (show DirSt w w7 p wb6 from hs)
 clear hs
 go_wp2_with fail
 refine (counts_st w _ p wb6 1 (by decide) 0 1 HS.out false wc8).mono ?_
 rintro e w8 ⟨rfl, hs⟩
 replace HS := Aside0.mk hs
 clear hs
 go_wp2_with fail
 refine (counts_st w _ p wb6 3 (by decide) 0 1 HS.out true wc9).mono ?_
 rintro e w9 ⟨rfl, hs⟩
 replace HS := Aside0.mk hs
 clear hs
 go_wp2_with fail
 refine (rev_law 1 _).mono ?_
 rintro e w10a ⟨rfl, hb⟩
 replace HS := Aside0.mk (HS.out.later hb)
 clear hb
 go_wp2_with fail
 refine (does_st w w10a p wb6 wo10 0 3 HS.out (by unfold OpIn wo10 revOp; simp) we10 wv10).mono ?_
 rintro e w10 ⟨rfl, hs⟩
 replace HS := Aside0.mk (show DirSt w w10 p wb7 from hs)
 clear hs
 go_wp2_with fail
 refine (rot_law 1 4 (by decide) 70 _).mono ?_
 rintro e w11a ⟨rfl, hb⟩
 replace HS := Aside0.mk (HS.out.later hb)
 clear hb
 go_wp2_with fail
 refine (does_st w w11a p wb7 wo11 222 3 HS.out (by unfold OpIn wo11 rotOp; simp) we11 wv11).mono ?_
 rintro e w11 ⟨rfl, hs⟩
 replace HS := Aside0.mk (show DirSt w w11 p wb8 from hs)
 clear hs
 go_wp2_with fail
 refine (counts_st w _ p wb8 3 (by decide) 0 1 HS.out false wc12).mono ?_
 rintro e w12 ⟨rfl, hs⟩
 replace HS := Aside0.mk hs
 clear hs
 go_wp2_with fail
 refine (reg_law 1 4 (by decide) 70 _).mono ?_
 rintro e w13a ⟨rfl, hb⟩
 replace HS := Aside0.mk (HS.out.later hb)
 clear hb
 go_wp2_with fail
 refine (does_st w w13a p wb8 wo13 0 4 HS.out (by unfold OpIn wo13 regOp; simp) we13 wv13).mono ?_
 rintro e w13 ⟨rfl, hs⟩
 replace HS := Aside0.mk (show DirSt w w13 p wb9 from hs)
 clear hs
 go_wp2_with fail
 refine (counts_st w _ p wb9 4 (by decide) 69 1 HS.out true wc14).mono ?_
 rintro e w14 ⟨rfl, hs⟩
 replace HS := Aside0.mk hs
 clear hs
 go_wp2_with fail
 refine (adv_law 70 _).mono ?_
 rintro e w15a ⟨rfl, hb⟩
 replace HS := Aside0.mk (HS.out.later hb)
 clear hb
 go_wp2_with fail
 refine (does_st w w15a p wb9 wo15 0 5 HS.out (by unfold OpIn wo15 advOp; simp) we15 wv15).mono ?_
 rintro e w15 ⟨rfl, hs⟩
 replace HS := Aside0.mk (show DirSt w w15 p wb10 from hs)
 clear hs
 go_wp2_with fail
 refine (counts_st w _ p wb10 4 (by decide) 0 1 HS.out false wc16).mono ?_
 rintro e w16 ⟨rfl, hs⟩
 replace HS := Aside0.mk hs
 clear hs
 go_wp2_with fail
 refine (book_st w _ p wb10 HS.out).mono ?_
 rintro e wz ⟨⟨A1, c1, A2, c2, rfl, hL⟩, hs, hb⟩
 replace HS := Aside0.mk hs
 clear hs hb hL
 have hl : ((wb10.spent.length : Int) == 2) = true := by rw [ws]; rfl
 unfold bookCells
 rw [ws]
 have hfl := fun a b c d w => field_spent a b c (.slice A2 2 c2) d w
 go_wp2_with fail
 go_ret
 exact ⟨rfl, HS.out.fr⟩
end Go.Proofs.YthnpiimiimiijaaGreatDoor.Dir
/- Rows of asks, as the walks read them. -/
namespace Go.Proofs.YthnpiimiimiijaaGreatDoor.Dir
open Go Go.RowKit Go.Proofs Go.Proofs.YthnpiimiimiijaaGreatDoorW.PrintWords Go.Proofs.YthnpiimiimiijaaGreatDoorW.PrintLast Go.Proofs.YthnpiimiimiijaaGreatDoorW.PrintMore
set_option linter.unusedVariables false
set_option linter.unusedSimpArgs false
end Go.Proofs.YthnpiimiimiijaaGreatDoor.Dir
end
