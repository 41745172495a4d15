/- direct.Check: whether a book may be. -/
import Derived.Test.YthnpiimiimiijaaGreatDoorDirCompact
import Derived.Test.YthnpiimiimiijaaGreatDoorDirFresh
import Derived.Test.YthnpiimiimiijaaGreatDoorDirApply
namespace Go.Proofs.YthnpiimiimiijaaGreatDoor.Dir
open Go Go.RowKit Go.Proofs Go.Proofs.YthnpiimiimiijaaGreatDoorW.PrintWords Go.Proofs.YthnpiimiimiijaaGreatDoorW.PrintLast Go.Proofs.YthnpiimiimiijaaGreatDoorW.PrintMore
set_option linter.unusedVariables false
set_option linter.unusedSimpArgs false
/-- Devices: nodes rise from one to eight, and each has an expiry. -/
def devsOk : Int → List Dev → Bool
 | _, [] => true
 | last, d :: l => decide (last < d.node) && decide (d.node ≤ 8) && decide (1 ≤ d.exp) && number d.exp && devsOk d.node l
/-- A book that Check lets in. -/
structure OkB (B : Book) : Prop where
 ver : number B.ver = true
 clock : number B.clock = true
 few : B.devs.length ≤ 8
 len : B.spent.length ≤ 64
 devs : devsOk 0 B.devs = true
 acl : rulesOf B.acl = 0
 sorted : SortedL B.spent
 apart : ApartL (sortL (takenB B))
 nonzero : key0 ∉ takenB B
def CheckEnd (B : Book) (e : Ending) : Prop := (e = .returned (.int .i64 0) ∧ OkB B) ∨ (e = .returned (.int .i64 2) ∧ ¬ OkB B)
theorem devsOk_next {l : List Dev} {n : Nat} {d : Dev} {last : Int} (h : l[n]? = some d) : devsOk last (l.drop n) = (decide (last < d.node) && decide (d.node ≤ 8) && decide (1 ≤ d.exp) && number d.exp && devsOk d.node (l.drop (n + 1))) := by
 obtain ⟨hl, e⟩ := List.getElem?_eq_some_iff.1 h
 rw [List.drop_eq_getElem_cons hl, e]
 rfl
theorem key0_least (k : Key) : ltK k key0 = false := by
 rcases ltK_tri k key0 with h | h | h
 ·exfalso
  have h1 : Lib.compareBytes k.1 key0.1 < 0 := of_decide_eq_true h
  have : ∀ (n : Nat) (a : List UInt8), 0 ≤ Lib.compareBytes a (List.replicate n 0) ∨ a.length < n := by
   intro n
   induction n with
   | zero =>
    intro a
    cases a with
    | nil => exact .inl (by simp [Lib.compareBytes])
    | cons b r => exact .inl (by simp [Lib.compareBytes])
   | succ n ih =>
    intro a
    cases a with
    | nil => exact .inr (by simp)
    | cons b r =>
     rw [List.replicate_succ]
     unfold Lib.compareBytes
     rw [if_neg (by rw [UInt8.lt_iff_toNat_lt]; simp)]
     split
     ·exact .inl (by omega)
     ·rcases ih r with h | h
      ·exact .inl h
      ·exact .inr (by simpa using h)
  rcases this 32 k.1 with h2 | h2
  ·exact absurd h1 (by show ¬ Lib.compareBytes k.1 (List.replicate 32 0) < 0; omega)
  ·have := k.2; omega
 ·subst h; exact ltK_irrefl _
 ·exact ltK_asymm h
/-- The zero key, if it is there, is the first of those that are sorted. -/
theorem first_zero (l : List Key) {x : Key} (hx : (sortL l)[0]? = some x) : x = key0 ↔ key0 ∈ l := by
 have hp := sortL_perm l
 constructor
 ·rintro rfl
  exact hp.mem_iff.1 (List.mem_of_getElem? hx)
 ·intro h
  have hs := sortL_sorted l
  cases hl : sortL l with
  | nil => rw [hl] at hx; cases hx
  | cons y r =>
   rw [hl] at hx hs
   simp at hx
   subst hx
   have h0 : key0 ∈ y :: r := by rw [← hl]; exact hp.mem_iff.2 h
   rcases List.mem_cons.1 h0 with e | e
   ·exact e.symm
   ·have h1 := (List.pairwise_cons.1 hs).1 _ e
    rcases ltK_tri key0 y with h2 | h2 | h2
    ·rw [h1] at h2; cases h2
    ·exact h2.symm
    ·rw [key0_least] at h2; cases h2
set_option maxHeartbeats 8000000 in
set_option maxRecDepth 100000 in
theorem check_any (B : Book) (A1 : Option Addr) (c1 : Nat) (A2 : Option Addr) (c2 : Nat) (w : World) (h1 : SrcAt w A1 B.devs.length 35 (flatD B.devs)) (h2 : SrcAt w A2 B.spent.length 32 (flatK B.spent)) (hl1 : B.devs.length ≤ 4611686018427387904) (hl2 : B.spent.length ≤ 4611686018427387904) (hbare : Bare A1) (hx : PA.LaidW w) :
  Calls Tryz.prog 21 #[.agg (bookCells B A1 c1 A2 c2).toArray] w fun e w' => CheckEnd B e ∧ Below w.heap.size w w' := by
 obtain ⟨W0, hW0⟩ : ∃ W0, W0 = w.alloc (.cells (bookCells B A1 c1 A2 c2).toArray 43) := ⟨_, rfl⟩
 obtain ⟨b0, hb0⟩ : ∃ b0, b0 = w.heap.size := ⟨_, rfl⟩
 have q1 : W0.heap[b0]? = some (.cells (bookCells B A1 c1 A2 c2).toArray 43 (0, 0)) := by rw [hW0, hb0]; exact heap_alloc_new w _
 have k0 : W0.cell? ⟨b0, 0, none⟩ = some (.int .i64 B.ver) := by rw [cell_of_heap q1]; rfl
 have k1 : W0.cell? ⟨b0, 1, none⟩ = some (.int .i64 B.clock) := by rw [cell_of_heap q1]; rfl
 have k2 : W0.cell? ⟨b0, 2, none⟩ = some (.slice A1 B.devs.length c1) := by rw [cell_of_heap q1]; rfl
 have k3 : W0.cell? ⟨b0, 3, none⟩ = some (.slice A2 B.spent.length c2) := by rw [cell_of_heap q1]; rfl
 have HB0 := Aside0.mk (show Below w.heap.size w W0 by rw [hW0]; exact (Below.refl _ w).alloc (Nat.le_refl _) _)
 have Q1 := Aside0.mk q1
 have H1 := Aside0.mk (h1.grown HB0.out)
 have H2 := Aside0.mk (h2.grown HB0.out)
 have HBA := Aside0.mk hbare
 have HX := Aside0.mk (hx.below HB0.out)
 clear h1 h2 hbare hx q1
 have hnum := fun n W => number_any n W
 go_enter Tryz.func21, Tryz.ntmps21
 go_upto_region 1 with fail
 rw [← hW0, ← hb0]
 have HEQ := Aside0.mk (And.intro hW0 hb0)
 clear hW0 hb0
 obtain ⟨n1, hn1⟩ : ∃ n1, n1 = number B.ver := ⟨_, rfl⟩
 obtain ⟨n2, hn2⟩ : ∃ n2, n2 = number B.clock := ⟨_, rfl⟩
 have HN := Aside0.mk (And.intro hn1 hn2)
 have hv : ∀ W, Calls Tryz.prog 47 #[.int .i64 B.ver] W fun e w' => e = .returned (.bool n1) ∧ w' = W := fun W => by rw [hn1]; exact number_any _ _
 have hc : ∀ W, Calls Tryz.prog 47 #[.int .i64 B.clock] W fun e w' => e = .returned (.bool n2) ∧ w' = W := fun W => by rw [hn2]; exact number_any _ _
 have HV := Aside0.mk hv
 have HC := Aside0.mk hc
 clear hn1 hn2 hv hc hnum
 cases n1
 ·go_wp2_with (go_at_call 47; refine (HV.out _).mono ?_; rintro e w' ⟨rfl, hw⟩; obtain rfl := hw.symm)
  go_ret
  exact ⟨.inr ⟨rfl, fun h => by have h3 := h.ver; rw [← HN.out.1] at h3; cases h3⟩, HB0.out⟩
 cases n2
 ·go_wp2_with fail
  refine (HV.out _).mono ?_
  rintro e w' ⟨rfl, hw⟩
  obtain rfl := hw.symm
  clear hw
  go_wp2_with fail
  refine (HC.out _).mono ?_
  rintro e w' ⟨rfl, hw⟩
  obtain rfl := hw.symm
  clear hw
  go_wp2_with fail
  go_ret
  exact ⟨.inr ⟨rfl, fun h => by have h3 := h.clock; rw [← HN.out.2] at h3; cases h3⟩, HB0.out⟩
 by_cases g1 : 8 < B.devs.length
 ·have g1z : (8 : Int) < (B.devs.length : Int) := by omega
  go_wp2_with fail
  refine (HV.out _).mono ?_
  rintro e w' ⟨rfl, hw⟩
  obtain rfl := hw.symm
  clear hw
  go_wp2_with fail
  refine (HC.out _).mono ?_
  rintro e w' ⟨rfl, hw⟩
  obtain rfl := hw.symm
  clear hw
  go_wp2_with fail
  go_ret
  exact ⟨.inr ⟨rfl, fun h => by have h3 := h.few; omega⟩, HB0.out⟩
 by_cases g2 : 64 < B.spent.length
 ·have g1z : ¬ (8 : Int) < (B.devs.length : Int) := by omega
  have g2z : (64 : Int) < (B.spent.length : Int) := by omega
  go_wp2_with fail
  refine (HV.out _).mono ?_
  rintro e w' ⟨rfl, hw⟩
  obtain rfl := hw.symm
  clear hw
  go_wp2_with fail
  refine (HC.out _).mono ?_
  rintro e w' ⟨rfl, hw⟩
  obtain rfl := hw.symm
  clear hw
  go_wp2_with fail
  go_ret
  exact ⟨.inr ⟨rfl, fun h => by have h3 := h.len; omega⟩, HB0.out⟩
 have g1z : ¬ (8 : Int) < (B.devs.length : Int) := by omega
 have g2z : ¬ (64 : Int) < (B.spent.length : Int) := by omega
 have HF : Aside0 (Few B) := ⟨by omega, by omega⟩
 clear hl1 hl2
 go_wp2_with fail
 refine (HV.out _).mono ?_
 rintro e w' ⟨rfl, hw⟩
 obtain rfl := hw.symm
 clear hw
 go_wp2_with fail
 refine (HC.out _).mono ?_
 rintro e w' ⟨rfl, hw⟩
 obtain rfl := hw.symm
 clear hw
 go_upto_region 5 with fail
 clear k0 k1 g1 g2
 go_loopg [3, 34] B.devs.length (fun kx s3 s34 wr => ∃ (kk : Nat) (last : Int), s34 = .int .i64 kk ∧ s3 = .int .i64 last ∧ kk + kx = B.devs.length ∧ Aside0 (Below W0.heap.size W0 wr) ∧ Aside0 (devsOk 0 B.devs = devsOk last (B.devs.drop kk)))
 case atStart => exact ⟨0, 0, rfl, rfl, by omega, ⟨Below.refl _ _⟩, ⟨rfl⟩⟩
 case round =>
  obtain ⟨kk, last, rfl, rfl, hkk, BW, AL⟩ := hrel
  by_cases hlt : kk < B.devs.length
  ·have hltz : (kk : Int) < (B.devs.length : Int) := by omega
   obtain ⟨a, hA⟩ : ∃ a, A1 = some a := by
    cases hA : A1 with
    | some a => exact ⟨a, rfl⟩
    | none => exact absurd (H1.out.2.1 hA) (by omega)
   obtain ⟨g, o, rfl⟩ := HBA.out a hA
   subst hA
   obtain ⟨d, hd⟩ : ∃ d, B.devs[kk]? = some d := ⟨_, List.getElem?_eq_getElem hlt⟩
   have l1 := Aside0.mk (load_devS H1.out BW.out hd)
   have st := Aside0.mk (fun (c : Array Value) (hc : c.size = 35) => run_storeNew Tryz.prog wr 46 35 sizeD c (encD d).toArray hc (by simpa using encD_len d) (by simpa using encD_one d))
   have HNX := Aside0.mk (devsOk_next (last := last) hd)
   obtain ⟨w6, hw6⟩ : ∃ w6, w6 = wr.alloc (.cells (encD d).toArray 46) := ⟨_, rfl⟩
   obtain ⟨nb, hnb⟩ : ∃ nb, nb = wr.heap.size := ⟨_, rfl⟩
   have hd3 : w6.heap[nb]? = some (.cells (encD d).toArray 46 (0, 0)) := by rw [hw6, hnb]; exact heap_alloc_new wr _
   have c0 : w6.cell? ⟨nb, 0, none⟩ = some (.int .i64 d.node) := by rw [cell_of_heap hd3]; rfl
   have c3 : w6.cell? ⟨nb, 33, none⟩ = some (.int .i64 d.exp) := by rw [cell_of_heap hd3]; simp [encD, encK_len]
   have B6 := Aside0.mk (show Below W0.heap.size W0 w6 by rw [hw6]; exact BW.out.alloc BW.out.size _)
   obtain ⟨DA, hDA⟩ : ∃ DA, DA = (encD d).toArray := ⟨_, rfl⟩
   rw [← hDA] at l1 st hw6
   clear hd hd3 hDA
   go_upto_region 7 with (first | ((with_reducible refine at_load 46 (.tmp 36) ?_); refine wpList_loadK rfl 46 (.tmp 36) rfl _ rfl _ l1.out ?_) | ((with_reducible refine at_store 46 (.tmp 5) (.tmp 37) ?_); refine wpList_storeK rfl 46 (.tmp 5) (.tmp 37) rfl rfl _ _ rfl rfl _ (st.out _ rfl) ?_))
   rw [← hw6, ← hnb]
   clear hw6 hnb l1 st
   obtain ⟨dn, hdn⟩ : ∃ dn, dn = d.node := ⟨_, rfl⟩
   obtain ⟨de, hde⟩ : ∃ de, de = d.exp := ⟨_, rfl⟩
   obtain ⟨n3, hn3⟩ : ∃ n3, n3 = number de := ⟨_, rfl⟩
   rw [← hdn, ← hde] at HNX
   rw [← hdn] at c0
   rw [← hde] at c3
   rw [← hn3] at HNX
   have HE : Aside0 (∀ W, Calls Tryz.prog 47 #[.int .i64 de] W fun e w' => e = .returned (.bool n3) ∧ w' = W) := ⟨fun W => by rw [hn3]; exact number_any _ _⟩
   clear hdn hde hn3
   have hbad : devsOk last (B.devs.drop kk) = false → ¬ OkB B := fun h ho => by
    have := ho.devs
    rw [AL.out, h] at this
    cases this
   have HBAD := Aside0.mk hbad
   clear hbad
   by_cases e1 : dn ≤ last
   ·have e1d : decide (dn ≤ last) = true := decide_eq_true e1
    have hf := HBAD.out (by rw [HNX.out, show decide (last < dn) = false from decide_eq_false (by omega)]; rfl)
    have HFF := Aside0.mk hf
    clear hf
    go_wp2_with fail
    go_ret
    exact ⟨.inr ⟨rfl, HFF.out⟩, below_step HB0.out B6.out⟩
   by_cases e2 : 8 < dn
   ·have e1d : decide (dn ≤ last) = false := decide_eq_false e1
    have e2d : decide (8 < dn) = true := decide_eq_true e2
    have hf := HBAD.out (by rw [HNX.out, show decide (dn ≤ 8) = false from decide_eq_false (by omega)]; simp)
    have HFF := Aside0.mk hf
    clear hf
    go_wp2_with fail
    go_ret
    exact ⟨.inr ⟨rfl, HFF.out⟩, below_step HB0.out B6.out⟩
   by_cases e3 : de < 1
   ·have e1d : decide (dn ≤ last) = false := decide_eq_false e1
    have e2d : decide (8 < dn) = false := decide_eq_false e2
    have e3d : decide (de < 1) = true := decide_eq_true e3
    have hf := HBAD.out (by rw [HNX.out, show decide (1 ≤ de) = false from decide_eq_false (by omega)]; simp)
    have HFF := Aside0.mk hf
    clear hf
    go_wp2_with fail
    go_ret
    exact ⟨.inr ⟨rfl, HFF.out⟩, below_step HB0.out B6.out⟩
   have e1d : decide (dn ≤ last) = false := decide_eq_false e1
   have e2d : decide (8 < dn) = false := decide_eq_false e2
   have e3d : decide (de < 1) = false := decide_eq_false e3
   cases n3
   ·have hf := HBAD.out (by rw [HNX.out]; simp)
    have HFF := Aside0.mk hf
    clear hf
    go_wp2_with (go_at_call 47; refine (HE.out _).mono ?_; rintro e w' ⟨rfl, hw⟩; obtain rfl := hw.symm)
    go_ret
    exact ⟨.inr ⟨rfl, HFF.out⟩, below_step HB0.out B6.out⟩
   ·have hst := HNX.out
    rw [show decide (last < dn) = true from decide_eq_true (by omega), show decide (dn ≤ 8) = true from decide_eq_true (by omega), show decide (1 ≤ de) = true from decide_eq_true (by omega)] at hst
    simp only [Bool.true_and] at hst
    have HST := Aside0.mk hst
    clear hst
    go_wp2_with (go_at_call 47; refine (HE.out _).mono ?_; rintro e w' ⟨rfl, hw⟩; obtain rfl := hw.symm)
    obtain ⟨kq, rfl⟩ : ∃ kq, gk = kq + 1 := ⟨gk - 1, by omega⟩
    go_roundg kq
    case measure => omega
    case rel => exact ⟨kk + 1, dn, by go_num, rfl, by omega, ⟨B6.out⟩, ⟨AL.out.trans HST.out⟩⟩
  ·have hltz : ¬ (kk : Int) < (B.devs.length : Int) := by omega
   have : kk = B.devs.length := by omega
   subst this
   have HDV : Aside0 (devsOk 0 B.devs = true) := ⟨by rw [AL.out, List.drop_length]; rfl⟩
   clear hkk
   go_upto_region 11 with fail
   clear hltz k2
   have hLB := run_loadAtK Tryz.prog wr 43 5 Tryz.isAgg43 Tryz.sizeOf43 b0 0 (bookCells B A1 c1 A2 c2) rfl (cells_of_heap ((BW.out.block _ (Array.getElem?_eq_some_iff.1 Q1.out).1).trans Q1.out))
   have hTK := taken_any B A1 A2 c1 c2 wr (H1.out.grown BW.out) (H2.out.grown BW.out) HF.out HBA.out
   have k3w : ∀ W, Below W0.heap.size W0 W → W.cell? ⟨b0, 3, none⟩ = some (.slice A2 B.spent.length c2) := fun W hb => by rw [cell_of_heap ((hb.block _ (Array.getElem?_eq_some_iff.1 Q1.out).1).trans Q1.out)]; rfl
   have k4w : ∀ W, Below W0.heap.size W0 W → W.cell? ⟨b0, 4, none⟩ = some (.string (str B.acl)) := fun W hb => by rw [cell_of_heap ((hb.block _ (Array.getElem?_eq_some_iff.1 Q1.out).1).trans Q1.out)]; rfl
   obtain ⟨BA, hBA⟩ : ∃ BA, BA = (bookCells B A1 c1 A2 c2).toArray := ⟨_, rfl⟩
   rw [← hBA] at hLB hTK
   have LB := Aside0.mk hLB
   have HTK := Aside0.mk hTK
   have K3 := Aside0.mk k3w
   have K4 := Aside0.mk k4w
   clear hLB hTK hBA k3w k4w k3
   go_wp2_with ((with_reducible refine at_load 43 (.tmp 1) ?_); refine wpList_loadK rfl 43 (.tmp 1) rfl _ rfl _ LB.out ?_)
   refine HTK.out.mono ?_
   rintro e w7 ⟨A3, c3, rfl, ho, hb7⟩
   have HO := Aside0.mk ho
   have HB7 := Aside0.mk (below_step BW.out hb7)
   have HWR := Aside0.mk BW.out.size
   clear ho hb7
   go_wp2_with fail
   refine (sort_any (takenB B) A3 c3 _ w7 HO.out (taken_len B HF.out)).mono ?_
   rintro e w8 ⟨rfl, ho8, hg8⟩
   have HO8 := Aside0.mk ho8
   have HB8 := Aside0.mk (HB7.out.grown hg8 HB7.out.size (fun k hk => Nat.le_trans HWR.out (HO.out.lt k hk).1))
   have k4 := K4.out w8 HB8.out
   clear ho8 hg8
   go_wp2_with fail
   refine (Acl.parse_any B.acl w8 (HX.out.below HB8.out)).mono ?_
   rintro e w9 ⟨hb9, v0, rfl, -⟩
   have HB9 := Aside0.mk (below_step HB8.out hb9)
   have HO9 := Aside0.mk (pw_own_below HO8.out hb9)
   have HB0A := Aside0.mk (below_step HB0.out (show Below W0.heap.size W0 w9 from HB9.out))
   obtain ⟨pe, hpe⟩ : ∃ pe, pe = (Acl.parseOf B.acl).2 := ⟨_, rfl⟩
   rw [← hpe]
   have HPE := Aside0.mk (show rulesOf B.acl = pe from hpe.symm)
   clear hb9 hpe k4
   by_cases hz : pe = 0
   ·subst hz
    have k3 := K3.out w9 HB9.out
    go_wp2_with fail
    refine (sorted_any B.spent A2 c2 w9 (H2.out.grown HB9.out) (by have := HF.out.2; omega)).mono ?_
    rintro e w10 ⟨⟨bs, rfl, hbs⟩, hb10⟩
    have HBS := Aside0.mk hbs
    have HB10 := Aside0.mk (below_step HB9.out hb10)
    have HO10 := Aside0.mk (pw_own_below HO9.out hb10)
    clear hbs hb10 k3
    cases bs
    ·go_wp2_with fail
     go_ret
     exact ⟨.inr ⟨rfl, fun h => by have h3 := HBS.out.2 h.sorted; cases h3⟩, below_step HB0.out HB10.out⟩
    ·go_wp2_with fail
     obtain ⟨A4, c4, hA4, hs4, hn4⟩ := src_owns HO10.out
     cases hA4
     refine (cloned54 A3 (takenB B).length c3 (flatK (sortL (takenB B))) w10 hs4 (by have := taken_len B HF.out; omega) (flatK_one _)).mono ?_
     rintro e w11 ⟨A5, c5, rfl, ho5, -, hb11⟩
     have HB11 := Aside0.mk (below_step HB10.out hb11)
     have HO11 := Aside0.mk (pw_own_below HO10.out hb11)
     have HO5 := Aside0.mk ho5
     have HLT := Aside0.mk HB10.out.size
     clear hs4 hn4 ho5 hb11
     go_wp2_with fail
     have hcm := compact_any (sortL (takenB B)) A5 c5 w10.heap.size w11 (by rw [sortL_len]; exact HO5.out) (by rw [sortL_len]; exact taken_len B HF.out)
     rw [sortL_len] at hcm
     refine hcm.mono ?_
     rintro e w12 ⟨hce, hg12⟩
     have HB12 := Aside0.mk (HB11.out.grown hg12 HB11.out.size (fun k hk => Nat.le_trans HLT.out (HO5.out.lt k hk).1))
     have HO12 : Aside0 (w12.ownsRow wr.heap.size 34 32 (.slice A3 (takenB B).length c3) (takenB B).length (flatK (sortL (takenB B)))) := ⟨HO11.out.kept hg12 (by
      cases h3 : (Value.slice A3 (takenB B).length c3).ownBlock with
      | none => exact .inl rfl
      | some k => exact .inr (fun e => by
       have h5 := (HO5.out.lt k e.symm).1
       have h6 := (HO10.out.lt k h3).2
       omega))⟩
     clear hcm hg12
     rcases hce with ⟨he0, hap⟩ | ⟨m, c6, hm, hna, rfl⟩
     ·rw [sortL_len] at he0
      subst he0
      have HAP := Aside0.mk hap
      clear hap
      by_cases hn0 : (takenB B).length = 0
      ·have hnil : takenB B = [] := List.length_eq_zero_iff.1 hn0
       have HOK : Aside0 (OkB B) := ⟨⟨HN.out.1.symm, HN.out.2.symm, HF.out.1, HF.out.2, HDV.out, HPE.out, HBS.out.1 (by first | rfl | trivial), HAP.out, by rw [hnil]; simp⟩⟩
       rw [hn0]
       go_wp2_with fail
       go_ret
       exact ⟨.inl ⟨rfl, HOK.out⟩, below_step HB0.out HB12.out⟩
      ·have hn1 : (0 : Int) < ((takenB B).length : Int) := by omega
       have hn1d : decide ((0 : Int) < ((takenB B).length : Int)) = true := decide_eq_true hn1
       obtain ⟨g, rfl⟩ := owned_at HO12.out hn0
       obtain ⟨x, hx⟩ : ∃ x, (sortL (takenB B))[0]? = some x := ⟨_, List.getElem?_eq_getElem (by rw [sortL_len]; omega)⟩
       have hfz := first_zero (takenB B) hx
       have hlx := load_key HO12.out (Below.refl _ w12) hx
       rw [Nat.zero_mul] at hlx
       have he := eqlK x key0
       have hgd := fun op a b w => guardK op a b x key0 w
       obtain ⟨XA, hXA⟩ : ∃ XA, XA = (encK x).toArray := ⟨_, rfl⟩
       rw [← hXA] at hlx he hgd
       rw [zeroKey_eq] at he hgd
       simp only [zeroKey] at he hgd
       have HLX := Aside0.mk hlx
       have HFZ := Aside0.mk hfz
       clear hlx hfz hXA hx
       by_cases hq : x = key0
       ·have HQ := Aside0.mk hq
        rw [show decide (x = key0) = true from decide_eq_true hq] at he
        clear hq
        go_wp2_with ((with_reducible refine at_load 34 (.tmp 91) ?_); refine wpList_loadW (by rfl) 34 (.tmp 91) rfl _ rfl _ HLX.out ?_)
        go_ret
        exact ⟨.inr ⟨rfl, fun h => h.nonzero (HFZ.out.1 HQ.out)⟩, below_step HB0.out HB12.out⟩
       ·have HOK : Aside0 (OkB B) := ⟨⟨HN.out.1.symm, HN.out.2.symm, HF.out.1, HF.out.2, HDV.out, HPE.out, HBS.out.1 (by first | rfl | trivial), HAP.out, fun h => hq (HFZ.out.2 h)⟩⟩
        rw [show decide (x = key0) = false from decide_eq_false hq] at he
        clear hq
        go_wp2_with ((with_reducible refine at_load 34 (.tmp 91) ?_); refine wpList_loadW (by rfl) 34 (.tmp 91) rfl _ rfl _ HLX.out ?_)
        go_ret
        exact ⟨.inl ⟨rfl, HOK.out⟩, below_step HB0.out HB12.out⟩
     ·have HNA := Aside0.mk hna
      have hmz : (m : Int) < ((takenB B).length : Int) := by rw [sortL_len] at hm; omega
      clear hna
      go_wp2_with fail
      go_ret
      exact ⟨.inr ⟨rfl, fun h => HNA.out h.apart⟩, below_step HB0.out HB12.out⟩
   ·have hz2 : (pe == 0) = false := beq_eq_false_iff_ne.2 hz
    have HZ := Aside0.mk hz
    go_wp2_with fail
    go_ret
    exact ⟨.inr ⟨rfl, fun h => HZ.out (HPE.out.symm.trans h.acl)⟩, HB0A.out⟩
end Go.Proofs.YthnpiimiimiijaaGreatDoor.Dir
