/- Taken, Check and Bytes at lists that lie anywhere. Whether a key is among keys; zero devices. Known: plain facts, small calls. A region that draws its order and makes memory: what holds of each value, in every order. -/
import Derived.Test.YtmgbaefgcdglpaaGreatDoorNc15
import Derived.Test.YtmgbaefgcdglpaaGreatDoorNc11
import Derived.Test.YtmgbaefgcdglpaaGreatDoorNc14
section
namespace Go.Proofs.YtmgbaefgcdglpaaGreatDoor.Dir
open Go Go.RowKit Go.Proofs Go.Proofs.YtmgbaefgcdglpaaGreatDoorW.PrintWords Go.Proofs.YtmgbaefgcdglpaaGreatDoorW.PrintLast Go.Proofs.YtmgbaefgcdglpaaGreatDoorW.PrintMore
set_option linter.unusedVariables false
set_option linter.unusedSimpArgs false
theorem bare_src {w : World} {A : Option Addr} {n size : Nat} {xs : List Value} (h : SrcAt w A n size xs) (hn : 0 < n) (hs : 0 < size) : Bare A := fun a ha => by
 have hl : 0 < xs.length := by rw [h.1]; exact Nat.mul_pos hn hs
 have h0 := h.2.2 a ha 0 xs[0] (List.getElem?_eq_getElem hl)
 obtain ⟨g, o, sp⟩ := a
 cases sp with
 | none => exact ⟨g, o, rfl⟩
 | some s =>
  have hn : w.cell? ((⟨g, o, some s⟩ : Addr).add 0) = none := by unfold World.cell?; split <;> rfl
  rw [hn] at h0
  cases h0
set_option maxHeartbeats 4000000 in
set_option maxRecDepth 100000 in
theorem taken_src (B : Book) (A1 A2 : Option Addr) (c1 c2 : Nat) (w : World) (h1 : SrcAt w A1 B.devs.length 35 (flatD B.devs)) (h2 : SrcAt w A2 B.spent.length 32 (flatK B.spent)) (hf : Few B) :
  Calls Tryz.prog 76 #[.agg (bookCells B A1 c1 A2 c2).toArray] w fun e w' => ∃ A c, e = .returned (.slice A (takenB B).length c) ∧ w'.ownsRow w.heap.size 28 32 (.slice A (takenB B).length c) (takenB B).length (flatK (takenB B)) ∧ Below w.heap.size w w' := by
 obtain ⟨W0, hW0⟩ : ∃ W0, W0 = w.alloc (.cells (bookCells B A1 c1 A2 c2).toArray 25) := ⟨_, rfl⟩
 have hb0 : Below w.heap.size w W0 := by rw [hW0]; exact (Below.refl _ w).alloc (Nat.le_refl _) _
 have q1 : W0.heap[w.heap.size]? = some (.cells (bookCells B A1 c1 A2 c2).toArray 25 (0, 0)) := by rw [hW0]; exact heap_alloc_new w _
 have k2 : W0.cell? ⟨w.heap.size, 2, none⟩ = some (.slice A1 B.devs.length c1) := by rw [cell_of_heap q1]; rfl
 have k3 : W0.cell? ⟨w.heap.size, 3, none⟩ = some (.slice A2 B.spent.length c2) := by rw [cell_of_heap q1]; rfl
 have HC := Aside0.mk (cloned54 A2 B.spent.length c2 (flatK B.spent) W0 (h2.grown hb0) (by have := hf.2; omega) (flatK_one _))
 have H1 := Aside0.mk h1
 have HB := Aside0.mk hb0
 have HF := Aside0.mk hf
 have Q1 := Aside0.mk (World.block_lt_of_cell? W0 _ k2)
 have KK2 := Aside0.mk k2
 obtain ⟨z, hz, hzs⟩ := zero34
 have hi := info34
 obtain ⟨i0, hi0⟩ : ∃ i0, Tryz.prog.info? 28 = some i0 := by
  cases h : Tryz.prog.info? 28 with
  | some i => exact ⟨i, rfl⟩
  | none => rw [h] at hi; cases hi
 rw [hi0] at hi hz
 simp only [Option.map_some, Option.some.injEq, Prod.mk.injEq, Option.bind_some] at hi hz
 have HI := Aside0.mk (show Tryz.prog.info? 28 = some i0 ∧ i0.zero = some z ∧ i0.size = 32 ∧ i0.bytes = 32 ∧ z.cells.size = 32 from ⟨hi0, hz, hi.1, hi.2, hzs⟩)
 have t41 := Tryz.underlying23
 clear h1 h2 hf hb0 q1 k2 hi0 hz hzs hi
 go_enter Tryz.func76, Tryz.ntmps76
 go_upto_region 1 with fail
 rw [← hW0]
 clear hW0
 go_wp2_with fail
 refine HC.out.mono ?_
 rintro e w1 ⟨A3, c3, rfl, ho, -, hb1⟩
 have k2 := (hb1.cell (p := ⟨w.heap.size, 2, none⟩) Q1.out).trans KK2.out
 have HO := Aside0.mk (own_weaken ho HB.out.size)
 have HB1 := Aside0.mk hb1
 have HB2 := Aside0.mk (below_step HB.out hb1)
 clear ho hb1 k3
 go_wp2_with fail
 go_loopg [3, 5, 12] B.devs.length (fun kx s3 s5 s12 wr => ∃ (kk : Nat) (A : Option Addr) (c : Nat), kk ≤ B.devs.length ∧ B.devs.length - kk ≤ kx ∧ s12 = .int .i64 kk ∧ s3 = .slice A (B.spent.length + kk) c ∧ Aside0 (Below w.heap.size w wr) ∧ Aside0 (wr.ownsRow w.heap.size 28 32 (.slice A (B.spent.length + kk) c) (B.spent.length + kk) (flatK (B.spent ++ (B.devs.take kk).map (·.key)))))
 case atStart => exact ⟨0, A3, c3, Nat.zero_le _, by omega, rfl, rfl, ⟨HB2.out⟩, ⟨by simpa using HO.out⟩⟩
 case round =>
  obtain ⟨kk, A, c, hkk, hg, rfl, rfl, BW, OW⟩ := hrel
  have hf1 := HF.out.1
  have hf2 := HF.out.2
  by_cases hlt : kk < B.devs.length
  ·have hltz : (kk : Int) < (B.devs.length : Int) := by omega
   obtain ⟨a, hA⟩ : ∃ a, A1 = some a := by
    cases hA : A1 with
    | some a => exact ⟨a, rfl⟩
    | none => exact absurd (H1.out.2.1 hA) (by omega)
   obtain ⟨g, o, rfl⟩ := bare_src H1.out (by omega) (by decide) a hA
   subst hA
   obtain ⟨d, hd⟩ : ∃ d, B.devs[kk]? = some d := ⟨_, List.getElem?_eq_getElem hlt⟩
   have l1 := Aside0.mk (load_devS H1.out BW.out hd)
   have st := Aside0.mk (fun (c : Array Value) (hc : c.size = 35) => run_storeNew Tryz.prog wr 85 35 sizeD c (encD d).toArray hc (by simpa using encD_len d) (by simpa using encD_one d))
   have hd3 : (wr.alloc (.cells (encD d).toArray 85)).heap[wr.heap.size]? = some (.cells (encD d).toArray 85 (0, 0)) := heap_alloc_new wr _
   have l2 := Aside0.mk (run_loadAtK Tryz.prog (wr.alloc (.cells (encD d).toArray 85)) 28 32 Tryz.isAgg28 Tryz.sizeOf28 wr.heap.size 1 (encK d.key) (encK_len _) (fun j v hj => by rw [cell_of_heap hd3]; exact keyOfD d j v hj))
   have b3 := Aside0.mk (buildK (wr.alloc (.cells (encD d).toArray 85)) d.key)
   have ow4 := Aside0.mk (pw_own_below (pw_own_below OW.out ((Below.refl _ wr).alloc (Nat.le_refl _) (.cells (encD d).toArray 85))) ((Below.refl _ _).alloc (Nat.le_refl _) (.cells (encK d.key).toArray 28)))
   have sr4 := Aside0.mk (cells_of_heap (heap_alloc_new (wr.alloc (.cells (encD d).toArray 85)) (.cells (encK d.key).toArray 28)))
   have HD := Aside0.mk hd
   have B4 := Aside0.mk ((BW.out.alloc BW.out.size (.cells (encD d).toArray 85)).alloc (Nat.le_trans BW.out.size (by simp)) (.cells (encK d.key).toArray 28))
   obtain ⟨DA, hDA⟩ : ∃ DA, DA = (encD d).toArray := ⟨_, rfl⟩
   obtain ⟨KA, hKA⟩ : ∃ KA, KA = (encK d.key).toArray := ⟨_, rfl⟩
   have K1 := Aside0.mk (And.intro (encK_len d.key) (encK_one d.key))
   rw [← hDA] at l1 st l2 b3 ow4 sr4 B4
   rw [← hKA] at l2 b3 ow4 sr4 B4
   clear hDA hKA
   clear hd hd3 OW
   go_wp2_with (first | ((with_reducible refine at_load 85 (.tmp 14) ?_); refine wpList_loadK rfl 85 (.tmp 14) rfl _ rfl _ l1.out ?_) | ((with_reducible refine at_store 85 (.tmp 5) (.tmp 15) ?_); refine wpList_storeK rfl 85 (.tmp 5) (.tmp 15) rfl rfl _ _ rfl rfl _ (st.out _ rfl) ?_) | ((with_reducible refine at_load 28 (.tmp 17) ?_); refine wpList_loadK rfl 28 (.tmp 17) rfl _ rfl _ l2.out ?_) | ((with_reducible refine at_bslice 23 (.tmp 18) ?_); refine wpList_buildSlice1 rfl 23 (.tmp 18) rfl _ rfl _ _ b3.out ?_) | (at_builtin; refine wpList_append_own _ rfl _ _ 23 rfl w.heap.size 28 i0 z 32 32 t41 HI.out.1 HI.out.2.1 HI.out.2.2.1 HI.out.2.2.2.1 HI.out.2.2.2.2 (by decide) _ _ _ rfl ow4.out ⟨(wr.alloc (.cells DA 85)).heap.size, 0, none⟩ 1 1 (encK d.key) rfl ?qc1 ?qc2 ?qc3 ?qc4 ?qc5 ?qc6 ?_))
   case qc1 => exact K1.out.1
   case qc2 => intro j u hj; rw [add_at]; exact sr4.out j u hj
   case qc3 => exact K1.out.2
   case qc4 => unfold maxLen; omega
   case qc5 => omega
   case qc6 => exact B4.out.size
   intro v' w5 hown hgrow hnil
   obtain ⟨A', c', rfl, -, -⟩ := src_owns hown
   have HO2 := Aside0.mk (And.intro hown hgrow)
   clear hown hgrow hnil
   go_wp2
   go_roundg (B.devs.length - (kk + 1))
   case measure => omega
   case rel =>
    refine ⟨kk + 1, A', c', by omega, by omega, by go_num, rfl, ⟨B4.out.grown HO2.out.2 B4.out.size (fun j hj => own_base ow4.out j hj)⟩, ⟨?_⟩⟩
    have h3 := HO2.out.1
    rw [← flatK_one_more] at h3
    have e : B.spent ++ (B.devs.take (kk + 1)).map (·.key) = (B.spent ++ (B.devs.take kk).map (·.key)) ++ [d.key] := by
     rw [List.take_add_one, HD.out, List.map_append, List.append_assoc]; rfl
    rw [e]
    simpa [List.map_take, Nat.add_assoc] using h3
  ·have hltz : ¬ (kk : Int) < (B.devs.length : Int) := by omega
   have : kk = B.devs.length := by omega
   subst this
   go_wp2
   go_ret
   have e : (takenB B).length = B.spent.length + B.devs.length := by unfold takenB; rw [List.length_append, List.length_map]
   refine ⟨A, c, by rw [e]; rfl, ?_, BW.out⟩
   rw [e]
   have h3 := OW.out
   rw [List.take_length] at h3
   exact h3
set_option maxHeartbeats 8000000 in
set_option maxRecDepth 100000 in
theorem check_src (B : Book) (A1 : Option Addr) (c1 : Nat) (A2 : Option Addr) (c2 : Nat) (w : World) (h1 : SrcAt w A1 B.devs.length 35 (flatD B.devs)) (h2 : SrcAt w A2 B.spent.length 32 (flatK B.spent)) (hl1 : B.devs.length ≤ 4611686018427387904) (hl2 : B.spent.length ≤ 4611686018427387904) (hx : PA.LaidW w) :
  Calls Tryz.prog 35 #[.agg (bookCells B A1 c1 A2 c2).toArray] w fun e w' => CheckEnd B e ∧ Below w.heap.size w w' := by
 obtain ⟨W0, hW0⟩ : ∃ W0, W0 = w.alloc (.cells (bookCells B A1 c1 A2 c2).toArray 25) := ⟨_, rfl⟩
 obtain ⟨b0, hb0⟩ : ∃ b0, b0 = w.heap.size := ⟨_, rfl⟩
 have q1 : W0.heap[b0]? = some (.cells (bookCells B A1 c1 A2 c2).toArray 25 (0, 0)) := by rw [hW0, hb0]; exact heap_alloc_new w _
 have k0 : W0.cell? ⟨b0, 0, none⟩ = some (.int .i64 B.ver) := by rw [cell_of_heap q1]; rfl
 have k1 : W0.cell? ⟨b0, 1, none⟩ = some (.int .i64 B.clock) := by rw [cell_of_heap q1]; rfl
 have k2 : W0.cell? ⟨b0, 2, none⟩ = some (.slice A1 B.devs.length c1) := by rw [cell_of_heap q1]; rfl
 have k3 : W0.cell? ⟨b0, 3, none⟩ = some (.slice A2 B.spent.length c2) := by rw [cell_of_heap q1]; rfl
 have HB0 := Aside0.mk (show Below w.heap.size w W0 by rw [hW0]; exact (Below.refl _ w).alloc (Nat.le_refl _) _)
 have Q1 := Aside0.mk q1
 have H1 := Aside0.mk (h1.grown HB0.out)
 have H2 := Aside0.mk (h2.grown HB0.out)
 have HX := Aside0.mk (hx.below HB0.out)
 clear h1 h2 hx q1
 have hnum := fun n W => number_any n W
 go_enter Tryz.func35, Tryz.ntmps35
 go_upto_region 1 with fail
 rw [← hW0, ← hb0]
 have HEQ := Aside0.mk (And.intro hW0 hb0)
 clear hW0 hb0
 obtain ⟨n1, hn1⟩ : ∃ n1, n1 = number B.ver := ⟨_, rfl⟩
 obtain ⟨n2, hn2⟩ : ∃ n2, n2 = number B.clock := ⟨_, rfl⟩
 have HN := Aside0.mk (And.intro hn1 hn2)
 have hv : ∀ W, Calls Tryz.prog 75 #[.int .i64 B.ver] W fun e w' => e = .returned (.bool n1) ∧ w' = W := fun W => by rw [hn1]; exact number_any _ _
 have hc : ∀ W, Calls Tryz.prog 75 #[.int .i64 B.clock] W fun e w' => e = .returned (.bool n2) ∧ w' = W := fun W => by rw [hn2]; exact number_any _ _
 have HV := Aside0.mk hv
 have HC := Aside0.mk hc
 clear hn1 hn2 hv hc hnum
 cases n1
 ·go_wp2_with (go_at_call 75; refine (HV.out _).mono ?_; rintro e w' ⟨rfl, hw⟩; obtain rfl := hw.symm)
  go_ret
  exact ⟨.inr ⟨rfl, fun h => by have h3 := h.ver; rw [← HN.out.1] at h3; cases h3⟩, HB0.out⟩
 cases n2
 ·go_wp2_with fail
  refine (HV.out _).mono ?_
  rintro e w' ⟨rfl, hw⟩
  obtain rfl := hw.symm
  clear hw
  go_wp2_with fail
  refine (HC.out _).mono ?_
  rintro e w' ⟨rfl, hw⟩
  obtain rfl := hw.symm
  clear hw
  go_wp2_with fail
  go_ret
  exact ⟨.inr ⟨rfl, fun h => by have h3 := h.clock; rw [← HN.out.2] at h3; cases h3⟩, HB0.out⟩
 by_cases g1 : 8 < B.devs.length
 ·have g1z : (8 : Int) < (B.devs.length : Int) := by omega
  go_wp2_with fail
  refine (HV.out _).mono ?_
  rintro e w' ⟨rfl, hw⟩
  obtain rfl := hw.symm
  clear hw
  go_wp2_with fail
  refine (HC.out _).mono ?_
  rintro e w' ⟨rfl, hw⟩
  obtain rfl := hw.symm
  clear hw
  go_wp2_with fail
  go_ret
  exact ⟨.inr ⟨rfl, fun h => by have h3 := h.few; omega⟩, HB0.out⟩
 by_cases g2 : 64 < B.spent.length
 ·have g1z : ¬ (8 : Int) < (B.devs.length : Int) := by omega
  have g2z : (64 : Int) < (B.spent.length : Int) := by omega
  go_wp2_with fail
  refine (HV.out _).mono ?_
  rintro e w' ⟨rfl, hw⟩
  obtain rfl := hw.symm
  clear hw
  go_wp2_with fail
  refine (HC.out _).mono ?_
  rintro e w' ⟨rfl, hw⟩
  obtain rfl := hw.symm
  clear hw
  go_wp2_with fail
  go_ret
  exact ⟨.inr ⟨rfl, fun h => by have h3 := h.len; omega⟩, HB0.out⟩
 have g1z : ¬ (8 : Int) < (B.devs.length : Int) := by omega
 have g2z : ¬ (64 : Int) < (B.spent.length : Int) := by omega
 have HF : Aside0 (Few B) := ⟨by omega, by omega⟩
 clear hl1 hl2
 go_wp2_with fail
 refine (HV.out _).mono ?_
 rintro e w' ⟨rfl, hw⟩
 obtain rfl := hw.symm
 clear hw
 go_wp2_with fail
 refine (HC.out _).mono ?_
 rintro e w' ⟨rfl, hw⟩
 obtain rfl := hw.symm
 clear hw
 go_upto_region 5 with fail
 clear k0 k1 g1 g2
 go_loopg [3, 34] B.devs.length (fun kx s3 s34 wr => ∃ (kk : Nat) (last : Int), s34 = .int .i64 kk ∧ s3 = .int .i64 last ∧ kk + kx = B.devs.length ∧ Aside0 (Below W0.heap.size W0 wr) ∧ Aside0 (devsOk 0 B.devs = devsOk last (B.devs.drop kk)))
 case atStart => exact ⟨0, 0, rfl, rfl, by omega, ⟨Below.refl _ _⟩, ⟨rfl⟩⟩
 case round =>
  obtain ⟨kk, last, rfl, rfl, hkk, BW, AL⟩ := hrel
  by_cases hlt : kk < B.devs.length
  ·have hltz : (kk : Int) < (B.devs.length : Int) := by omega
   obtain ⟨a, hA⟩ : ∃ a, A1 = some a := by
    cases hA : A1 with
    | some a => exact ⟨a, rfl⟩
    | none => exact absurd (H1.out.2.1 hA) (by omega)
   obtain ⟨g, o, rfl⟩ := bare_src H1.out (by omega) (by decide) a hA
   subst hA
   obtain ⟨d, hd⟩ : ∃ d, B.devs[kk]? = some d := ⟨_, List.getElem?_eq_getElem hlt⟩
   have l1 := Aside0.mk (load_devS H1.out BW.out hd)
   have st := Aside0.mk (fun (c : Array Value) (hc : c.size = 35) => run_storeNew Tryz.prog wr 85 35 sizeD c (encD d).toArray hc (by simpa using encD_len d) (by simpa using encD_one d))
   have HNX := Aside0.mk (devsOk_next (last := last) hd)
   obtain ⟨w6, hw6⟩ : ∃ w6, w6 = wr.alloc (.cells (encD d).toArray 85) := ⟨_, rfl⟩
   obtain ⟨nb, hnb⟩ : ∃ nb, nb = wr.heap.size := ⟨_, rfl⟩
   have hd3 : w6.heap[nb]? = some (.cells (encD d).toArray 85 (0, 0)) := by rw [hw6, hnb]; exact heap_alloc_new wr _
   have c0 : w6.cell? ⟨nb, 0, none⟩ = some (.int .i64 d.node) := by rw [cell_of_heap hd3]; rfl
   have c3 : w6.cell? ⟨nb, 33, none⟩ = some (.int .i64 d.exp) := by rw [cell_of_heap hd3]; simp [encD, encK_len]
   have B6 := Aside0.mk (show Below W0.heap.size W0 w6 by rw [hw6]; exact BW.out.alloc BW.out.size _)
   obtain ⟨DA, hDA⟩ : ∃ DA, DA = (encD d).toArray := ⟨_, rfl⟩
   rw [← hDA] at l1 st hw6
   clear hd hd3 hDA
   go_upto_region 7 with (first | ((with_reducible refine at_load 85 (.tmp 36) ?_); refine wpList_loadK rfl 85 (.tmp 36) rfl _ rfl _ l1.out ?_) | ((with_reducible refine at_store 85 (.tmp 5) (.tmp 37) ?_); refine wpList_storeK rfl 85 (.tmp 5) (.tmp 37) rfl rfl _ _ rfl rfl _ (st.out _ rfl) ?_))
   rw [← hw6, ← hnb]
   clear hw6 hnb l1 st
   obtain ⟨dn, hdn⟩ : ∃ dn, dn = d.node := ⟨_, rfl⟩
   obtain ⟨de, hde⟩ : ∃ de, de = d.exp := ⟨_, rfl⟩
   obtain ⟨n3, hn3⟩ : ∃ n3, n3 = number de := ⟨_, rfl⟩
   rw [← hdn, ← hde] at HNX
   rw [← hdn] at c0
   rw [← hde] at c3
   rw [← hn3] at HNX
   have HE : Aside0 (∀ W, Calls Tryz.prog 75 #[.int .i64 de] W fun e w' => e = .returned (.bool n3) ∧ w' = W) := ⟨fun W => by rw [hn3]; exact number_any _ _⟩
   clear hdn hde hn3
   have hbad : devsOk last (B.devs.drop kk) = false → ¬ OkB B := fun h ho => by
    have := ho.devs
    rw [AL.out, h] at this
    cases this
   have HBAD := Aside0.mk hbad
   clear hbad
   by_cases e1 : dn ≤ last
   ·have e1d : decide (dn ≤ last) = true := decide_eq_true e1
    have hf := HBAD.out (by rw [HNX.out, show decide (last < dn) = false from decide_eq_false (by omega)]; rfl)
    have HFF := Aside0.mk hf
    clear hf
    go_wp2_with fail
    go_ret
    exact ⟨.inr ⟨rfl, HFF.out⟩, below_step HB0.out B6.out⟩
   by_cases e2 : 8 < dn
   ·have e1d : decide (dn ≤ last) = false := decide_eq_false e1
    have e2d : decide (8 < dn) = true := decide_eq_true e2
    have hf := HBAD.out (by rw [HNX.out, show decide (dn ≤ 8) = false from decide_eq_false (by omega)]; simp)
    have HFF := Aside0.mk hf
    clear hf
    go_wp2_with fail
    go_ret
    exact ⟨.inr ⟨rfl, HFF.out⟩, below_step HB0.out B6.out⟩
   by_cases e3 : de < 1
   ·have e1d : decide (dn ≤ last) = false := decide_eq_false e1
    have e2d : decide (8 < dn) = false := decide_eq_false e2
    have e3d : decide (de < 1) = true := decide_eq_true e3
    have hf := HBAD.out (by rw [HNX.out, show decide (1 ≤ de) = false from decide_eq_false (by omega)]; simp)
    have HFF := Aside0.mk hf
    clear hf
    go_wp2_with fail
    go_ret
    exact ⟨.inr ⟨rfl, HFF.out⟩, below_step HB0.out B6.out⟩
   have e1d : decide (dn ≤ last) = false := decide_eq_false e1
   have e2d : decide (8 < dn) = false := decide_eq_false e2
   have e3d : decide (de < 1) = false := decide_eq_false e3
   cases n3
   ·have hf := HBAD.out (by rw [HNX.out]; simp)
    have HFF := Aside0.mk hf
    clear hf
    go_wp2_with (go_at_call 75; refine (HE.out _).mono ?_; rintro e w' ⟨rfl, hw⟩; obtain rfl := hw.symm)
    go_ret
    exact ⟨.inr ⟨rfl, HFF.out⟩, below_step HB0.out B6.out⟩
   ·have hst := HNX.out
    rw [show decide (last < dn) = true from decide_eq_true (by omega), show decide (dn ≤ 8) = true from decide_eq_true (by omega), show decide (1 ≤ de) = true from decide_eq_true (by omega)] at hst
    simp only [Bool.true_and] at hst
    have HST := Aside0.mk hst
    clear hst
    go_wp2_with (go_at_call 75; refine (HE.out _).mono ?_; rintro e w' ⟨rfl, hw⟩; obtain rfl := hw.symm)
    obtain ⟨kq, rfl⟩ : ∃ kq, gk = kq + 1 := ⟨gk - 1, by omega⟩
    go_roundg kq
    case measure => omega
    case rel => exact ⟨kk + 1, dn, by go_num, rfl, by omega, ⟨B6.out⟩, ⟨AL.out.trans HST.out⟩⟩
  ·have hltz : ¬ (kk : Int) < (B.devs.length : Int) := by omega
   have : kk = B.devs.length := by omega
   subst this
   have HDV : Aside0 (devsOk 0 B.devs = true) := ⟨by rw [AL.out, List.drop_length]; rfl⟩
   clear hkk
   go_upto_region 11 with fail
   clear hltz k2
   have hLB := run_loadAtK Tryz.prog wr 25 5 Tryz.isAgg25 Tryz.sizeOf25 b0 0 (bookCells B A1 c1 A2 c2) rfl (cells_of_heap ((BW.out.block _ (Array.getElem?_eq_some_iff.1 Q1.out).1).trans Q1.out))
   have hTK := taken_src B A1 A2 c1 c2 wr (H1.out.grown BW.out) (H2.out.grown BW.out) HF.out
   have k3w : ∀ W, Below W0.heap.size W0 W → W.cell? ⟨b0, 3, none⟩ = some (.slice A2 B.spent.length c2) := fun W hb => by rw [cell_of_heap ((hb.block _ (Array.getElem?_eq_some_iff.1 Q1.out).1).trans Q1.out)]; rfl
   have k4w : ∀ W, Below W0.heap.size W0 W → W.cell? ⟨b0, 4, none⟩ = some (.string (str B.acl)) := fun W hb => by rw [cell_of_heap ((hb.block _ (Array.getElem?_eq_some_iff.1 Q1.out).1).trans Q1.out)]; rfl
   obtain ⟨BA, hBA⟩ : ∃ BA, BA = (bookCells B A1 c1 A2 c2).toArray := ⟨_, rfl⟩
   rw [← hBA] at hLB hTK
   have LB := Aside0.mk hLB
   have HTK := Aside0.mk hTK
   have K3 := Aside0.mk k3w
   have K4 := Aside0.mk k4w
   clear hLB hTK hBA k3w k4w k3
   go_wp2_with ((with_reducible refine at_load 25 (.tmp 1) ?_); refine wpList_loadK rfl 25 (.tmp 1) rfl _ rfl _ LB.out ?_)
   refine HTK.out.mono ?_
   rintro e w7 ⟨A3, c3, rfl, ho, hb7⟩
   have HO := Aside0.mk ho
   have HB7 := Aside0.mk (below_step BW.out hb7)
   have HWR := Aside0.mk BW.out.size
   clear ho hb7
   go_wp2_with fail
   refine (sort_any (takenB B) A3 c3 _ w7 HO.out (taken_len B HF.out)).mono ?_
   rintro e w8 ⟨rfl, ho8, hg8⟩
   have HO8 := Aside0.mk ho8
   have HB8 := Aside0.mk (HB7.out.grown hg8 HB7.out.size (fun k hk => Nat.le_trans HWR.out (HO.out.lt k hk).1))
   have k4 := K4.out w8 HB8.out
   clear ho8 hg8
   go_wp2_with fail
   refine (Acl.parse_any B.acl w8 (HX.out.below HB8.out)).mono ?_
   rintro e w9 ⟨hb9, v0, rfl, -⟩
   have HB9 := Aside0.mk (below_step HB8.out hb9)
   have HO9 := Aside0.mk (pw_own_below HO8.out hb9)
   have HB0A := Aside0.mk (below_step HB0.out (show Below W0.heap.size W0 w9 from HB9.out))
   obtain ⟨pe, hpe⟩ : ∃ pe, pe = (Acl.parseOf B.acl).2 := ⟨_, rfl⟩
   rw [← hpe]
   have HPE := Aside0.mk (show rulesOf B.acl = pe from hpe.symm)
   clear hb9 hpe k4
   by_cases hz : pe = 0
   ·subst hz
    have k3 := K3.out w9 HB9.out
    go_wp2_with fail
    refine (sorted_any B.spent A2 c2 w9 (H2.out.grown HB9.out) (by have := HF.out.2; omega)).mono ?_
    rintro e w10 ⟨⟨bs, rfl, hbs⟩, hb10⟩
    have HBS := Aside0.mk hbs
    have HB10 := Aside0.mk (below_step HB9.out hb10)
    have HO10 := Aside0.mk (pw_own_below HO9.out hb10)
    clear hbs hb10 k3
    cases bs
    ·go_wp2_with fail
     go_ret
     exact ⟨.inr ⟨rfl, fun h => by have h3 := HBS.out.2 h.sorted; cases h3⟩, below_step HB0.out HB10.out⟩
    ·go_wp2_with fail
     obtain ⟨A4, c4, hA4, hs4, hn4⟩ := src_owns HO10.out
     cases hA4
     refine (cloned54 A3 (takenB B).length c3 (flatK (sortL (takenB B))) w10 hs4 (by have := taken_len B HF.out; omega) (flatK_one _)).mono ?_
     rintro e w11 ⟨A5, c5, rfl, ho5, -, hb11⟩
     have HB11 := Aside0.mk (below_step HB10.out hb11)
     have HO11 := Aside0.mk (pw_own_below HO10.out hb11)
     have HO5 := Aside0.mk ho5
     have HLT := Aside0.mk HB10.out.size
     clear hs4 hn4 ho5 hb11
     go_wp2_with fail
     have hcm := compact_any (sortL (takenB B)) A5 c5 w10.heap.size w11 (by rw [sortL_len]; exact HO5.out) (by rw [sortL_len]; exact taken_len B HF.out)
     rw [sortL_len] at hcm
     refine hcm.mono ?_
     rintro e w12 ⟨hce, hg12⟩
     have HB12 := Aside0.mk (HB11.out.grown hg12 HB11.out.size (fun k hk => Nat.le_trans HLT.out (HO5.out.lt k hk).1))
     have HO12 : Aside0 (w12.ownsRow wr.heap.size 28 32 (.slice A3 (takenB B).length c3) (takenB B).length (flatK (sortL (takenB B)))) := ⟨HO11.out.kept hg12 (by
      cases h3 : (Value.slice A3 (takenB B).length c3).ownBlock with
      | none => exact .inl rfl
      | some k => exact .inr (fun e => by
       have h5 := (HO5.out.lt k e.symm).1
       have h6 := (HO10.out.lt k h3).2
       omega))⟩
     clear hcm hg12
     rcases hce with ⟨he0, hap⟩ | ⟨m, c6, hm, hna, rfl⟩
     ·rw [sortL_len] at he0
      subst he0
      have HAP := Aside0.mk hap
      clear hap
      by_cases hn0 : (takenB B).length = 0
      ·have hnil : takenB B = [] := List.length_eq_zero_iff.1 hn0
       have HOK : Aside0 (OkB B) := ⟨⟨HN.out.1.symm, HN.out.2.symm, HF.out.1, HF.out.2, HDV.out, HPE.out, HBS.out.1 (by first | rfl | trivial), HAP.out, by rw [hnil]; simp⟩⟩
       rw [hn0]
       go_wp2_with fail
       go_ret
       exact ⟨.inl ⟨rfl, HOK.out⟩, below_step HB0.out HB12.out⟩
      ·have hn1 : (0 : Int) < ((takenB B).length : Int) := by omega
       have hn1d : decide ((0 : Int) < ((takenB B).length : Int)) = true := decide_eq_true hn1
       obtain ⟨g, rfl⟩ := owned_at HO12.out hn0
       obtain ⟨x, hx⟩ : ∃ x, (sortL (takenB B))[0]? = some x := ⟨_, List.getElem?_eq_getElem (by rw [sortL_len]; omega)⟩
       have hfz := first_zero (takenB B) hx
       have hlx := load_key HO12.out (Below.refl _ w12) hx
       rw [Nat.zero_mul] at hlx
       have he := eqlK x key0
       have hgd := fun op a b w => guardK op a b x key0 w
       obtain ⟨XA, hXA⟩ : ∃ XA, XA = (encK x).toArray := ⟨_, rfl⟩
       rw [← hXA] at hlx he hgd
       rw [zeroKey_eq] at he hgd
       simp only [zeroKey] at he hgd
       have HLX := Aside0.mk hlx
       have HFZ := Aside0.mk hfz
       clear hlx hfz hXA hx
       by_cases hq : x = key0
       ·have HQ := Aside0.mk hq
        rw [show decide (x = key0) = true from decide_eq_true hq] at he
        clear hq
        go_wp2_with ((with_reducible refine at_load 28 (.tmp 91) ?_); refine wpList_loadW (by rfl) 28 (.tmp 91) rfl _ rfl _ HLX.out ?_)
        go_ret
        exact ⟨.inr ⟨rfl, fun h => h.nonzero (HFZ.out.1 HQ.out)⟩, below_step HB0.out HB12.out⟩
       ·have HOK : Aside0 (OkB B) := ⟨⟨HN.out.1.symm, HN.out.2.symm, HF.out.1, HF.out.2, HDV.out, HPE.out, HBS.out.1 (by first | rfl | trivial), HAP.out, fun h => hq (HFZ.out.2 h)⟩⟩
        rw [show decide (x = key0) = false from decide_eq_false hq] at he
        clear hq
        go_wp2_with ((with_reducible refine at_load 28 (.tmp 91) ?_); refine wpList_loadW (by rfl) 28 (.tmp 91) rfl _ rfl _ HLX.out ?_)
        go_ret
        exact ⟨.inl ⟨rfl, HOK.out⟩, below_step HB0.out HB12.out⟩
     ·have HNA := Aside0.mk hna
      have hmz : (m : Int) < ((takenB B).length : Int) := by rw [sortL_len] at hm; omega
      clear hna
      go_wp2_with fail
      go_ret
      exact ⟨.inr ⟨rfl, fun h => HNA.out h.apart⟩, below_step HB0.out HB12.out⟩
   ·have hz2 : (pe == 0) = false := beq_eq_false_iff_ne.2 hz
    have HZ := Aside0.mk hz
    go_wp2_with fail
    go_ret
    exact ⟨.inr ⟨rfl, fun h => HZ.out (HPE.out.symm.trans h.acl)⟩, HB0A.out⟩
end Go.Proofs.YtmgbaefgcdglpaaGreatDoor.Dir
end
section
namespace Go.Proofs.YtmgbaefgcdglpaaGreatDoor.Dir
open Go Go.RowKit Go.Proofs Go.Proofs.YtmgbaefgcdglpaaGreatDoorW.PrintWords Go.Proofs.YtmgbaefgcdglpaaGreatDoorW.PrintLast Go.Proofs.YtmgbaefgcdglpaaGreatDoorW.PrintMore
set_option linter.unusedVariables false
set_option linter.unusedSimpArgs false
open Go Go.RowKit Go.Proofs Go.Proofs.YtmgbaefgcdglpaaGreatDoorW.PrintWords Go.Proofs.YtmgbaefgcdglpaaGreatDoorW.PrintLast Go.Proofs.YtmgbaefgcdglpaaGreatDoorW.PrintMore
set_option linter.unusedVariables false
set_option linter.unusedSimpArgs false
open Go Go.RowKit Go.Proofs Go.Proofs.YtmgbaefgcdglpaaGreatDoorW.PrintWords Go.Proofs.YtmgbaefgcdglpaaGreatDoorW.PrintLast Go.Proofs.YtmgbaefgcdglpaaGreatDoorW.PrintMore
set_option linter.unusedVariables false
set_option linter.unusedSimpArgs false
def zeroDev : Array Value := #[.int .i64 0, .int .u8 0, .int .u8 0, .int .u8 0, .int .u8 0, .int .u8 0, .int .u8 0, .int .u8 0, .int .u8 0, .int .u8 0, .int .u8 0, .int .u8 0, .int .u8 0, .int .u8 0, .int .u8 0, .int .u8 0, .int .u8 0, .int .u8 0, .int .u8 0, .int .u8 0, .int .u8 0, .int .u8 0, .int .u8 0, .int .u8 0, .int .u8 0, .int .u8 0, .int .u8 0, .int .u8 0, .int .u8 0, .int .u8 0, .int .u8 0, .int .u8 0, .int .u8 0, .int .i64 0, .bool false]
set_option maxHeartbeats 4000000 in
set_option maxRecDepth 100000 in
theorem index_key (l : List Key) (ky : Key) (A : Option Addr) (c base : Nat) (w : World) (h : w.ownsRow base 28 32 (.slice A l.length c) l.length (flatK l)) (hl : l.length ≤ 100) :
  Calls Tryz.prog 167 #[.slice A l.length c, .agg (encK ky).toArray] w fun e w' => ((e = .returned (.int .i64 (-1)) ∧ ky ∉ l) ∨ ∃ i : Nat, e = .returned (.int .i64 i) ∧ ky ∈ l) ∧ Below w.heap.size w w' := by
 obtain ⟨W0, hW0⟩ : ∃ W0, W0 = w.alloc (.cells (encK ky).toArray 28) := ⟨_, rfl⟩
 have hk0 : W0.heap[w.heap.size]? = some (.cells (encK ky).toArray 28 (0, 0)) := by rw [hW0]; exact heap_alloc_new w _
 have HB0 := Aside0.mk (show Below w.heap.size w W0 by rw [hW0]; exact (Below.refl w.heap.size w).alloc (Nat.le_refl _) _)
 have HW := Aside0.mk (pw_own_below h HB0.out)
 have HL2 := Aside0.mk (fun (W : World) (hs : Below W0.heap.size W0 W) => run_loadAtK Tryz.prog W 28 32 Tryz.isAgg28 Tryz.sizeOf28 w.heap.size 0 (encK ky) (encK_len _) (cells_of_heap (T := 28) (fr := (0, 0)) ((hs.block _ (Array.getElem?_eq_some_iff.1 hk0).1).trans hk0)))
 have HL := Aside0.mk hl
 have HE := Aside0.mk (fun (y : Key) => And.intro (eqlK ky y) (fun op a b w => guardK op a b ky y w))
 obtain ⟨X, hX⟩ : ∃ X, X = (encK ky).toArray := ⟨_, rfl⟩
 rw [← hX] at hW0 HL2 HE ⊢
 clear h hl hk0 hX
 go_enter Tryz.func167, Tryz.ntmps167
 go_upto_region 1 with fail
 rw [← hW0]
 clear hW0
 go_wp2
 go_loopg [5, 8] l.length (fun gg _ s8 wr => ∃ kk : Nat, kk ≤ l.length ∧ l.length - kk ≤ gg ∧ s8 = .int .i64 kk ∧ Aside0 (Below W0.heap.size W0 wr) ∧ Aside0 (∀ j, j < kk → ∀ d', l[j]? = some d' → d' ≠ ky))
 case atStart => exact ⟨0, Nat.zero_le _, by omega, rfl, ⟨Below.refl _ W0⟩, ⟨fun j hj => absurd hj (Nat.not_lt_zero _)⟩⟩
 case round =>
  obtain ⟨kk, hkk, hg, rfl, BW, AL⟩ := hrel
  have LL := HL.out
  by_cases hlt : kk < l.length
  ·have hltz : (kk : Int) < (l.length : Int) := by omega
   obtain ⟨g, rfl⟩ := owned_at HW.out (by omega)
   obtain ⟨y, hy⟩ : ∃ y, l[kk]? = some y := ⟨_, List.getElem?_eq_getElem hlt⟩
   have Y := Aside0.mk hy
   clear hy
   go_wp2_with fail
   obtain ⟨he, hgd⟩ := HE.out y
   obtain ⟨YA, hYA⟩ : ∃ YA, YA = (encK y).toArray := ⟨_, rfl⟩
   have HYL := Aside0.mk (fun (W : World) (hs : Below W0.heap.size W0 W) => load_key HW.out hs Y.out)
   rw [← hYA] at he hgd HYL
   clear hYA
   refine start_ (n := 6) (S := fun W => Below W0.heap.size W0 W) (ds := []) #[false, false, false, false, false, false] (by kernel_rfl) rfl rfl BW.out.drew (fun hHeld => ?_)
   generalize World.drew _ = w5 at hHeld ⊢
   refine pure_ (i := 1) (N := (some 12)) (v := ?_) (a' := ?_) #[false, true, false, false, false, false] rfl rfl (by kernel_rfl) (fun _ _ _ h => h) (Or.inl ⟨by rfl, ?_⟩) ?_ ?_
   rotate_left
   ·intro w'
    go_simp
    with_reducible rfl
   rotate_left
   ·simp only [Act.put, List.setIfInBounds_toArray, List.set_cons_zero, List.set_cons_succ, i64_w, i32_w]
    rfl
   refine pure_ (i := 2) (N := (some 13)) (v := ?_) (a' := ?_) #[false, true, true, false, false, false] rfl rfl (by kernel_rfl) (fun _ _ _ h => h) (Or.inl ⟨by rfl, ?_⟩) ?_ ?_
   rotate_left
   ·intro w'
    go_simp
    with_reducible rfl
   rotate_left
   ·simp only [Act.put, List.setIfInBounds_toArray, List.set_cons_zero, List.set_cons_succ, i64_w, i32_w]
    rfl
   refine pure_ (i := 3) (N := (some 14)) (v := ?_) (a' := ?_) #[false, true, true, true, false, false] rfl rfl (by kernel_rfl) (fun _ _ _ h => h) (Or.inl ⟨by rfl, ?_⟩) ?_ ?_
   rotate_left
   ·intro w'
    go_simp
    with_reducible rfl
   rotate_left
   ·simp only [Act.put, List.setIfInBounds_toArray, List.set_cons_zero, List.set_cons_succ, i64_w, i32_w]
    rfl
   refine take_ (i := 0) (N := (some 11)) (v := _) (a' := ?_) #[true, true, true, true, false, false] rfl rfl (by kernel_rfl) (fun _ _ _ h => h) (Or.inl ⟨by rfl, fun w' hs => yields_load 28 (.tmp 3) _ rfl _ _ rfl _ (HL2.out w' hs)⟩) hHeld ?_ ?_
   rotate_left
   ·simp only [Act.put, List.setIfInBounds_toArray, List.set_cons_zero, List.set_cons_succ, i64_w, i32_w]
    rfl
   refine take_ (i := 4) (N := (some 15)) (v := _) (a' := ?_) #[true, true, true, true, true, false] rfl rfl (by kernel_rfl) (fun _ _ _ h => h) (Or.inl ⟨by rfl, fun w' hs => yields_load 28 (.tmp 14) _ rfl _ _ rfl _ (HYL.out w' hs)⟩) hHeld ?_ ?_
   rotate_left
   ·simp only [Act.put, List.setIfInBounds_toArray, List.set_cons_zero, List.set_cons_succ, i64_w, i32_w]
    rfl
   refine pure_ (i := 5) (N := (some 16)) (v := ?_) (a' := ?_) #[true, true, true, true, true, true] rfl rfl (by kernel_rfl) (fun _ _ _ h => h) (Or.inl ⟨by rfl, ?_⟩) ?_ ?_
   rotate_left
   ·intro w'
    go_simp
    with_reducible rfl
   rotate_left
   ·simp only [Act.put, List.setIfInBounds_toArray, List.set_cons_zero, List.set_cons_succ, i64_w, i32_w]
    rfl
   refine done_ (by kernel_rfl) ?_
   have HH := Aside0.mk hHeld
   clear hHeld
   by_cases hq : ky = y
   ·have HQ := Aside0.mk hq
    rw [show decide (ky = y) = true from decide_eq_true hq]
    clear hq he hgd
    go_wp2
    go_ret
    exact ⟨.inr ⟨kk, rfl, by rw [HQ.out]; exact List.mem_of_getElem? Y.out⟩, below_step HB0.out HH.out⟩
   ·have HQ := Aside0.mk hq
    rw [show decide (ky = y) = false from decide_eq_false hq]
    clear hq he hgd
    go_wp2
    go_roundg (l.length - (kk + 1))
    case measure => omega
    case rel =>
     refine ⟨kk + 1, by omega, by omega, by go_num, ⟨HH.out⟩, ⟨fun j hj d' hd' => ?_⟩⟩
     by_cases e : j = kk
     ·subst e
      rw [Y.out] at hd'
      cases hd'
      exact fun e => HQ.out e.symm
     ·exact AL.out j (by omega) d' hd'
  ·have hltz : ¬ (kk : Int) < (l.length : Int) := by omega
   have : kk = l.length := by omega
   subst this
   go_wp2
   go_ret
   refine ⟨.inl ⟨rfl, fun hm => ?_⟩, below_step HB0.out BW.out⟩
   obtain ⟨j, hj⟩ := List.getElem?_of_mem hm
   exact AL.out j (List.getElem?_eq_some_iff.1 hj).1 ky hj rfl
set_option maxHeartbeats 1000000 in
set_option maxRecDepth 100000 in
theorem contains_any (l : List Key) (ky : Key) (A : Option Addr) (c base : Nat) (w : World) (h : w.ownsRow base 28 32 (.slice A l.length c) l.length (flatK l)) (hl : l.length ≤ 100) :
  Calls Tryz.prog 118 #[.slice A l.length c, .agg (encK ky).toArray] w fun e w' => e = .returned (.bool (decide (ky ∈ l))) ∧ Below w.heap.size w w' := by
 obtain ⟨W0, hW0⟩ : ∃ W0, W0 = w.alloc (.cells (encK ky).toArray 28) := ⟨_, rfl⟩
 have hk0 : W0.heap[w.heap.size]? = some (.cells (encK ky).toArray 28 (0, 0)) := by rw [hW0]; exact heap_alloc_new w _
 have HB0 := Aside0.mk (show Below w.heap.size w W0 by rw [hW0]; exact (Below.refl w.heap.size w).alloc (Nat.le_refl _) _)
 have l1 := Aside0.mk (run_loadAtK Tryz.prog W0 28 32 Tryz.isAgg28 Tryz.sizeOf28 w.heap.size 0 (encK ky) (encK_len _) (cells_of_heap hk0))
 have hc := Aside0.mk (index_key l ky A c base W0 (pw_own_below h HB0.out) hl)
 clear h hk0
 go_enter Tryz.func118, Tryz.ntmps118
 go_upto_region 1 with fail
 rw [← hW0]
 clear hW0
 go_wp2_with ((with_reducible refine at_load 28 (.tmp 3) ?_); refine wpList_loadK rfl 28 (.tmp 3) rfl _ rfl _ l1.out ?_)
 refine hc.out.mono ?_
 rintro e w' ⟨hr, hb⟩
 have HB := Aside0.mk hb
 clear hb
 rcases hr with ⟨rfl, hn⟩ | ⟨i, rfl, hm⟩
 ·have HN := Aside0.mk hn
  clear hn
  go_wp2
  go_ret
  exact ⟨by rw [show decide (ky ∈ l) = false from decide_eq_false HN.out]; rfl, below_step HB0.out HB.out⟩
 ·have hi : (0 : Int) ≤ (i : Int) := by omega
  have HM := Aside0.mk hm
  clear hm
  go_wp2
  go_ret
  exact ⟨by rw [show decide (ky ∈ l) = true from decide_eq_true HM.out]; rfl, below_step HB0.out HB.out⟩
end Go.Proofs.YtmgbaefgcdglpaaGreatDoor.Dir
end
section
namespace Go.Proofs.YtmgbaefgcdglpaaGreatDoor.Dir
open Go Go.RowKit Go.Proofs Go.Proofs.YtmgbaefgcdglpaaGreatDoorW.PrintWords Go.Proofs.YtmgbaefgcdglpaaGreatDoorW.PrintLast Go.Proofs.YtmgbaefgcdglpaaGreatDoorW.PrintMore
set_option linter.unusedVariables false
set_option linter.unusedSimpArgs false
section
variable {P : Program}
theorem wpList_valueW {ops : Array Oper} {rest : List Oper} {o : Oper} {a : Act} {w : World} {Q : Exit → Act → World → Prop} (hw : Region.wanted o (yielded ops a.tmps) = true) (v : Value) (w' : World)
  (hr : (execOp a.eval o).run P w = .ok (.value v) w') (h : wpList P ops Q rest (a.put o.dst v) w') : wpList P ops Q (o :: rest) a w :=
 wpList_step fun K hK => by rw [if_pos hw]; unfold Oper.wp; rw [hr]; exact hK _ _ h
theorem exec_build {w w' : World} (t : TypeId) (fs : Array (Nat × Operand)) (o : Oper) (ho : o.op = .build t fs) (a : Act) (vs : Array (Nat × Value)) (he : (fs.map fun (i, x) => (i, a.eval x)) = vs) (r : Value)
  (hr : (Instr.build t vs).run P w = .ok r w') : (execOp a.eval o).run P w = .ok (.value r) w' := by
 subst he
 unfold execOp
 simp only [ho, Sem.run_bind]
 rw [hr]
 rfl
end
end Go.Proofs.YtmgbaefgcdglpaaGreatDoor.Dir
end
section
namespace Go.Proofs.YtmgbaefgcdglpaaGreatDoor.Dir
open Go Go.RowKit Go.Proofs Go.Proofs.YtmgbaefgcdglpaaGreatDoorW.PrintWords Go.Proofs.YtmgbaefgcdglpaaGreatDoorW.PrintLast Go.Proofs.YtmgbaefgcdglpaaGreatDoorW.PrintMore
set_option linter.unusedVariables false
set_option linter.unusedSimpArgs false
section
variable {P : Program} {ops : Array Oper} {Q : Exit → Act → World → Prop}
theorem putAll_defers : ∀ (ns : List (Tmp × Value)) (a : Act), (putAll a ns).defers = a.defers
 | [], a => rfl
 | (n, v) :: r, a => by
  show (putAll (a.put (some n) v) r).defers = _
  rw [putAll_defers r]
  rfl
theorem putAll_other : ∀ (ns : List (Tmp × Value)) (a : Act) (t : Nat), (∀ n ∈ ns, n.1 ≠ t) → (putAll a ns).tmps[t]? = a.tmps[t]?
 | [], a, t, _ => rfl
 | (n, v) :: r, a, t, h => by
  show (putAll (a.put (some n) v) r).tmps[t]? = _
  rw [putAll_other r _ t (fun m hm => h m (by simp [hm]))]
  have : n ≠ t := h (n, v) (by simp)
  simp [Act.put, this]
theorem putAll_same (f : Nat → Value) : ∀ (ns : List Tmp) (a : Act) (t : Nat), t ∈ ns → t < a.tmps.size → (putAll a (ns.map fun n => (n, f n))).tmps[t]? = some (f t)
 | [], a, t, h, _ => by cases h
 | n :: r, a, t, h, hl => by
  show (putAll (a.put (some n) (f n)) (r.map fun n => (n, f n))).tmps[t]? = _
  by_cases ht : t ∈ r
  ·exact putAll_same f r _ t ht (by simpa [Act.put] using hl)
  ·have e : t = n := by rcases List.mem_cons.1 h with h | h; exact h; exact absurd h ht
   subst e
   rw [putAll_other _ _ _ (fun m hm => by
    obtain ⟨x, hx, rfl⟩ := List.mem_map.1 hm
    exact fun e => ht (e ▸ hx))]
   simp [Act.put, hl]
end
end Go.Proofs.YtmgbaefgcdglpaaGreatDoor.Dir
end
