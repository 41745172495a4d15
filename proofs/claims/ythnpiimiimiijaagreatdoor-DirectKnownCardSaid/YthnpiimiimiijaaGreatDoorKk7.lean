/- taken: all keys of a book. -/
import Derived.Test.YthnpiimiimiijaaGreatDoorKk6
section
namespace Go.Proofs.YthnpiimiimiijaaGreatDoor.Dir
open Go Go.RowKit Go.Proofs Go.Proofs.YthnpiimiimiijaaGreatDoorW.PrintWords Go.Proofs.YthnpiimiimiijaaGreatDoorW.PrintLast Go.Proofs.YthnpiimiimiijaaGreatDoorW.PrintMore
set_option linter.unusedVariables false
set_option linter.unusedSimpArgs false
theorem src_cell {w W : World} {g o n size : Nat} {xs : List Value} (h : SrcAt w (some ⟨g, o, none⟩) n size xs) (hb : Below w.heap.size w W) {j : Nat} {v : Value} (hj : xs[j]? = some v) : W.cell? ⟨g, o + j, none⟩ = some v := by
 have h' := h.2.2 _ rfl j v hj
 rw [add_at] at h'
 rw [hb.cell (World.block_lt_of_cell? w _ h')]
 exact h'
theorem load_devS {w W : World} {g o n : Nat} {l : List Dev} (h : SrcAt w (some ⟨g, o, none⟩) n 35 (flatD l)) (hb : Below w.heap.size w W) {j : Nat} {d : Dev} (hj : l[j]? = some d) :
  (Instr.loadAt 46 (.pointer (some ⟨g, o + j * 35, none⟩))).run Tryz.prog W = .ok (.agg (encD d).toArray) W :=
 run_loadAtK Tryz.prog W 46 35 Tryz.isAgg46 Tryz.sizeOf46 g (o + j * 35) (encD d) (encD_len _) (fun i v hv => by rw [Nat.add_assoc]; exact src_cell h hb (flatMap_at encD 35 encD_len l j d hj i v hv))
def Bare (A : Option Addr) : Prop := ∀ a, A = some a → ∃ g o, a = ⟨g, o, none⟩
theorem bare_own {w : World} {base : Nat} {e : TypeId} {size n c : Nat} {A : Option Addr} {xs : List Value} (h : w.ownsRow base e size (.slice A n c) n xs) : Bare A := fun a ha => by
 subst ha
 rcases h.2 with ⟨e, e2⟩ | ⟨g, _, _, e, _⟩
 ·cases e
 ·injection e with e; injection e with e; exact ⟨g, 0, e⟩
theorem flatK_one_more (l : List Key) (k : Key) : flatK (l ++ [k]) = flatK l ++ encK k := by unfold flatK; rw [List.flatMap_append]; simp
theorem flatK_append (a b : List Key) : flatK (a ++ b) = flatK a ++ flatK b := List.flatMap_append
set_option maxHeartbeats 4000000 in
set_option maxRecDepth 100000 in
theorem taken_any (B : Book) (A1 A2 : Option Addr) (c1 c2 : Nat) (w : World) (h1 : SrcAt w A1 B.devs.length 35 (flatD B.devs)) (h2 : SrcAt w A2 B.spent.length 32 (flatK B.spent)) (hf : Few B) (hbare : Bare A1) :
  Calls Tryz.prog 48 #[.agg (bookCells B A1 c1 A2 c2).toArray] w fun e w' => ∃ A c, e = .returned (.slice A (takenB B).length c) ∧ w'.ownsRow w.heap.size 34 32 (.slice A (takenB B).length c) (takenB B).length (flatK (takenB B)) ∧ Below w.heap.size w w' := by
 obtain ⟨W0, hW0⟩ : ∃ W0, W0 = w.alloc (.cells (bookCells B A1 c1 A2 c2).toArray 43) := ⟨_, rfl⟩
 have hb0 : Below w.heap.size w W0 := by rw [hW0]; exact (Below.refl _ w).alloc (Nat.le_refl _) _
 have q1 : W0.heap[w.heap.size]? = some (.cells (bookCells B A1 c1 A2 c2).toArray 43 (0, 0)) := by rw [hW0]; exact heap_alloc_new w _
 have k2 : W0.cell? ⟨w.heap.size, 2, none⟩ = some (.slice A1 B.devs.length c1) := by rw [cell_of_heap q1]; rfl
 have k3 : W0.cell? ⟨w.heap.size, 3, none⟩ = some (.slice A2 B.spent.length c2) := by rw [cell_of_heap q1]; rfl
 have HC := Aside0.mk (cloned54 A2 B.spent.length c2 (flatK B.spent) W0 (h2.grown hb0) (by have := hf.2; omega) (flatK_one _))
 have H1 := Aside0.mk h1
 have HB := Aside0.mk hb0
 have HF := Aside0.mk hf
 have HBA := Aside0.mk hbare
 have Q1 := Aside0.mk (World.block_lt_of_cell? W0 _ k2)
 have KK2 := Aside0.mk k2
 obtain ⟨z, hz, hzs⟩ := zero34
 have hi := info34
 obtain ⟨i0, hi0⟩ : ∃ i0, Tryz.prog.info? 34 = some i0 := by
  cases h : Tryz.prog.info? 34 with
  | some i => exact ⟨i, rfl⟩
  | none => rw [h] at hi; cases hi
 rw [hi0] at hi hz
 simp only [Option.map_some, Option.some.injEq, Prod.mk.injEq, Option.bind_some] at hi hz
 have HI := Aside0.mk (show Tryz.prog.info? 34 = some i0 ∧ i0.zero = some z ∧ i0.size = 32 ∧ i0.bytes = 32 ∧ z.cells.size = 32 from ⟨hi0, hz, hi.1, hi.2, hzs⟩)
 have t41 := Tryz.underlying41
 clear h1 h2 hf hbare hb0 q1 k2 hi0 hz hzs hi
 go_enter Tryz.func48, Tryz.ntmps48
 go_upto_region 1 with fail
 rw [← hW0]
 clear hW0
 go_wp2_with fail
 refine HC.out.mono ?_
 rintro e w1 ⟨A3, c3, rfl, ho, -, hb1⟩
 have k2 := (hb1.cell (p := ⟨w.heap.size, 2, none⟩) Q1.out).trans KK2.out
 have HO := Aside0.mk (own_weaken ho HB.out.size)
 have HB1 := Aside0.mk hb1
 have HB2 := Aside0.mk (below_step HB.out hb1)
 clear ho hb1 k3
 go_wp2_with fail
 go_loopg [3, 5, 12] B.devs.length (fun kx s3 s5 s12 wr => ∃ (kk : Nat) (A : Option Addr) (c : Nat), kk ≤ B.devs.length ∧ B.devs.length - kk ≤ kx ∧ s12 = .int .i64 kk ∧ s3 = .slice A (B.spent.length + kk) c ∧ Aside0 (Below w.heap.size w wr) ∧ Aside0 (wr.ownsRow w.heap.size 34 32 (.slice A (B.spent.length + kk) c) (B.spent.length + kk) (flatK (B.spent ++ (B.devs.take kk).map (·.key)))))
 case atStart => exact ⟨0, A3, c3, Nat.zero_le _, by omega, rfl, rfl, ⟨HB2.out⟩, ⟨by simpa using HO.out⟩⟩
 case round =>
  obtain ⟨kk, A, c, hkk, hg, rfl, rfl, BW, OW⟩ := hrel
  have hf1 := HF.out.1
  have hf2 := HF.out.2
  by_cases hlt : kk < B.devs.length
  ·have hltz : (kk : Int) < (B.devs.length : Int) := by omega
   obtain ⟨a, hA⟩ : ∃ a, A1 = some a := by
    cases hA : A1 with
    | some a => exact ⟨a, rfl⟩
    | none => exact absurd (H1.out.2.1 hA) (by omega)
   obtain ⟨g, o, rfl⟩ := HBA.out a hA
   subst hA
   obtain ⟨d, hd⟩ : ∃ d, B.devs[kk]? = some d := ⟨_, List.getElem?_eq_getElem hlt⟩
   have l1 := Aside0.mk (load_devS H1.out BW.out hd)
   have st := Aside0.mk (fun (c : Array Value) (hc : c.size = 35) => run_storeNew Tryz.prog wr 46 35 sizeD c (encD d).toArray hc (by simpa using encD_len d) (by simpa using encD_one d))
   have hd3 : (wr.alloc (.cells (encD d).toArray 46)).heap[wr.heap.size]? = some (.cells (encD d).toArray 46 (0, 0)) := heap_alloc_new wr _
   have l2 := Aside0.mk (run_loadAtK Tryz.prog (wr.alloc (.cells (encD d).toArray 46)) 34 32 Tryz.isAgg34 Tryz.sizeOf34 wr.heap.size 1 (encK d.key) (encK_len _) (fun j v hj => by rw [cell_of_heap hd3]; exact keyOfD d j v hj))
   have b3 := Aside0.mk (buildK (wr.alloc (.cells (encD d).toArray 46)) d.key)
   have ow4 := Aside0.mk (pw_own_below (pw_own_below OW.out ((Below.refl _ wr).alloc (Nat.le_refl _) (.cells (encD d).toArray 46))) ((Below.refl _ _).alloc (Nat.le_refl _) (.cells (encK d.key).toArray 34)))
   have sr4 := Aside0.mk (cells_of_heap (heap_alloc_new (wr.alloc (.cells (encD d).toArray 46)) (.cells (encK d.key).toArray 34)))
   have HD := Aside0.mk hd
   have B4 := Aside0.mk ((BW.out.alloc BW.out.size (.cells (encD d).toArray 46)).alloc (Nat.le_trans BW.out.size (by simp)) (.cells (encK d.key).toArray 34))
   obtain ⟨DA, hDA⟩ : ∃ DA, DA = (encD d).toArray := ⟨_, rfl⟩
   obtain ⟨KA, hKA⟩ : ∃ KA, KA = (encK d.key).toArray := ⟨_, rfl⟩
   have K1 := Aside0.mk (And.intro (encK_len d.key) (encK_one d.key))
   rw [← hDA] at l1 st l2 b3 ow4 sr4 B4
   rw [← hKA] at l2 b3 ow4 sr4 B4
   clear hDA hKA
   clear hd hd3 OW
   go_wp2_with (first | ((with_reducible refine at_load 46 (.tmp 14) ?_); refine wpList_loadK rfl 46 (.tmp 14) rfl _ rfl _ l1.out ?_) | ((with_reducible refine at_store 46 (.tmp 5) (.tmp 15) ?_); refine wpList_storeK rfl 46 (.tmp 5) (.tmp 15) rfl rfl _ _ rfl rfl _ (st.out _ rfl) ?_) | ((with_reducible refine at_load 34 (.tmp 17) ?_); refine wpList_loadK rfl 34 (.tmp 17) rfl _ rfl _ l2.out ?_) | ((with_reducible refine at_bslice 41 (.tmp 18) ?_); refine wpList_buildSlice1 rfl 41 (.tmp 18) rfl _ rfl _ _ b3.out ?_) | (at_builtin; refine wpList_append_own _ rfl _ _ 41 rfl w.heap.size 34 i0 z 32 32 t41 HI.out.1 HI.out.2.1 HI.out.2.2.1 HI.out.2.2.2.1 HI.out.2.2.2.2 (by decide) _ _ _ rfl ow4.out ⟨(wr.alloc (.cells DA 46)).heap.size, 0, none⟩ 1 1 (encK d.key) rfl ?qc1 ?qc2 ?qc3 ?qc4 ?qc5 ?qc6 ?_))
   case qc1 => exact K1.out.1
   case qc2 => intro j u hj; rw [add_at]; exact sr4.out j u hj
   case qc3 => exact K1.out.2
   case qc4 => unfold maxLen; omega
   case qc5 => omega
   case qc6 => exact B4.out.size
   intro v' w5 hown hgrow hnil
   obtain ⟨A', c', rfl, -, -⟩ := src_owns hown
   have HO2 := Aside0.mk (And.intro hown hgrow)
   clear hown hgrow hnil
   go_wp2
   go_roundg (B.devs.length - (kk + 1))
   case measure => omega
   case rel =>
    refine ⟨kk + 1, A', c', by omega, by omega, by go_num, rfl, ⟨B4.out.grown HO2.out.2 B4.out.size (fun j hj => own_base ow4.out j hj)⟩, ⟨?_⟩⟩
    have h3 := HO2.out.1
    rw [← flatK_one_more] at h3
    have e : B.spent ++ (B.devs.take (kk + 1)).map (·.key) = (B.spent ++ (B.devs.take kk).map (·.key)) ++ [d.key] := by
     rw [List.take_add_one, HD.out, List.map_append, List.append_assoc]; rfl
    rw [e]
    simpa [List.map_take, Nat.add_assoc] using h3
  ·have hltz : ¬ (kk : Int) < (B.devs.length : Int) := by omega
   have : kk = B.devs.length := by omega
   subst this
   go_wp2
   go_ret
   have e : (takenB B).length = B.spent.length + B.devs.length := by unfold takenB; rw [List.length_append, List.length_map]
   refine ⟨A, c, by rw [e]; rfl, ?_, BW.out⟩
   rw [e]
   have h3 := OW.out
   rw [List.take_length] at h3
   exact h3
end Go.Proofs.YthnpiimiimiijaaGreatDoor.Dir
/- slices.Contains at keys. -/
namespace Go.Proofs.YthnpiimiimiijaaGreatDoor.Dir
open Go Go.RowKit Go.Proofs Go.Proofs.YthnpiimiimiijaaGreatDoorW.PrintWords Go.Proofs.YthnpiimiimiijaaGreatDoorW.PrintLast Go.Proofs.YthnpiimiimiijaaGreatDoorW.PrintMore
set_option linter.unusedVariables false
set_option linter.unusedSimpArgs false
set_option maxHeartbeats 4000000 in
set_option maxRecDepth 100000 in
theorem index_key (l : List Key) (ky : Key) (A : Option Addr) (c base : Nat) (w : World) (h : w.ownsRow base 34 32 (.slice A l.length c) l.length (flatK l)) (hl : l.length ≤ 100) :
  Calls Tryz.prog 165 #[.slice A l.length c, .agg (encK ky).toArray] w fun e w' => ((e = .returned (.int .i64 (-1)) ∧ ky ∉ l) ∨ ∃ i : Nat, e = .returned (.int .i64 i) ∧ ky ∈ l) ∧ Below w.heap.size w w' := by
 obtain ⟨W0, hW0⟩ : ∃ W0, W0 = w.alloc (.cells (encK ky).toArray 34) := ⟨_, rfl⟩
 have hk0 : W0.heap[w.heap.size]? = some (.cells (encK ky).toArray 34 (0, 0)) := by rw [hW0]; exact heap_alloc_new w _
 have HB0 := Aside0.mk (show Below w.heap.size w W0 by rw [hW0]; exact (Below.refl w.heap.size w).alloc (Nat.le_refl _) _)
 have HW := Aside0.mk (pw_own_below h HB0.out)
 have HL2 := Aside0.mk (fun (W : World) (hs : Below W0.heap.size W0 W) => run_loadAtK Tryz.prog W 34 32 Tryz.isAgg34 Tryz.sizeOf34 w.heap.size 0 (encK ky) (encK_len _) (cells_of_heap (T := 34) (fr := (0, 0)) ((hs.block _ (Array.getElem?_eq_some_iff.1 hk0).1).trans hk0)))
 have HL := Aside0.mk hl
 have HE := Aside0.mk (fun (y : Key) => And.intro (eqlK ky y) (fun op a b w => guardK op a b ky y w))
 obtain ⟨X, hX⟩ : ∃ X, X = (encK ky).toArray := ⟨_, rfl⟩
 rw [← hX] at hW0 HL2 HE ⊢
 clear h hl hk0 hX
 go_enter Tryz.func165, Tryz.ntmps165
 go_upto_region 1 with fail
 rw [← hW0]
 clear hW0
 go_wp2
 go_loopg [5, 8] l.length (fun gg _ s8 wr => ∃ kk : Nat, kk ≤ l.length ∧ l.length - kk ≤ gg ∧ s8 = .int .i64 kk ∧ Aside0 (Below W0.heap.size W0 wr) ∧ Aside0 (∀ j, j < kk → ∀ d', l[j]? = some d' → d' ≠ ky))
 case atStart => exact ⟨0, Nat.zero_le _, by omega, rfl, ⟨Below.refl _ W0⟩, ⟨fun j hj => absurd hj (Nat.not_lt_zero _)⟩⟩
 case round =>
  obtain ⟨kk, hkk, hg, rfl, BW, AL⟩ := hrel
  have LL := HL.out
  by_cases hlt : kk < l.length
  ·have hltz : (kk : Int) < (l.length : Int) := by omega
   obtain ⟨g, rfl⟩ := owned_at HW.out (by omega)
   obtain ⟨y, hy⟩ : ∃ y, l[kk]? = some y := ⟨_, List.getElem?_eq_getElem hlt⟩
   have Y := Aside0.mk hy
   clear hy
   go_wp2_with fail
   obtain ⟨he, hgd⟩ := HE.out y
   obtain ⟨YA, hYA⟩ : ∃ YA, YA = (encK y).toArray := ⟨_, rfl⟩
   have HYL := Aside0.mk (fun (W : World) (hs : Below W0.heap.size W0 W) => load_key HW.out hs Y.out)
   rw [← hYA] at he hgd HYL
   clear hYA
   refine start_ (n := 6) (S := fun W => Below W0.heap.size W0 W) (ds := []) #[false, false, false, false, false, false] (by kernel_rfl) rfl rfl BW.out.drew (fun hHeld => ?_)
   generalize World.drew _ = w5 at hHeld ⊢
   refine pure_ (i := 1) (N := (some 12)) (v := ?_) (a' := ?_) #[false, true, false, false, false, false] rfl rfl (by kernel_rfl) (fun _ _ _ h => h) (Or.inl ⟨by rfl, ?_⟩) ?_ ?_
   rotate_left
   ·intro w'
    go_simp
    with_reducible rfl
   rotate_left
   ·simp only [Act.put, List.setIfInBounds_toArray, List.set_cons_zero, List.set_cons_succ, i64_w, i32_w]
    rfl
   refine pure_ (i := 2) (N := (some 13)) (v := ?_) (a' := ?_) #[false, true, true, false, false, false] rfl rfl (by kernel_rfl) (fun _ _ _ h => h) (Or.inl ⟨by rfl, ?_⟩) ?_ ?_
   rotate_left
   ·intro w'
    go_simp
    with_reducible rfl
   rotate_left
   ·simp only [Act.put, List.setIfInBounds_toArray, List.set_cons_zero, List.set_cons_succ, i64_w, i32_w]
    rfl
   refine pure_ (i := 3) (N := (some 14)) (v := ?_) (a' := ?_) #[false, true, true, true, false, false] rfl rfl (by kernel_rfl) (fun _ _ _ h => h) (Or.inl ⟨by rfl, ?_⟩) ?_ ?_
   rotate_left
   ·intro w'
    go_simp
    with_reducible rfl
   rotate_left
   ·simp only [Act.put, List.setIfInBounds_toArray, List.set_cons_zero, List.set_cons_succ, i64_w, i32_w]
    rfl
   refine take_ (i := 0) (N := (some 11)) (v := _) (a' := ?_) #[true, true, true, true, false, false] rfl rfl (by kernel_rfl) (fun _ _ _ h => h) (Or.inl ⟨by rfl, fun w' hs => yields_load 34 (.tmp 3) _ rfl _ _ rfl _ (HL2.out w' hs)⟩) hHeld ?_ ?_
   rotate_left
   ·simp only [Act.put, List.setIfInBounds_toArray, List.set_cons_zero, List.set_cons_succ, i64_w, i32_w]
    rfl
   refine take_ (i := 4) (N := (some 15)) (v := _) (a' := ?_) #[true, true, true, true, true, false] rfl rfl (by kernel_rfl) (fun _ _ _ h => h) (Or.inl ⟨by rfl, fun w' hs => yields_load 34 (.tmp 14) _ rfl _ _ rfl _ (HYL.out w' hs)⟩) hHeld ?_ ?_
   rotate_left
   ·simp only [Act.put, List.setIfInBounds_toArray, List.set_cons_zero, List.set_cons_succ, i64_w, i32_w]
    rfl
   refine pure_ (i := 5) (N := (some 16)) (v := ?_) (a' := ?_) #[true, true, true, true, true, true] rfl rfl (by kernel_rfl) (fun _ _ _ h => h) (Or.inl ⟨by rfl, ?_⟩) ?_ ?_
   rotate_left
   ·intro w'
    go_simp
    with_reducible rfl
   rotate_left
   ·simp only [Act.put, List.setIfInBounds_toArray, List.set_cons_zero, List.set_cons_succ, i64_w, i32_w]
    rfl
   refine done_ (by kernel_rfl) ?_
   have HH := Aside0.mk hHeld
   clear hHeld
   by_cases hq : ky = y
   ·have HQ := Aside0.mk hq
    rw [show decide (ky = y) = true from decide_eq_true hq]
    clear hq he hgd
    go_wp2
    go_ret
    exact ⟨.inr ⟨kk, rfl, by rw [HQ.out]; exact List.mem_of_getElem? Y.out⟩, below_step HB0.out HH.out⟩
   ·have HQ := Aside0.mk hq
    rw [show decide (ky = y) = false from decide_eq_false hq]
    clear hq he hgd
    go_wp2
    go_roundg (l.length - (kk + 1))
    case measure => omega
    case rel =>
     refine ⟨kk + 1, by omega, by omega, by go_num, ⟨HH.out⟩, ⟨fun j hj d' hd' => ?_⟩⟩
     by_cases e : j = kk
     ·subst e
      rw [Y.out] at hd'
      cases hd'
      exact fun e => HQ.out e.symm
     ·exact AL.out j (by omega) d' hd'
  ·have hltz : ¬ (kk : Int) < (l.length : Int) := by omega
   have : kk = l.length := by omega
   subst this
   go_wp2
   go_ret
   refine ⟨.inl ⟨rfl, fun hm => ?_⟩, below_step HB0.out BW.out⟩
   obtain ⟨j, hj⟩ := List.getElem?_of_mem hm
   exact AL.out j (List.getElem?_eq_some_iff.1 hj).1 ky hj rfl
set_option maxHeartbeats 1000000 in
set_option maxRecDepth 100000 in
theorem contains_any (l : List Key) (ky : Key) (A : Option Addr) (c base : Nat) (w : World) (h : w.ownsRow base 34 32 (.slice A l.length c) l.length (flatK l)) (hl : l.length ≤ 100) :
  Calls Tryz.prog 148 #[.slice A l.length c, .agg (encK ky).toArray] w fun e w' => e = .returned (.bool (decide (ky ∈ l))) ∧ Below w.heap.size w w' := by
 obtain ⟨W0, hW0⟩ : ∃ W0, W0 = w.alloc (.cells (encK ky).toArray 34) := ⟨_, rfl⟩
 have hk0 : W0.heap[w.heap.size]? = some (.cells (encK ky).toArray 34 (0, 0)) := by rw [hW0]; exact heap_alloc_new w _
 have HB0 := Aside0.mk (show Below w.heap.size w W0 by rw [hW0]; exact (Below.refl w.heap.size w).alloc (Nat.le_refl _) _)
 have l1 := Aside0.mk (run_loadAtK Tryz.prog W0 34 32 Tryz.isAgg34 Tryz.sizeOf34 w.heap.size 0 (encK ky) (encK_len _) (cells_of_heap hk0))
 have hc := Aside0.mk (index_key l ky A c base W0 (pw_own_below h HB0.out) hl)
 clear h hk0
 go_enter Tryz.func148, Tryz.ntmps148
 go_upto_region 1 with fail
 rw [← hW0]
 clear hW0
 go_wp2_with ((with_reducible refine at_load 34 (.tmp 3) ?_); refine wpList_loadK rfl 34 (.tmp 3) rfl _ rfl _ l1.out ?_)
 refine hc.out.mono ?_
 rintro e w' ⟨hr, hb⟩
 have HB := Aside0.mk hb
 clear hb
 rcases hr with ⟨rfl, hn⟩ | ⟨i, rfl, hm⟩
 ·have HN := Aside0.mk hn
  clear hn
  go_wp2
  go_ret
  exact ⟨by rw [show decide (ky ∈ l) = false from decide_eq_false HN.out]; rfl, below_step HB0.out HB.out⟩
 ·have hi : (0 : Int) ≤ (i : Int) := by omega
  have HM := Aside0.mk hm
  clear hm
  go_wp2
  go_ret
  exact ⟨by rw [show decide (ky ∈ l) = true from decide_eq_true HM.out]; rfl, below_step HB0.out HB.out⟩
end Go.Proofs.YthnpiimiimiijaaGreatDoor.Dir
/- fresh: what is wrong with an op's key and expiry. -/
namespace Go.Proofs.YthnpiimiimiijaaGreatDoor.Dir
open Go Go.RowKit Go.Proofs Go.Proofs.YthnpiimiimiijaaGreatDoorW.PrintWords Go.Proofs.YthnpiimiimiijaaGreatDoorW.PrintLast Go.Proofs.YthnpiimiimiijaaGreatDoorW.PrintMore
set_option linter.unusedVariables false
set_option linter.unusedSimpArgs false
theorem keyOfO (o : Op) (j : Nat) (v : Value) (h : (encK o.key)[j]? = some v) : (encO o)[2 + j]? = some v := by
 have hj : j < 32 := by have := (List.getElem?_eq_some_iff.1 h).1; rw [encK_len] at this; exact this
 show (Value.int .i64 o.kind :: .int .i64 o.node :: (encK o.key ++ _))[2 + j]? = _
 rw [show 2 + j = (j + 1) + 1 by omega, List.getElem?_cons_succ, List.getElem?_cons_succ, List.getElem?_append_left (by rw [encK_len]; exact hj), h]
theorem tailOfO (o : Op) (j : Nat) : (encO o)[34 + j]? = ([.int .i64 o.exp, .string ⟨o.text.toArray⟩, .int .i64 o.at_] : List Value)[j]? := by
 show (Value.int .i64 o.kind :: .int .i64 o.node :: (encK o.key ++ _))[34 + j]? = _
 rw [show 34 + j = (32 + j + 1) + 1 by omega, List.getElem?_cons_succ, List.getElem?_cons_succ, List.getElem?_append_right (by rw [encK_len]; omega), encK_len, show 32 + j - 32 = j by omega]
theorem encO_len (o : Op) : (encO o).length = 37 := by simp [encO, encK_len]
theorem encO_one (o : Op) : ∀ v ∈ encO o, v.oneCell' = true := by
 intro v hv
 simp only [encO, List.mem_cons, List.mem_append, List.not_mem_nil, or_false] at hv
 rcases hv with rfl | rfl | hv | rfl | rfl | rfl
 ·rfl
 ·rfl
 ·exact encK_one _ _ hv
 ·rfl
 ·rfl
 ·rfl
theorem OnBook.op {w W : World} {base q : Nat} {B : Book} {A1 : Option Addr} {c1 : Nat} {A2 : Option Addr} {c2 bx : Nat} {o : Op} (h : OnBook w W base q B A1 c1 A2 c2 bx (encO o) 36) :
  W.cell? ⟨bx, 0, none⟩ = some (.int .i64 o.kind) ∧ W.cell? ⟨bx, 1, none⟩ = some (.int .i64 o.node) ∧ W.cell? ⟨bx, 34, none⟩ = some (.int .i64 o.exp) ∧ W.cell? ⟨bx, 35, none⟩ = some (.string ⟨o.text.toArray⟩) ∧ W.cell? ⟨bx, 36, none⟩ = some (.int .i64 o.at_) := by
 refine ⟨?_, ?_, ?_, ?_, ?_⟩
 ·rw [cell_of_heap h.bx]; rfl
 ·rw [cell_of_heap h.bx]; rfl
 ·rw [cell_of_heap h.bx]; exact tailOfO o 0
 ·rw [cell_of_heap h.bx]; exact tailOfO o 1
 ·rw [cell_of_heap h.bx]; exact tailOfO o 2
theorem OnBook.start (w : World) {base q : Nat} {B : Book} {A1 : Option Addr} {c1 : Nat} {A2 : Option Addr} {c2 : Nat} (h : NextIs w base q B A1 c1 A2 c2) (hb : base ≤ w.heap.size) (cs : List Value) (T : TypeId) : OnBook w (w.alloc (.cells cs.toArray T)) base q B A1 c1 A2 c2 w.heap.size cs T :=
 ⟨h.below ((Below.refl _ w).alloc (Nat.le_refl _) _), heap_alloc_new w _, (Below.refl _ w).alloc (Nat.le_refl _) _, hb⟩
def zeroKey : Array Value := #[.int .u8 0, .int .u8 0, .int .u8 0, .int .u8 0, .int .u8 0, .int .u8 0, .int .u8 0, .int .u8 0, .int .u8 0, .int .u8 0, .int .u8 0, .int .u8 0, .int .u8 0, .int .u8 0, .int .u8 0, .int .u8 0, .int .u8 0, .int .u8 0, .int .u8 0, .int .u8 0, .int .u8 0, .int .u8 0, .int .u8 0, .int .u8 0, .int .u8 0, .int .u8 0, .int .u8 0, .int .u8 0, .int .u8 0, .int .u8 0, .int .u8 0, .int .u8 0]
theorem zeroKey_eq : (encK key0).toArray = zeroKey := rfl
theorem taken_len (B : Book) (h : Few B) : (takenB B).length ≤ 100 := by
 unfold takenB
 rw [List.length_append, List.length_map]
 have h1 := h.1; have h2 := h.2
 omega
set_option maxHeartbeats 4000000 in
set_option maxRecDepth 100000 in
theorem fresh_on (w : World) (base q : Nat) (B : Book) (A1 : Option Addr) (c1 : Nat) (A2 : Option Addr) (c2 : Nat) (o : Op) (more : Bool) (h : NextIs w base q B A1 c1 A2 c2) (hf : Few B) (hb : base ≤ w.heap.size) (R : Ending → Prop) (hR : ∀ n, freshOf B o more = n → R (.returned (.int .i64 n))) :
  Calls Tryz.prog 117 #[.pointer (some ⟨q, 0, none⟩), .agg (encO o).toArray, .bool more] w fun e w' => R e ∧ OnBook w w' base q B A1 c1 A2 c2 w.heap.size (encO o) 36 := by
 obtain ⟨W0, hW0⟩ : ∃ W0, W0 = w.alloc (.cells (encO o).toArray 36) := ⟨_, rfl⟩
 have HS : Aside0 (OnBook w W0 base q B A1 c1 A2 c2 w.heap.size (encO o) 36) := ⟨by rw [hW0]; exact OnBook.start w h hb _ _⟩
 have HF := Aside0.mk hf
 have HLEN := Aside0.mk (taken_len B hf)
 have l1 := Aside0.mk (run_loadAtK Tryz.prog W0 34 32 Tryz.isAgg34 Tryz.sizeOf34 w.heap.size 2 (encK o.key) (encK_len _) (fun j v hj => by rw [cell_of_heap HS.out.bx]; exact keyOfO o j v hj))
 have he := eqlK o.key key0
 have hgd := fun op a b w => guardK op a b o.key key0 w
 rw [zeroKey_eq] at he hgd
 simp only [zeroKey] at he hgd
 have LOAD := l1
 clear h hf
 by_cases k0 : o.key = key0
 ·have hfr : freshOf B o more = 221 := by unfold freshOf; rw [if_pos (.inl k0)]
  have HE := Aside0.mk (show R (.returned (.int .i64 221)) from hR _ hfr)
  rw [show decide (o.key = key0) = true from decide_eq_true k0] at he
  obtain ⟨X, hX⟩ : ∃ X, X = (encK o.key).toArray := ⟨_, rfl⟩
  obtain ⟨Y, hY⟩ : ∃ Y, Y = (encO o).toArray := ⟨_, rfl⟩
  rw [← hX] at he hgd l1
  rw [← hY] at hW0 ⊢
  clear hX hY k0 hfr LOAD
  go_enter Tryz.func117, Tryz.ntmps117
  go_upto_region 1 with fail
  rw [← hW0]
  clear hW0
  go_wp2_with ((with_reducible refine at_load 34 (.tmp 8) ?_); refine wpList_loadK rfl 34 (.tmp 8) rfl _ rfl _ l1.out ?_)
  go_ret
  exact ⟨HE.out, HS.out⟩
 ·rw [show decide (o.key = key0) = false from decide_eq_false k0] at he
  have K0 := Aside0.mk k0
  clear k0
  go_enter Tryz.func117, Tryz.ntmps117
  go_upto_region 1 with fail
  rw [← hW0]
  clear hW0
  go_wp2_with ((with_reducible refine at_load 34 (.tmp 8) ?_); refine wpList_loadK rfl 34 (.tmp 8) rfl _ rfl _ l1.out ?_)
  have HT := HS
  clear l1 LOAD he hgd
  refine start_ (n := 8) (S := fun W => OnBook w W base q B A1 c1 A2 c2 w.heap.size (encO o) 36) (ds := []) #[false, false, false, false, false, false, false, false] (by kernel_rfl) rfl rfl HT.out.drew (fun hHeld => ?_)
  generalize World.drew _ = w5 at hHeld ⊢
  refine pure_ (i := 0) (N := (some 12)) (v := ?_) (a' := ?_) #[true, false, false, false, false, false, false, false] rfl rfl (by kernel_rfl) (fun _ _ _ h => h) (Or.inl ⟨by rfl, ?_⟩) ?_ ?_
  rotate_left
  ·intro w'
   go_simp
   with_reducible rfl
  rotate_left
  ·simp only [Act.put, List.setIfInBounds_toArray, List.set_cons_zero, List.set_cons_succ, i64_w, i32_w]
   rfl
  refine pure_ (i := 1) (N := (some 13)) (v := ?_) (a' := ?_) #[true, true, false, false, false, false, false, false] rfl rfl (by kernel_rfl) (fun _ _ _ h => h) (Or.inl ⟨by rfl, ?_⟩) ?_ ?_
  rotate_left
  ·intro w'
   go_simp
   with_reducible rfl
  rotate_left
  ·simp only [Act.put, List.setIfInBounds_toArray, List.set_cons_zero, List.set_cons_succ, i64_w, i32_w]
   rfl
  refine pure_ (i := 4) (N := (some 16)) (v := ?_) (a' := ?_) #[true, true, false, false, true, false, false, false] rfl rfl (by kernel_rfl) (fun _ _ _ h => h) (Or.inl ⟨by rfl, ?_⟩) ?_ ?_
  rotate_left
  ·intro w'
   go_simp
   with_reducible rfl
  rotate_left
  ·simp only [Act.put, List.setIfInBounds_toArray, List.set_cons_zero, List.set_cons_succ, i64_w, i32_w]
   rfl
  refine take_ (i := 2) (N := (some 14)) (v := _) (a' := ?_) #[true, true, true, false, true, false, false, false] rfl rfl (by kernel_rfl) (fun _ _ _ h => h) (Or.inl ⟨by rfl, fun w' hs => yields_load 43 (.tmp 13) _ rfl _ _ rfl _ (run_loadAtK Tryz.prog w' 43 5 Tryz.isAgg43 Tryz.sizeOf43 q 0 (bookCells B A1 c1 A2 c2) rfl (cells_of_heap hs.nx.box))⟩) hHeld ?_ ?_
  rotate_left
  ·simp only [Act.put, List.setIfInBounds_toArray, List.set_cons_zero, List.set_cons_succ, i64_w, i32_w]
   rfl
  refine take_ (i := 5) (N := (some 17)) (v := _) (a' := ?_) #[true, true, true, false, true, true, false, false] rfl rfl (by kernel_rfl) (fun _ _ _ h => h) (Or.inl ⟨by rfl, fun w' hs => yields_load 34 (.tmp 16) _ rfl _ _ rfl _ (run_loadAtK Tryz.prog w' 34 32 Tryz.isAgg34 Tryz.sizeOf34 w.heap.size 2 (encK o.key) (encK_len _) (fun j v hj => by rw [cell_of_heap hs.bx]; exact keyOfO o j v hj))⟩) hHeld ?_ ?_
  rotate_left
  ·simp only [Act.put, List.setIfInBounds_toArray, List.set_cons_zero, List.set_cons_succ, i64_w, i32_w]
   rfl
  refine one_ (i := 3) (N := (some 15)) #[true, true, true, true, true, true, false, false] rfl rfl (by kernel_rfl) (by decide) (fun K hK => ?_)
  refine goes_ Tryz.func48 (by kernel_rfl) rfl #[.agg (bookCells B A1 c1 A2 c2).toArray] (by rfl) rfl rfl (by (try simp only [List.map_toArray, List.map_cons, List.map_nil]); first | done | rfl) ?_
  refine (taken_any B A1 A2 c1 c2 _ hHeld.nx.lists.src.1 hHeld.nx.lists.src.2 HF.out (bare_own hHeld.nx.lists.1)).mono ?_
  rintro e w5c ⟨A, c, rfl, ho, hb⟩
  refine ⟨_, rfl, ?_⟩
  have hS_ := hHeld.later hb
  have HO := Aside0.mk ho
  clear hb ho
  refine hK.out _ _ hS_ (fun hHeld => ?_)
  clear hK K
  refine norm_ (a' := ?_) ?_ ?_
  rotate_left
  ·show Act.put _ (some 15) _ = _
   simp only [Act.put, List.setIfInBounds_toArray, List.set_cons_zero, List.set_cons_succ, i64_w, i32_w]
   rfl
  refine one_ (i := 6) (N := (some 18)) #[true, true, true, true, true, true, true, false] rfl rfl (by kernel_rfl) (by decide) (fun K hK => ?_)
  refine goes_ Tryz.func148 (by kernel_rfl) rfl #[.slice A (takenB B).length c, .agg (encK o.key).toArray] (by rfl) rfl rfl (by (try simp only [List.map_toArray, List.map_cons, List.map_nil]); first | done | rfl) ?_
  refine (contains_any (takenB B) o.key A c w5.heap.size _ HO.out HLEN.out).mono ?_
  rintro e w5c ⟨rfl, hb⟩
  refine ⟨_, rfl, ?_⟩
  have hS_ := hHeld.later hb
  clear hb
  refine hK.out _ _ hS_ (fun hHeld => ?_)
  clear hK K
  refine norm_ (a' := ?_) ?_ ?_
  rotate_left
  ·show Act.put _ (some 18) _ = _
   simp only [Act.put, List.setIfInBounds_toArray, List.set_cons_zero, List.set_cons_succ, i64_w, i32_w]
   rfl
  refine pure_ (i := 7) (N := (some 7)) (v := ?_) (a' := ?_) #[true, true, true, true, true, true, true, true] rfl rfl (by kernel_rfl) (fun _ _ _ h => h) (Or.inl ⟨by rfl, ?_⟩) ?_ ?_
  rotate_left
  ·intro w'
   go_simp
   with_reducible rfl
  rotate_left
  ·simp only [Act.put, List.setIfInBounds_toArray, List.set_cons_zero, List.set_cons_succ, i64_w, i32_w]
   rfl
  refine done_ (by kernel_rfl) ?_
  have HU := Aside0.mk hHeld
  clear hHeld
  by_cases km : o.key ∈ takenB B
  ·have HE := Aside0.mk (show R (.returned (.int .i64 221)) from hR _ (by unfold freshOf; rw [if_pos (.inr km)]))
   rw [show decide (o.key ∈ takenB B) = true from decide_eq_true km]
   clear km
   go_wp2
   go_ret
   exact ⟨HE.out, HU.out⟩
  ·have KM := Aside0.mk km
   rw [show decide (o.key ∈ takenB B) = false from decide_eq_false km]
   clear km
   by_cases e1 : o.exp < 1
   ·have HE := Aside0.mk (show R (.returned (.int .i64 9)) from hR _ (by unfold freshOf; rw [if_neg (fun hc => hc.elim K0.out KM.out), if_pos (.inl e1)]))
    have d1 : decide (o.exp < 1) = true := decide_eq_true e1
    clear e1
    go_wp2_with fail
    refine start_ (n := 19) (S := fun W => OnBook w W base q B A1 c1 A2 c2 w.heap.size (encO o) 36) (ds := []) #[false, false, false, false, false, false, false, false, false, false, false, false, false, false, false, false, false, false, false] (by kernel_rfl) rfl rfl HU.out.drew (fun hHeld => ?_)
    generalize World.drew _ = w7 at hHeld ⊢
    refine pure_ (i := 0) (N := (some 20)) (v := ?_) (a' := ?_) #[true, false, false, false, false, false, false, false, false, false, false, false, false, false, false, false, false, false, false] rfl rfl (by kernel_rfl) (fun _ _ _ h => h) (Or.inl ⟨by rfl, ?_⟩) ?_ ?_
    rotate_left
    ·intro w'
     go_simp
     with_reducible rfl
    rotate_left
    ·simp only [Act.put, List.setIfInBounds_toArray, List.set_cons_zero, List.set_cons_succ, i64_w, i32_w]
     rfl
    refine take_ (i := 1) (N := (some 21)) (v := ?_) (a' := ?_) #[true, true, false, false, false, false, false, false, false, false, false, false, false, false, false, false, false, false, false] rfl rfl (by kernel_rfl) (fun _ _ _ h => h) (Or.inl ⟨by rfl, ?_⟩) hHeld ?_ ?_
    rotate_left
    ·rintro w' hs
     obtain ⟨o0, o1, o34, o35, o36⟩ := hs.op
     go_simp
     with_reducible rfl
    rotate_left
    ·simp only [Act.put, List.setIfInBounds_toArray, List.set_cons_zero, List.set_cons_succ, i64_w, i32_w]
     rfl
    refine pure_ (i := 2) (N := (some 22)) (v := ?_) (a' := ?_) #[true, true, true, false, false, false, false, false, false, false, false, false, false, false, false, false, false, false, false] rfl rfl (by kernel_rfl) (fun _ _ _ h => h) (Or.inl ⟨by rfl, ?_⟩) ?_ ?_
    rotate_left
    ·intro w'
     go_simp
     with_reducible rfl
    rotate_left
    ·simp only [Act.put, List.setIfInBounds_toArray, List.set_cons_zero, List.set_cons_succ, i64_w, i32_w]
     rfl
    refine pure_ (i := 3) (N := (some 23)) (v := ?_) (a' := ?_) #[true, true, true, true, false, false, false, false, false, false, false, false, false, false, false, false, false, false, false] rfl rfl (by kernel_rfl) (fun _ _ _ h => h) (Or.inl ⟨by rfl, ?_⟩) ?_ ?_
    rotate_left
    ·intro w'
     go_simp
     with_reducible rfl
    rotate_left
    ·simp only [Act.put, List.setIfInBounds_toArray, List.set_cons_zero, List.set_cons_succ, i64_w, i32_w]
     rfl
    refine pure_ (i := 4) (N := (some 24)) (v := undef) (a' := ?_) #[true, true, true, true, true, false, false, false, false, false, false, false, false, false, false, false, false, false, false] rfl rfl (by kernel_rfl) (fun _ _ _ h => h) (Or.inr ⟨by rfl, rfl⟩) ?_ ?_
    rotate_left
    ·simp only [Act.put, List.setIfInBounds_toArray, List.set_cons_zero, List.set_cons_succ, i64_w, i32_w]
     rfl
    refine pure_ (i := 5) (N := (some 25)) (v := undef) (a' := ?_) #[true, true, true, true, true, true, false, false, false, false, false, false, false, false, false, false, false, false, false] rfl rfl (by kernel_rfl) (fun _ _ _ h => h) (Or.inr ⟨by rfl, rfl⟩) ?_ ?_
    rotate_left
    ·simp only [Act.put, List.setIfInBounds_toArray, List.set_cons_zero, List.set_cons_succ, i64_w, i32_w]
     rfl
    refine pure_ (i := 6) (N := (some 26)) (v := undef) (a' := ?_) #[true, true, true, true, true, true, true, false, false, false, false, false, false, false, false, false, false, false, false] rfl rfl (by kernel_rfl) (fun _ _ _ h => h) (Or.inr ⟨by rfl, rfl⟩) ?_ ?_
    rotate_left
    ·simp only [Act.put, List.setIfInBounds_toArray, List.set_cons_zero, List.set_cons_succ, i64_w, i32_w]
     rfl
    refine pure_ (i := 7) (N := (some 27)) (v := undef) (a' := ?_) #[true, true, true, true, true, true, true, true, false, false, false, false, false, false, false, false, false, false, false] rfl rfl (by kernel_rfl) (fun _ _ _ h => h) (Or.inr ⟨by rfl, rfl⟩) ?_ ?_
    rotate_left
    ·simp only [Act.put, List.setIfInBounds_toArray, List.set_cons_zero, List.set_cons_succ, i64_w, i32_w]
     rfl
    refine pure_ (i := 8) (N := (some 28)) (v := ?_) (a' := ?_) #[true, true, true, true, true, true, true, true, true, false, false, false, false, false, false, false, false, false, false] rfl rfl (by kernel_rfl) (fun _ _ _ h => h) (Or.inl ⟨by rfl, ?_⟩) ?_ ?_
    rotate_left
    ·intro w'
     go_simp
     with_reducible rfl
    rotate_left
    ·simp only [Act.put, List.setIfInBounds_toArray, List.set_cons_zero, List.set_cons_succ, i64_w, i32_w]
     rfl
    refine pure_ (i := 9) (N := (some 29)) (v := ?_) (a' := ?_) #[true, true, true, true, true, true, true, true, true, true, false, false, false, false, false, false, false, false, false] rfl rfl (by kernel_rfl) (fun _ _ _ h => h) (Or.inl ⟨by rfl, ?_⟩) ?_ ?_
    rotate_left
    ·intro w'
     go_simp
     with_reducible rfl
    rotate_left
    ·simp only [Act.put, List.setIfInBounds_toArray, List.set_cons_zero, List.set_cons_succ, i64_w, i32_w]
     rfl
    refine pure_ (i := 10) (N := (some 30)) (v := undef) (a' := ?_) #[true, true, true, true, true, true, true, true, true, true, true, false, false, false, false, false, false, false, false] rfl rfl (by kernel_rfl) (fun _ _ _ h => h) (Or.inr ⟨by rfl, rfl⟩) ?_ ?_
    rotate_left
    ·simp only [Act.put, List.setIfInBounds_toArray, List.set_cons_zero, List.set_cons_succ, i64_w, i32_w]
     rfl
    refine pure_ (i := 11) (N := (some 31)) (v := undef) (a' := ?_) #[true, true, true, true, true, true, true, true, true, true, true, true, false, false, false, false, false, false, false] rfl rfl (by kernel_rfl) (fun _ _ _ h => h) (Or.inr ⟨by rfl, rfl⟩) ?_ ?_
    rotate_left
    ·simp only [Act.put, List.setIfInBounds_toArray, List.set_cons_zero, List.set_cons_succ, i64_w, i32_w]
     rfl
    refine pure_ (i := 12) (N := (some 32)) (v := undef) (a' := ?_) #[true, true, true, true, true, true, true, true, true, true, true, true, true, false, false, false, false, false, false] rfl rfl (by kernel_rfl) (fun _ _ _ h => h) (Or.inr ⟨by rfl, rfl⟩) ?_ ?_
    rotate_left
    ·simp only [Act.put, List.setIfInBounds_toArray, List.set_cons_zero, List.set_cons_succ, i64_w, i32_w]
     rfl
    refine pure_ (i := 13) (N := (some 33)) (v := undef) (a' := ?_) #[true, true, true, true, true, true, true, true, true, true, true, true, true, true, false, false, false, false, false] rfl rfl (by kernel_rfl) (fun _ _ _ h => h) (Or.inr ⟨by rfl, rfl⟩) ?_ ?_
    rotate_left
    ·simp only [Act.put, List.setIfInBounds_toArray, List.set_cons_zero, List.set_cons_succ, i64_w, i32_w]
     rfl
    refine pure_ (i := 14) (N := (some 34)) (v := undef) (a' := ?_) #[true, true, true, true, true, true, true, true, true, true, true, true, true, true, true, false, false, false, false] rfl rfl (by kernel_rfl) (fun _ _ _ h => h) (Or.inr ⟨by rfl, rfl⟩) ?_ ?_
    rotate_left
    ·simp only [Act.put, List.setIfInBounds_toArray, List.set_cons_zero, List.set_cons_succ, i64_w, i32_w]
     rfl
    refine pure_ (i := 15) (N := (some 35)) (v := undef) (a' := ?_) #[true, true, true, true, true, true, true, true, true, true, true, true, true, true, true, true, false, false, false] rfl rfl (by kernel_rfl) (fun _ _ _ h => h) (Or.inr ⟨by rfl, rfl⟩) ?_ ?_
    rotate_left
    ·simp only [Act.put, List.setIfInBounds_toArray, List.set_cons_zero, List.set_cons_succ, i64_w, i32_w]
     rfl
    refine pure_ (i := 16) (N := (some 36)) (v := undef) (a' := ?_) #[true, true, true, true, true, true, true, true, true, true, true, true, true, true, true, true, true, false, false] rfl rfl (by kernel_rfl) (fun _ _ _ h => h) (Or.inr ⟨by rfl, rfl⟩) ?_ ?_
    rotate_left
    ·simp only [Act.put, List.setIfInBounds_toArray, List.set_cons_zero, List.set_cons_succ, i64_w, i32_w]
     rfl
    refine pure_ (i := 17) (N := (some 37)) (v := ?_) (a' := ?_) #[true, true, true, true, true, true, true, true, true, true, true, true, true, true, true, true, true, true, false] rfl rfl (by kernel_rfl) (fun _ _ _ h => h) (Or.inl ⟨by rfl, ?_⟩) ?_ ?_
    rotate_left
    ·intro w'
     go_simp
     with_reducible rfl
    rotate_left
    ·simp only [Act.put, List.setIfInBounds_toArray, List.set_cons_zero, List.set_cons_succ, i64_w, i32_w]
     rfl
    refine pure_ (i := 18) (N := (some 19)) (v := ?_) (a' := ?_) #[true, true, true, true, true, true, true, true, true, true, true, true, true, true, true, true, true, true, true] rfl rfl (by kernel_rfl) (fun _ _ _ h => h) (Or.inl ⟨by rfl, ?_⟩) ?_ ?_
    rotate_left
    ·intro w'
     go_simp
     with_reducible rfl
    rotate_left
    ·simp only [Act.put, List.setIfInBounds_toArray, List.set_cons_zero, List.set_cons_succ, i64_w, i32_w]
     rfl
    refine done_ (by kernel_rfl) ?_
    go_wp2
    go_ret
    exact ⟨HE.out, hHeld⟩
   ·have d1 : decide (o.exp < 1) = false := decide_eq_false e1
    have E1 := Aside0.mk e1
    clear e1
    cases hnum : number o.exp with
    | false =>
     have HE := Aside0.mk (show R (.returned (.int .i64 9)) from hR _ (by unfold freshOf; rw [if_neg (fun hc => hc.elim K0.out KM.out), if_pos (.inr (.inl hnum))]))
     go_wp2_with fail
     refine start_ (n := 19) (S := fun W => OnBook w W base q B A1 c1 A2 c2 w.heap.size (encO o) 36) (ds := []) #[false, false, false, false, false, false, false, false, false, false, false, false, false, false, false, false, false, false, false] (by kernel_rfl) rfl rfl HU.out.drew (fun hHeld => ?_)
     generalize World.drew _ = w7 at hHeld ⊢
     refine pure_ (i := 0) (N := (some 20)) (v := ?_) (a' := ?_) #[true, false, false, false, false, false, false, false, false, false, false, false, false, false, false, false, false, false, false] rfl rfl (by kernel_rfl) (fun _ _ _ h => h) (Or.inl ⟨by rfl, ?_⟩) ?_ ?_
     rotate_left
     ·intro w'
      go_simp
      with_reducible rfl
     rotate_left
     ·simp only [Act.put, List.setIfInBounds_toArray, List.set_cons_zero, List.set_cons_succ, i64_w, i32_w]
      rfl
     refine take_ (i := 1) (N := (some 21)) (v := ?_) (a' := ?_) #[true, true, false, false, false, false, false, false, false, false, false, false, false, false, false, false, false, false, false] rfl rfl (by kernel_rfl) (fun _ _ _ h => h) (Or.inl ⟨by rfl, ?_⟩) hHeld ?_ ?_
     rotate_left
     ·rintro w' hs
      obtain ⟨o0, o1, o34, o35, o36⟩ := hs.op
      go_simp
      with_reducible rfl
     rotate_left
     ·simp only [Act.put, List.setIfInBounds_toArray, List.set_cons_zero, List.set_cons_succ, i64_w, i32_w]
      rfl
     refine pure_ (i := 2) (N := (some 22)) (v := ?_) (a' := ?_) #[true, true, true, false, false, false, false, false, false, false, false, false, false, false, false, false, false, false, false] rfl rfl (by kernel_rfl) (fun _ _ _ h => h) (Or.inl ⟨by rfl, ?_⟩) ?_ ?_
     rotate_left
     ·intro w'
      go_simp
      with_reducible rfl
     rotate_left
     ·simp only [Act.put, List.setIfInBounds_toArray, List.set_cons_zero, List.set_cons_succ, i64_w, i32_w]
      rfl
     refine pure_ (i := 3) (N := (some 23)) (v := ?_) (a' := ?_) #[true, true, true, true, false, false, false, false, false, false, false, false, false, false, false, false, false, false, false] rfl rfl (by kernel_rfl) (fun _ _ _ h => h) (Or.inl ⟨by rfl, ?_⟩) ?_ ?_
     rotate_left
     ·intro w'
      go_simp
      with_reducible rfl
     rotate_left
     ·simp only [Act.put, List.setIfInBounds_toArray, List.set_cons_zero, List.set_cons_succ, i64_w, i32_w]
      rfl
     refine pure_ (i := 4) (N := (some 24)) (v := ?_) (a' := ?_) #[true, true, true, true, true, false, false, false, false, false, false, false, false, false, false, false, false, false, false] rfl rfl (by kernel_rfl) (fun _ _ _ h => h) (Or.inl ⟨by rfl, ?_⟩) ?_ ?_
     rotate_left
     ·intro w'
      go_simp
      with_reducible rfl
     rotate_left
     ·simp only [Act.put, List.setIfInBounds_toArray, List.set_cons_zero, List.set_cons_succ, i64_w, i32_w]
      rfl
     refine take_ (i := 5) (N := (some 25)) (v := ?_) (a' := ?_) #[true, true, true, true, true, true, false, false, false, false, false, false, false, false, false, false, false, false, false] rfl rfl (by kernel_rfl) (fun _ _ _ h => h) (Or.inl ⟨by rfl, ?_⟩) hHeld ?_ ?_
     rotate_left
     ·rintro w' hs
      obtain ⟨o0, o1, o34, o35, o36⟩ := hs.op
      go_simp
      with_reducible rfl
     rotate_left
     ·simp only [Act.put, List.setIfInBounds_toArray, List.set_cons_zero, List.set_cons_succ, i64_w, i32_w]
      rfl
     refine one_ (i := 6) (N := (some 26)) #[true, true, true, true, true, true, true, false, false, false, false, false, false, false, false, false, false, false, false] rfl rfl (by kernel_rfl) (by decide) (fun K hK => ?_)
     refine goes_ Tryz.func47 (by kernel_rfl) rfl #[.int .i64 o.exp] (by rfl) rfl rfl (by (try simp only [List.map_toArray, List.map_cons, List.map_nil]); first | done | rfl) ?_
     refine (number_any o.exp _).mono ?_
     rintro e w7c ⟨rfl, rfl⟩
     refine ⟨_, rfl, ?_⟩
     have hS_ := hHeld
     refine hK.out _ _ hS_ (fun hHeld => ?_)
     clear hK K
     refine norm_ (a' := ?_) ?_ ?_
     rotate_left
     ·show Act.put _ (some 26) _ = _
      simp only [Act.put, List.setIfInBounds_toArray, List.set_cons_zero, List.set_cons_succ, i64_w, i32_w]
      rfl
     refine pure_ (i := 7) (N := (some 27)) (v := ?_) (a' := ?_) #[true, true, true, true, true, true, true, true, false, false, false, false, false, false, false, false, false, false, false] rfl rfl (by kernel_rfl) (fun _ _ _ h => h) (Or.inl ⟨by rfl, ?_⟩) ?_ ?_
     rotate_left
     ·intro w'
      go_simp
      with_reducible rfl
     rotate_left
     ·simp only [Act.put, List.setIfInBounds_toArray, List.set_cons_zero, List.set_cons_succ, i64_w, i32_w]
      rfl
     refine pure_ (i := 8) (N := (some 28)) (v := ?_) (a' := ?_) #[true, true, true, true, true, true, true, true, true, false, false, false, false, false, false, false, false, false, false] rfl rfl (by kernel_rfl) (fun _ _ _ h => h) (Or.inl ⟨by rfl, ?_⟩) ?_ ?_
     rotate_left
     ·intro w'
      go_simp
      with_reducible rfl
     rotate_left
     ·simp only [Act.put, List.setIfInBounds_toArray, List.set_cons_zero, List.set_cons_succ, i64_w, i32_w]
      rfl
     refine pure_ (i := 9) (N := (some 29)) (v := ?_) (a' := ?_) #[true, true, true, true, true, true, true, true, true, true, false, false, false, false, false, false, false, false, false] rfl rfl (by kernel_rfl) (fun _ _ _ h => h) (Or.inl ⟨by rfl, ?_⟩) ?_ ?_
     rotate_left
     ·intro w'
      go_simp
      with_reducible rfl
     rotate_left
     ·simp only [Act.put, List.setIfInBounds_toArray, List.set_cons_zero, List.set_cons_succ, i64_w, i32_w]
      rfl
     refine pure_ (i := 10) (N := (some 30)) (v := undef) (a' := ?_) #[true, true, true, true, true, true, true, true, true, true, true, false, false, false, false, false, false, false, false] rfl rfl (by kernel_rfl) (fun _ _ _ h => h) (Or.inr ⟨by rfl, rfl⟩) ?_ ?_
     rotate_left
     ·simp only [Act.put, List.setIfInBounds_toArray, List.set_cons_zero, List.set_cons_succ, i64_w, i32_w]
      rfl
     refine pure_ (i := 11) (N := (some 31)) (v := undef) (a' := ?_) #[true, true, true, true, true, true, true, true, true, true, true, true, false, false, false, false, false, false, false] rfl rfl (by kernel_rfl) (fun _ _ _ h => h) (Or.inr ⟨by rfl, rfl⟩) ?_ ?_
     rotate_left
     ·simp only [Act.put, List.setIfInBounds_toArray, List.set_cons_zero, List.set_cons_succ, i64_w, i32_w]
      rfl
     refine pure_ (i := 12) (N := (some 32)) (v := undef) (a' := ?_) #[true, true, true, true, true, true, true, true, true, true, true, true, true, false, false, false, false, false, false] rfl rfl (by kernel_rfl) (fun _ _ _ h => h) (Or.inr ⟨by rfl, rfl⟩) ?_ ?_
     rotate_left
     ·simp only [Act.put, List.setIfInBounds_toArray, List.set_cons_zero, List.set_cons_succ, i64_w, i32_w]
      rfl
     refine pure_ (i := 13) (N := (some 33)) (v := undef) (a' := ?_) #[true, true, true, true, true, true, true, true, true, true, true, true, true, true, false, false, false, false, false] rfl rfl (by kernel_rfl) (fun _ _ _ h => h) (Or.inr ⟨by rfl, rfl⟩) ?_ ?_
     rotate_left
     ·simp only [Act.put, List.setIfInBounds_toArray, List.set_cons_zero, List.set_cons_succ, i64_w, i32_w]
      rfl
     refine pure_ (i := 14) (N := (some 34)) (v := undef) (a' := ?_) #[true, true, true, true, true, true, true, true, true, true, true, true, true, true, true, false, false, false, false] rfl rfl (by kernel_rfl) (fun _ _ _ h => h) (Or.inr ⟨by rfl, rfl⟩) ?_ ?_
     rotate_left
     ·simp only [Act.put, List.setIfInBounds_toArray, List.set_cons_zero, List.set_cons_succ, i64_w, i32_w]
      rfl
     refine pure_ (i := 15) (N := (some 35)) (v := undef) (a' := ?_) #[true, true, true, true, true, true, true, true, true, true, true, true, true, true, true, true, false, false, false] rfl rfl (by kernel_rfl) (fun _ _ _ h => h) (Or.inr ⟨by rfl, rfl⟩) ?_ ?_
     rotate_left
     ·simp only [Act.put, List.setIfInBounds_toArray, List.set_cons_zero, List.set_cons_succ, i64_w, i32_w]
      rfl
     refine pure_ (i := 16) (N := (some 36)) (v := undef) (a' := ?_) #[true, true, true, true, true, true, true, true, true, true, true, true, true, true, true, true, true, false, false] rfl rfl (by kernel_rfl) (fun _ _ _ h => h) (Or.inr ⟨by rfl, rfl⟩) ?_ ?_
     rotate_left
     ·simp only [Act.put, List.setIfInBounds_toArray, List.set_cons_zero, List.set_cons_succ, i64_w, i32_w]
      rfl
     refine pure_ (i := 17) (N := (some 37)) (v := ?_) (a' := ?_) #[true, true, true, true, true, true, true, true, true, true, true, true, true, true, true, true, true, true, false] rfl rfl (by kernel_rfl) (fun _ _ _ h => h) (Or.inl ⟨by rfl, ?_⟩) ?_ ?_
     rotate_left
     ·intro w'
      go_simp
      with_reducible rfl
     rotate_left
     ·simp only [Act.put, List.setIfInBounds_toArray, List.set_cons_zero, List.set_cons_succ, i64_w, i32_w]
      rfl
     refine pure_ (i := 18) (N := (some 19)) (v := ?_) (a' := ?_) #[true, true, true, true, true, true, true, true, true, true, true, true, true, true, true, true, true, true, true] rfl rfl (by kernel_rfl) (fun _ _ _ h => h) (Or.inl ⟨by rfl, ?_⟩) ?_ ?_
     rotate_left
     ·intro w'
      go_simp
      with_reducible rfl
     rotate_left
     ·simp only [Act.put, List.setIfInBounds_toArray, List.set_cons_zero, List.set_cons_succ, i64_w, i32_w]
      rfl
     refine done_ (by kernel_rfl) ?_
     go_wp2
     go_ret
     exact ⟨HE.out, hHeld⟩
    | true =>
     by_cases e3 : o.exp ≤ B.clock
     ·have HE := Aside0.mk (show R (.returned (.int .i64 9)) from hR _ (by unfold freshOf; rw [if_neg (fun hc => hc.elim K0.out KM.out), if_pos (.inr (.inr e3))]))
      have d3 : decide (o.exp ≤ B.clock) = true := decide_eq_true e3
      clear e3
      go_wp2_with fail
      refine start_ (n := 19) (S := fun W => OnBook w W base q B A1 c1 A2 c2 w.heap.size (encO o) 36) (ds := []) #[false, false, false, false, false, false, false, false, false, false, false, false, false, false, false, false, false, false, false] (by kernel_rfl) rfl rfl HU.out.drew (fun hHeld => ?_)
      generalize World.drew _ = w7 at hHeld ⊢
      refine pure_ (i := 0) (N := (some 20)) (v := ?_) (a' := ?_) #[true, false, false, false, false, false, false, false, false, false, false, false, false, false, false, false, false, false, false] rfl rfl (by kernel_rfl) (fun _ _ _ h => h) (Or.inl ⟨by rfl, ?_⟩) ?_ ?_
      rotate_left
      ·intro w'
       go_simp
       with_reducible rfl
      rotate_left
      ·simp only [Act.put, List.setIfInBounds_toArray, List.set_cons_zero, List.set_cons_succ, i64_w, i32_w]
       rfl
      refine take_ (i := 1) (N := (some 21)) (v := ?_) (a' := ?_) #[true, true, false, false, false, false, false, false, false, false, false, false, false, false, false, false, false, false, false] rfl rfl (by kernel_rfl) (fun _ _ _ h => h) (Or.inl ⟨by rfl, ?_⟩) hHeld ?_ ?_
      rotate_left
      ·rintro w' hs
       obtain ⟨o0, o1, o34, o35, o36⟩ := hs.op
       go_simp
       with_reducible rfl
      rotate_left
      ·simp only [Act.put, List.setIfInBounds_toArray, List.set_cons_zero, List.set_cons_succ, i64_w, i32_w]
       rfl
      refine pure_ (i := 2) (N := (some 22)) (v := ?_) (a' := ?_) #[true, true, true, false, false, false, false, false, false, false, false, false, false, false, false, false, false, false, false] rfl rfl (by kernel_rfl) (fun _ _ _ h => h) (Or.inl ⟨by rfl, ?_⟩) ?_ ?_
      rotate_left
      ·intro w'
       go_simp
       with_reducible rfl
      rotate_left
      ·simp only [Act.put, List.setIfInBounds_toArray, List.set_cons_zero, List.set_cons_succ, i64_w, i32_w]
       rfl
      refine pure_ (i := 3) (N := (some 23)) (v := ?_) (a' := ?_) #[true, true, true, true, false, false, false, false, false, false, false, false, false, false, false, false, false, false, false] rfl rfl (by kernel_rfl) (fun _ _ _ h => h) (Or.inl ⟨by rfl, ?_⟩) ?_ ?_
      rotate_left
      ·intro w'
       go_simp
       with_reducible rfl
      rotate_left
      ·simp only [Act.put, List.setIfInBounds_toArray, List.set_cons_zero, List.set_cons_succ, i64_w, i32_w]
       rfl
      refine pure_ (i := 4) (N := (some 24)) (v := ?_) (a' := ?_) #[true, true, true, true, true, false, false, false, false, false, false, false, false, false, false, false, false, false, false] rfl rfl (by kernel_rfl) (fun _ _ _ h => h) (Or.inl ⟨by rfl, ?_⟩) ?_ ?_
      rotate_left
      ·intro w'
       go_simp
       with_reducible rfl
      rotate_left
      ·simp only [Act.put, List.setIfInBounds_toArray, List.set_cons_zero, List.set_cons_succ, i64_w, i32_w]
       rfl
      refine take_ (i := 5) (N := (some 25)) (v := ?_) (a' := ?_) #[true, true, true, true, true, true, false, false, false, false, false, false, false, false, false, false, false, false, false] rfl rfl (by kernel_rfl) (fun _ _ _ h => h) (Or.inl ⟨by rfl, ?_⟩) hHeld ?_ ?_
      rotate_left
      ·rintro w' hs
       obtain ⟨o0, o1, o34, o35, o36⟩ := hs.op
       go_simp
       with_reducible rfl
      rotate_left
      ·simp only [Act.put, List.setIfInBounds_toArray, List.set_cons_zero, List.set_cons_succ, i64_w, i32_w]
       rfl
      refine one_ (i := 6) (N := (some 26)) #[true, true, true, true, true, true, true, false, false, false, false, false, false, false, false, false, false, false, false] rfl rfl (by kernel_rfl) (by decide) (fun K hK => ?_)
      refine goes_ Tryz.func47 (by kernel_rfl) rfl #[.int .i64 o.exp] (by rfl) rfl rfl (by (try simp only [List.map_toArray, List.map_cons, List.map_nil]); first | done | rfl) ?_
      refine (number_any o.exp _).mono ?_
      rintro e w7c ⟨rfl, rfl⟩
      refine ⟨_, rfl, ?_⟩
      have hS_ := hHeld
      refine hK.out _ _ hS_ (fun hHeld => ?_)
      clear hK K
      refine norm_ (a' := ?_) ?_ ?_
      rotate_left
      ·show Act.put _ (some 26) _ = _
       simp only [Act.put, List.setIfInBounds_toArray, List.set_cons_zero, List.set_cons_succ, i64_w, i32_w]
       rfl
      refine pure_ (i := 7) (N := (some 27)) (v := ?_) (a' := ?_) #[true, true, true, true, true, true, true, true, false, false, false, false, false, false, false, false, false, false, false] rfl rfl (by kernel_rfl) (fun _ _ _ h => h) (Or.inl ⟨by rfl, ?_⟩) ?_ ?_
      rotate_left
      ·intro w'
       go_simp
       with_reducible rfl
      rotate_left
      ·simp only [Act.put, List.setIfInBounds_toArray, List.set_cons_zero, List.set_cons_succ, i64_w, i32_w]
       rfl
      refine pure_ (i := 8) (N := (some 28)) (v := ?_) (a' := ?_) #[true, true, true, true, true, true, true, true, true, false, false, false, false, false, false, false, false, false, false] rfl rfl (by kernel_rfl) (fun _ _ _ h => h) (Or.inl ⟨by rfl, ?_⟩) ?_ ?_
      rotate_left
      ·intro w'
       go_simp
       with_reducible rfl
      rotate_left
      ·simp only [Act.put, List.setIfInBounds_toArray, List.set_cons_zero, List.set_cons_succ, i64_w, i32_w]
       rfl
      refine pure_ (i := 9) (N := (some 29)) (v := ?_) (a' := ?_) #[true, true, true, true, true, true, true, true, true, true, false, false, false, false, false, false, false, false, false] rfl rfl (by kernel_rfl) (fun _ _ _ h => h) (Or.inl ⟨by rfl, ?_⟩) ?_ ?_
      rotate_left
      ·intro w'
       go_simp
       with_reducible rfl
      rotate_left
      ·simp only [Act.put, List.setIfInBounds_toArray, List.set_cons_zero, List.set_cons_succ, i64_w, i32_w]
       rfl
      refine pure_ (i := 10) (N := (some 30)) (v := ?_) (a' := ?_) #[true, true, true, true, true, true, true, true, true, true, true, false, false, false, false, false, false, false, false] rfl rfl (by kernel_rfl) (fun _ _ _ h => h) (Or.inl ⟨by rfl, ?_⟩) ?_ ?_
      rotate_left
      ·intro w'
       go_simp
       with_reducible rfl
      rotate_left
      ·simp only [Act.put, List.setIfInBounds_toArray, List.set_cons_zero, List.set_cons_succ, i64_w, i32_w]
       rfl
      refine pure_ (i := 12) (N := (some 32)) (v := ?_) (a' := ?_) #[true, true, true, true, true, true, true, true, true, true, true, false, true, false, false, false, false, false, false] rfl rfl (by kernel_rfl) (fun _ _ _ h => h) (Or.inl ⟨by rfl, ?_⟩) ?_ ?_
      rotate_left
      ·intro w'
       go_simp
       with_reducible rfl
      rotate_left
      ·simp only [Act.put, List.setIfInBounds_toArray, List.set_cons_zero, List.set_cons_succ, i64_w, i32_w]
       rfl
      refine pure_ (i := 13) (N := (some 33)) (v := ?_) (a' := ?_) #[true, true, true, true, true, true, true, true, true, true, true, false, true, true, false, false, false, false, false] rfl rfl (by kernel_rfl) (fun _ _ _ h => h) (Or.inl ⟨by rfl, ?_⟩) ?_ ?_
      rotate_left
      ·intro w'
       go_simp
       with_reducible rfl
      rotate_left
      ·simp only [Act.put, List.setIfInBounds_toArray, List.set_cons_zero, List.set_cons_succ, i64_w, i32_w]
       rfl
      refine pure_ (i := 14) (N := (some 34)) (v := ?_) (a' := ?_) #[true, true, true, true, true, true, true, true, true, true, true, false, true, true, true, false, false, false, false] rfl rfl (by kernel_rfl) (fun _ _ _ h => h) (Or.inl ⟨by rfl, ?_⟩) ?_ ?_
      rotate_left
      ·intro w'
       go_simp
       with_reducible rfl
      rotate_left
      ·simp only [Act.put, List.setIfInBounds_toArray, List.set_cons_zero, List.set_cons_succ, i64_w, i32_w]
       rfl
      refine take_ (i := 11) (N := (some 31)) (v := ?_) (a' := ?_) #[true, true, true, true, true, true, true, true, true, true, true, true, true, true, true, false, false, false, false] rfl rfl (by kernel_rfl) (fun _ _ _ h => h) (Or.inl ⟨by rfl, ?_⟩) hHeld ?_ ?_
      rotate_left
      ·rintro w' hs
       obtain ⟨o0, o1, o34, o35, o36⟩ := hs.op
       go_simp
       with_reducible rfl
      rotate_left
      ·simp only [Act.put, List.setIfInBounds_toArray, List.set_cons_zero, List.set_cons_succ, i64_w, i32_w]
       rfl
      refine take_ (i := 15) (N := (some 35)) (v := ?_) (a' := ?_) #[true, true, true, true, true, true, true, true, true, true, true, true, true, true, true, true, false, false, false] rfl rfl (by kernel_rfl) (fun _ _ _ h => h) (Or.inl ⟨by rfl, ?_⟩) hHeld ?_ ?_
      rotate_left
      ·rintro w' hs
       obtain ⟨s0, s1, s2, s3, s4, sf⟩ := hs.nx.cells
       go_simp
       with_reducible rfl
      rotate_left
      ·simp only [Act.put, List.setIfInBounds_toArray, List.set_cons_zero, List.set_cons_succ, i64_w, i32_w]
       rfl
      refine pure_ (i := 16) (N := (some 36)) (v := ?_) (a' := ?_) #[true, true, true, true, true, true, true, true, true, true, true, true, true, true, true, true, true, false, false] rfl rfl (by kernel_rfl) (fun _ _ _ h => h) (Or.inl ⟨by rfl, ?_⟩) ?_ ?_
      rotate_left
      ·intro w'
       go_simp
       with_reducible rfl
      rotate_left
      ·simp only [Act.put, List.setIfInBounds_toArray, List.set_cons_zero, List.set_cons_succ, i64_w, i32_w]
       rfl
      refine pure_ (i := 17) (N := (some 37)) (v := ?_) (a' := ?_) #[true, true, true, true, true, true, true, true, true, true, true, true, true, true, true, true, true, true, false] rfl rfl (by kernel_rfl) (fun _ _ _ h => h) (Or.inl ⟨by rfl, ?_⟩) ?_ ?_
      rotate_left
      ·intro w'
       go_simp
       with_reducible rfl
      rotate_left
      ·simp only [Act.put, List.setIfInBounds_toArray, List.set_cons_zero, List.set_cons_succ, i64_w, i32_w]
       rfl
      refine pure_ (i := 18) (N := (some 19)) (v := ?_) (a' := ?_) #[true, true, true, true, true, true, true, true, true, true, true, true, true, true, true, true, true, true, true] rfl rfl (by kernel_rfl) (fun _ _ _ h => h) (Or.inl ⟨by rfl, ?_⟩) ?_ ?_
      rotate_left
      ·intro w'
       go_simp
       with_reducible rfl
      rotate_left
      ·simp only [Act.put, List.setIfInBounds_toArray, List.set_cons_zero, List.set_cons_succ, i64_w, i32_w]
       rfl
      refine done_ (by kernel_rfl) ?_
      go_wp2
      go_ret
      exact ⟨HE.out, hHeld⟩
     ·have HN3 := Aside0.mk (show ¬ (o.exp < 1 ∨ number o.exp = false ∨ o.exp ≤ B.clock) from fun hc => hc.elim E1.out (fun hc => hc.elim (fun h => by rw [hnum] at h; cases h) e3))
      have d3 : decide (o.exp ≤ B.clock) = false := decide_eq_false e3
      clear e3
      go_wp2_with fail
      refine start_ (n := 19) (S := fun W => OnBook w W base q B A1 c1 A2 c2 w.heap.size (encO o) 36) (ds := []) #[false, false, false, false, false, false, false, false, false, false, false, false, false, false, false, false, false, false, false] (by kernel_rfl) rfl rfl HU.out.drew (fun hHeld => ?_)
      generalize World.drew _ = w7 at hHeld ⊢
      refine pure_ (i := 0) (N := (some 20)) (v := ?_) (a' := ?_) #[true, false, false, false, false, false, false, false, false, false, false, false, false, false, false, false, false, false, false] rfl rfl (by kernel_rfl) (fun _ _ _ h => h) (Or.inl ⟨by rfl, ?_⟩) ?_ ?_
      rotate_left
      ·intro w'
       go_simp
       with_reducible rfl
      rotate_left
      ·simp only [Act.put, List.setIfInBounds_toArray, List.set_cons_zero, List.set_cons_succ, i64_w, i32_w]
       rfl
      refine take_ (i := 1) (N := (some 21)) (v := ?_) (a' := ?_) #[true, true, false, false, false, false, false, false, false, false, false, false, false, false, false, false, false, false, false] rfl rfl (by kernel_rfl) (fun _ _ _ h => h) (Or.inl ⟨by rfl, ?_⟩) hHeld ?_ ?_
      rotate_left
      ·rintro w' hs
       obtain ⟨o0, o1, o34, o35, o36⟩ := hs.op
       go_simp
       with_reducible rfl
      rotate_left
      ·simp only [Act.put, List.setIfInBounds_toArray, List.set_cons_zero, List.set_cons_succ, i64_w, i32_w]
       rfl
      refine pure_ (i := 2) (N := (some 22)) (v := ?_) (a' := ?_) #[true, true, true, false, false, false, false, false, false, false, false, false, false, false, false, false, false, false, false] rfl rfl (by kernel_rfl) (fun _ _ _ h => h) (Or.inl ⟨by rfl, ?_⟩) ?_ ?_
      rotate_left
      ·intro w'
       go_simp
       with_reducible rfl
      rotate_left
      ·simp only [Act.put, List.setIfInBounds_toArray, List.set_cons_zero, List.set_cons_succ, i64_w, i32_w]
       rfl
      refine pure_ (i := 3) (N := (some 23)) (v := ?_) (a' := ?_) #[true, true, true, true, false, false, false, false, false, false, false, false, false, false, false, false, false, false, false] rfl rfl (by kernel_rfl) (fun _ _ _ h => h) (Or.inl ⟨by rfl, ?_⟩) ?_ ?_
      rotate_left
      ·intro w'
       go_simp
       with_reducible rfl
      rotate_left
      ·simp only [Act.put, List.setIfInBounds_toArray, List.set_cons_zero, List.set_cons_succ, i64_w, i32_w]
       rfl
      refine pure_ (i := 4) (N := (some 24)) (v := ?_) (a' := ?_) #[true, true, true, true, true, false, false, false, false, false, false, false, false, false, false, false, false, false, false] rfl rfl (by kernel_rfl) (fun _ _ _ h => h) (Or.inl ⟨by rfl, ?_⟩) ?_ ?_
      rotate_left
      ·intro w'
       go_simp
       with_reducible rfl
      rotate_left
      ·simp only [Act.put, List.setIfInBounds_toArray, List.set_cons_zero, List.set_cons_succ, i64_w, i32_w]
       rfl
      refine take_ (i := 5) (N := (some 25)) (v := ?_) (a' := ?_) #[true, true, true, true, true, true, false, false, false, false, false, false, false, false, false, false, false, false, false] rfl rfl (by kernel_rfl) (fun _ _ _ h => h) (Or.inl ⟨by rfl, ?_⟩) hHeld ?_ ?_
      rotate_left
      ·rintro w' hs
       obtain ⟨o0, o1, o34, o35, o36⟩ := hs.op
       go_simp
       with_reducible rfl
      rotate_left
      ·simp only [Act.put, List.setIfInBounds_toArray, List.set_cons_zero, List.set_cons_succ, i64_w, i32_w]
       rfl
      refine one_ (i := 6) (N := (some 26)) #[true, true, true, true, true, true, true, false, false, false, false, false, false, false, false, false, false, false, false] rfl rfl (by kernel_rfl) (by decide) (fun K hK => ?_)
      refine goes_ Tryz.func47 (by kernel_rfl) rfl #[.int .i64 o.exp] (by rfl) rfl rfl (by (try simp only [List.map_toArray, List.map_cons, List.map_nil]); first | done | rfl) ?_
      refine (number_any o.exp _).mono ?_
      rintro e w7c ⟨rfl, rfl⟩
      refine ⟨_, rfl, ?_⟩
      have hS_ := hHeld
      refine hK.out _ _ hS_ (fun hHeld => ?_)
      clear hK K
      refine norm_ (a' := ?_) ?_ ?_
      rotate_left
      ·show Act.put _ (some 26) _ = _
       simp only [Act.put, List.setIfInBounds_toArray, List.set_cons_zero, List.set_cons_succ, i64_w, i32_w]
       rfl
      refine pure_ (i := 7) (N := (some 27)) (v := ?_) (a' := ?_) #[true, true, true, true, true, true, true, true, false, false, false, false, false, false, false, false, false, false, false] rfl rfl (by kernel_rfl) (fun _ _ _ h => h) (Or.inl ⟨by rfl, ?_⟩) ?_ ?_
      rotate_left
      ·intro w'
       go_simp
       with_reducible rfl
      rotate_left
      ·simp only [Act.put, List.setIfInBounds_toArray, List.set_cons_zero, List.set_cons_succ, i64_w, i32_w]
       rfl
      refine pure_ (i := 8) (N := (some 28)) (v := ?_) (a' := ?_) #[true, true, true, true, true, true, true, true, true, false, false, false, false, false, false, false, false, false, false] rfl rfl (by kernel_rfl) (fun _ _ _ h => h) (Or.inl ⟨by rfl, ?_⟩) ?_ ?_
      rotate_left
      ·intro w'
       go_simp
       with_reducible rfl
      rotate_left
      ·simp only [Act.put, List.setIfInBounds_toArray, List.set_cons_zero, List.set_cons_succ, i64_w, i32_w]
       rfl
      refine pure_ (i := 9) (N := (some 29)) (v := ?_) (a' := ?_) #[true, true, true, true, true, true, true, true, true, true, false, false, false, false, false, false, false, false, false] rfl rfl (by kernel_rfl) (fun _ _ _ h => h) (Or.inl ⟨by rfl, ?_⟩) ?_ ?_
      rotate_left
      ·intro w'
       go_simp
       with_reducible rfl
      rotate_left
      ·simp only [Act.put, List.setIfInBounds_toArray, List.set_cons_zero, List.set_cons_succ, i64_w, i32_w]
       rfl
      refine pure_ (i := 10) (N := (some 30)) (v := ?_) (a' := ?_) #[true, true, true, true, true, true, true, true, true, true, true, false, false, false, false, false, false, false, false] rfl rfl (by kernel_rfl) (fun _ _ _ h => h) (Or.inl ⟨by rfl, ?_⟩) ?_ ?_
      rotate_left
      ·intro w'
       go_simp
       with_reducible rfl
      rotate_left
      ·simp only [Act.put, List.setIfInBounds_toArray, List.set_cons_zero, List.set_cons_succ, i64_w, i32_w]
       rfl
      refine pure_ (i := 12) (N := (some 32)) (v := ?_) (a' := ?_) #[true, true, true, true, true, true, true, true, true, true, true, false, true, false, false, false, false, false, false] rfl rfl (by kernel_rfl) (fun _ _ _ h => h) (Or.inl ⟨by rfl, ?_⟩) ?_ ?_
      rotate_left
      ·intro w'
       go_simp
       with_reducible rfl
      rotate_left
      ·simp only [Act.put, List.setIfInBounds_toArray, List.set_cons_zero, List.set_cons_succ, i64_w, i32_w]
       rfl
      refine pure_ (i := 13) (N := (some 33)) (v := ?_) (a' := ?_) #[true, true, true, true, true, true, true, true, true, true, true, false, true, true, false, false, false, false, false] rfl rfl (by kernel_rfl) (fun _ _ _ h => h) (Or.inl ⟨by rfl, ?_⟩) ?_ ?_
      rotate_left
      ·intro w'
       go_simp
       with_reducible rfl
      rotate_left
      ·simp only [Act.put, List.setIfInBounds_toArray, List.set_cons_zero, List.set_cons_succ, i64_w, i32_w]
       rfl
      refine pure_ (i := 14) (N := (some 34)) (v := ?_) (a' := ?_) #[true, true, true, true, true, true, true, true, true, true, true, false, true, true, true, false, false, false, false] rfl rfl (by kernel_rfl) (fun _ _ _ h => h) (Or.inl ⟨by rfl, ?_⟩) ?_ ?_
      rotate_left
      ·intro w'
       go_simp
       with_reducible rfl
      rotate_left
      ·simp only [Act.put, List.setIfInBounds_toArray, List.set_cons_zero, List.set_cons_succ, i64_w, i32_w]
       rfl
      refine take_ (i := 11) (N := (some 31)) (v := ?_) (a' := ?_) #[true, true, true, true, true, true, true, true, true, true, true, true, true, true, true, false, false, false, false] rfl rfl (by kernel_rfl) (fun _ _ _ h => h) (Or.inl ⟨by rfl, ?_⟩) hHeld ?_ ?_
      rotate_left
      ·rintro w' hs
       obtain ⟨o0, o1, o34, o35, o36⟩ := hs.op
       go_simp
       with_reducible rfl
      rotate_left
      ·simp only [Act.put, List.setIfInBounds_toArray, List.set_cons_zero, List.set_cons_succ, i64_w, i32_w]
       rfl
      refine take_ (i := 15) (N := (some 35)) (v := ?_) (a' := ?_) #[true, true, true, true, true, true, true, true, true, true, true, true, true, true, true, true, false, false, false] rfl rfl (by kernel_rfl) (fun _ _ _ h => h) (Or.inl ⟨by rfl, ?_⟩) hHeld ?_ ?_
      rotate_left
      ·rintro w' hs
       obtain ⟨s0, s1, s2, s3, s4, sf⟩ := hs.nx.cells
       go_simp
       with_reducible rfl
      rotate_left
      ·simp only [Act.put, List.setIfInBounds_toArray, List.set_cons_zero, List.set_cons_succ, i64_w, i32_w]
       rfl
      refine pure_ (i := 16) (N := (some 36)) (v := ?_) (a' := ?_) #[true, true, true, true, true, true, true, true, true, true, true, true, true, true, true, true, true, false, false] rfl rfl (by kernel_rfl) (fun _ _ _ h => h) (Or.inl ⟨by rfl, ?_⟩) ?_ ?_
      rotate_left
      ·intro w'
       go_simp
       with_reducible rfl
      rotate_left
      ·simp only [Act.put, List.setIfInBounds_toArray, List.set_cons_zero, List.set_cons_succ, i64_w, i32_w]
       rfl
      refine pure_ (i := 17) (N := (some 37)) (v := ?_) (a' := ?_) #[true, true, true, true, true, true, true, true, true, true, true, true, true, true, true, true, true, true, false] rfl rfl (by kernel_rfl) (fun _ _ _ h => h) (Or.inl ⟨by rfl, ?_⟩) ?_ ?_
      rotate_left
      ·intro w'
       go_simp
       with_reducible rfl
      rotate_left
      ·simp only [Act.put, List.setIfInBounds_toArray, List.set_cons_zero, List.set_cons_succ, i64_w, i32_w]
       rfl
      refine pure_ (i := 18) (N := (some 19)) (v := ?_) (a' := ?_) #[true, true, true, true, true, true, true, true, true, true, true, true, true, true, true, true, true, true, true] rfl rfl (by kernel_rfl) (fun _ _ _ h => h) (Or.inl ⟨by rfl, ?_⟩) ?_ ?_
      rotate_left
      ·intro w'
       go_simp
       with_reducible rfl
      rotate_left
      ·simp only [Act.put, List.setIfInBounds_toArray, List.set_cons_zero, List.set_cons_succ, i64_w, i32_w]
       rfl
      refine done_ (by kernel_rfl) ?_
      have HU2 := Aside0.mk hHeld
      clear hHeld
      have LM := HU2.out.nx.cells.2.2.2.1
      cases more with
      | false =>
       have HE := Aside0.mk (show R (.returned (.int .i64 0)) from hR _ (by unfold freshOf; rw [if_neg (fun hc => hc.elim K0.out KM.out), if_neg HN3.out, if_neg (fun hc => by cases hc.1)]))
       go_wp2
       go_ret
       exact ⟨HE.out, HU2.out⟩
      | true =>
       by_cases h64 : B.spent.length = 64
       ·have HE := Aside0.mk (show R (.returned (.int .i64 5)) from hR _ (by unfold freshOf; rw [if_neg (fun hc => hc.elim K0.out KM.out), if_neg HN3.out, if_pos ⟨rfl, h64⟩]))
        have h64' : ((B.spent.length : Int) == 64) = true := by rw [beq_iff_eq]; omega
        go_wp2
        go_ret
        exact ⟨HE.out, HU2.out⟩
       ·have HE := Aside0.mk (show R (.returned (.int .i64 0)) from hR _ (by unfold freshOf; rw [if_neg (fun hc => hc.elim K0.out KM.out), if_neg HN3.out, if_neg (fun hc => h64 hc.2)]))
        have h64' : ((B.spent.length : Int) == 64) = false := by rw [beq_eq_false_iff_ne]; omega
        go_wp2
        go_ret
        exact ⟨HE.out, HU2.out⟩
theorem fresh_any (w : World) (base q : Nat) (B : Book) (A1 : Option Addr) (c1 : Nat) (A2 : Option Addr) (c2 : Nat) (o : Op) (more : Bool) (h : NextIs w base q B A1 c1 A2 c2) (hf : Few B) (hb : base ≤ w.heap.size) :
  Calls Tryz.prog 117 #[.pointer (some ⟨q, 0, none⟩), .agg (encO o).toArray, .bool more] w fun e w' => e = .returned (.int .i64 (freshOf B o more)) ∧ OnBook w w' base q B A1 c1 A2 c2 w.heap.size (encO o) 36 :=
 fresh_on w base q B A1 c1 A2 c2 o more h hf hb _ (fun n hn => by rw [hn])
end Go.Proofs.YthnpiimiimiijaaGreatDoor.Dir
end
