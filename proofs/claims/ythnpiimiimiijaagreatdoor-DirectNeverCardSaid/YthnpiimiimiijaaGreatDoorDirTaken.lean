/- taken: all keys of a book. -/
import Derived.Test.YthnpiimiimiijaaGreatDoorDirSpend
namespace Go.Proofs.YthnpiimiimiijaaGreatDoor.Dir
open Go Go.RowKit Go.Proofs Go.Proofs.YthnpiimiimiijaaGreatDoorW.PrintWords Go.Proofs.YthnpiimiimiijaaGreatDoorW.PrintLast Go.Proofs.YthnpiimiimiijaaGreatDoorW.PrintMore
set_option linter.unusedVariables false
set_option linter.unusedSimpArgs false

theorem src_cell {w W : World} {g o n size : Nat} {xs : List Value} (h : SrcAt w (some ⟨g, o, none⟩) n size xs) (hb : Below w.heap.size w W) {j : Nat} {v : Value} (hj : xs[j]? = some v) : W.cell? ⟨g, o + j, none⟩ = some v := by
  have h' := h.2.2 _ rfl j v hj
  rw [add_at] at h'
  rw [hb.cell (World.block_lt_of_cell? w _ h')]
  exact h'
theorem load_devS {w W : World} {g o n : Nat} {l : List Dev} (h : SrcAt w (some ⟨g, o, none⟩) n 35 (flatD l)) (hb : Below w.heap.size w W) {j : Nat} {d : Dev} (hj : l[j]? = some d) :
    (Instr.loadAt 46 (.pointer (some ⟨g, o + j * 35, none⟩))).run Tryz.prog W = .ok (.agg (encD d).toArray) W :=
  run_loadAtK Tryz.prog W 46 35 Tryz.isAgg46 Tryz.sizeOf46 g (o + j * 35) (encD d) (encD_len _) (fun i v hv => by rw [Nat.add_assoc]; exact src_cell h hb (flatMap_at encD 35 encD_len l j d hj i v hv))
/-- A slice's address has no spot. -/
def Bare (A : Option Addr) : Prop := ∀ a, A = some a → ∃ g o, a = ⟨g, o, none⟩
theorem bare_own {w : World} {base : Nat} {e : TypeId} {size n c : Nat} {A : Option Addr} {xs : List Value} (h : w.ownsRow base e size (.slice A n c) n xs) : Bare A := fun a ha => by
  subst ha
  rcases h.2 with ⟨e, e2⟩ | ⟨g, _, _, e, _⟩
  · cases e
  · injection e with e; injection e with e; exact ⟨g, 0, e⟩
theorem flatK_one_more (l : List Key) (k : Key) : flatK (l ++ [k]) = flatK l ++ encK k := by unfold flatK; rw [List.flatMap_append]; simp
theorem flatK_append (a b : List Key) : flatK (a ++ b) = flatK a ++ flatK b := List.flatMap_append

set_option maxHeartbeats 4000000 in
set_option maxRecDepth 100000 in
theorem taken_any (B : Book) (A1 A2 : Option Addr) (c1 c2 : Nat) (w : World) (h1 : SrcAt w A1 B.devs.length 35 (flatD B.devs)) (h2 : SrcAt w A2 B.spent.length 32 (flatK B.spent)) (hf : Few B) (hbare : Bare A1) :
    Calls Tryz.prog 48 #[.agg (bookCells B A1 c1 A2 c2).toArray] w fun e w' => ∃ A c, e = .returned (.slice A (takenB B).length c) ∧ w'.ownsRow w.heap.size 34 32 (.slice A (takenB B).length c) (takenB B).length (flatK (takenB B)) ∧ Below w.heap.size w w' := by
  obtain ⟨W0, hW0⟩ : ∃ W0, W0 = w.alloc (.cells (bookCells B A1 c1 A2 c2).toArray 43) := ⟨_, rfl⟩
  have hb0 : Below w.heap.size w W0 := by rw [hW0]; exact (Below.refl _ w).alloc (Nat.le_refl _) _
  have q1 : W0.heap[w.heap.size]? = some (.cells (bookCells B A1 c1 A2 c2).toArray 43 (0, 0)) := by rw [hW0]; exact heap_alloc_new w _
  have k2 : W0.cell? ⟨w.heap.size, 2, none⟩ = some (.slice A1 B.devs.length c1) := by rw [cell_of_heap q1]; rfl
  have k3 : W0.cell? ⟨w.heap.size, 3, none⟩ = some (.slice A2 B.spent.length c2) := by rw [cell_of_heap q1]; rfl
  have HC := Aside0.mk (cloned54 A2 B.spent.length c2 (flatK B.spent) W0 (h2.grown hb0) (by have := hf.2; omega) (flatK_one _))
  have H1 := Aside0.mk h1
  have HB := Aside0.mk hb0
  have HF := Aside0.mk hf
  have HBA := Aside0.mk hbare
  have Q1 := Aside0.mk (World.block_lt_of_cell? W0 _ k2)
  have KK2 := Aside0.mk k2
  obtain ⟨z, hz, hzs⟩ := zero34
  have hi := info34
  obtain ⟨i0, hi0⟩ : ∃ i0, Tryz.prog.info? 34 = some i0 := by
    cases h : Tryz.prog.info? 34 with
    | some i => exact ⟨i, rfl⟩
    | none => rw [h] at hi; cases hi
  rw [hi0] at hi hz
  simp only [Option.map_some, Option.some.injEq, Prod.mk.injEq, Option.bind_some] at hi hz
  have HI := Aside0.mk (show Tryz.prog.info? 34 = some i0 ∧ i0.zero = some z ∧ i0.size = 32 ∧ i0.bytes = 32 ∧ z.cells.size = 32 from ⟨hi0, hz, hi.1, hi.2, hzs⟩)
  have t41 := Tryz.underlying41
  clear h1 h2 hf hbare hb0 q1 k2 hi0 hz hzs hi
  go_enter Tryz.func48, Tryz.ntmps48
  go_upto_region 1 with fail
  rw [← hW0]
  clear hW0
  go_wp2_with fail
  refine HC.out.mono ?_
  rintro e w1 ⟨A3, c3, rfl, ho, -, hb1⟩
  have k2 := (hb1.cell (p := ⟨w.heap.size, 2, none⟩) Q1.out).trans KK2.out
  have HO := Aside0.mk (own_weaken ho HB.out.size)
  have HB1 := Aside0.mk hb1
  have HB2 := Aside0.mk (below_step HB.out hb1)
  clear ho hb1 k3
  go_wp2_with fail
  go_loopg [3, 5, 12] B.devs.length (fun kx s3 s5 s12 wr => ∃ (kk : Nat) (A : Option Addr) (c : Nat), kk ≤ B.devs.length ∧ B.devs.length - kk ≤ kx ∧ s12 = .int .i64 kk ∧ s3 = .slice A (B.spent.length + kk) c ∧ Aside0 (Below w.heap.size w wr) ∧ Aside0 (wr.ownsRow w.heap.size 34 32 (.slice A (B.spent.length + kk) c) (B.spent.length + kk) (flatK (B.spent ++ (B.devs.take kk).map (·.key)))))
  case atStart => exact ⟨0, A3, c3, Nat.zero_le _, by omega, rfl, rfl, ⟨HB2.out⟩, ⟨by simpa using HO.out⟩⟩
  case round =>
    obtain ⟨kk, A, c, hkk, hg, rfl, rfl, BW, OW⟩ := hrel
    have hf1 := HF.out.1
    have hf2 := HF.out.2
    by_cases hlt : kk < B.devs.length
    · have hltz : (kk : Int) < (B.devs.length : Int) := by omega
      obtain ⟨a, hA⟩ : ∃ a, A1 = some a := by
        cases hA : A1 with
        | some a => exact ⟨a, rfl⟩
        | none => exact absurd (H1.out.2.1 hA) (by omega)
      obtain ⟨g, o, rfl⟩ := HBA.out a hA
      subst hA
      obtain ⟨d, hd⟩ : ∃ d, B.devs[kk]? = some d := ⟨_, List.getElem?_eq_getElem hlt⟩
      have l1 := Aside0.mk (load_devS H1.out BW.out hd)
      have st := Aside0.mk (fun (c : Array Value) (hc : c.size = 35) => run_storeNew Tryz.prog wr 46 35 sizeD c (encD d).toArray hc (by simpa using encD_len d) (by simpa using encD_one d))
      have hd3 : (wr.alloc (.cells (encD d).toArray 46)).heap[wr.heap.size]? = some (.cells (encD d).toArray 46 (0, 0)) := heap_alloc_new wr _
      have l2 := Aside0.mk (run_loadAtK Tryz.prog (wr.alloc (.cells (encD d).toArray 46)) 34 32 Tryz.isAgg34 Tryz.sizeOf34 wr.heap.size 1 (encK d.key) (encK_len _) (fun j v hj => by rw [cell_of_heap hd3]; exact keyOfD d j v hj))
      have b3 := Aside0.mk (buildK (wr.alloc (.cells (encD d).toArray 46)) d.key)
      have ow4 := Aside0.mk (pw_own_below (pw_own_below OW.out ((Below.refl _ wr).alloc (Nat.le_refl _) (.cells (encD d).toArray 46))) ((Below.refl _ _).alloc (Nat.le_refl _) (.cells (encK d.key).toArray 34)))
      have sr4 := Aside0.mk (cells_of_heap (heap_alloc_new (wr.alloc (.cells (encD d).toArray 46)) (.cells (encK d.key).toArray 34)))
      have HD := Aside0.mk hd
      have B4 := Aside0.mk ((BW.out.alloc BW.out.size (.cells (encD d).toArray 46)).alloc (Nat.le_trans BW.out.size (by simp)) (.cells (encK d.key).toArray 34))
      obtain ⟨DA, hDA⟩ : ∃ DA, DA = (encD d).toArray := ⟨_, rfl⟩
      obtain ⟨KA, hKA⟩ : ∃ KA, KA = (encK d.key).toArray := ⟨_, rfl⟩
      have K1 := Aside0.mk (And.intro (encK_len d.key) (encK_one d.key))
      rw [← hDA] at l1 st l2 b3 ow4 sr4 B4
      rw [← hKA] at l2 b3 ow4 sr4 B4
      clear hDA hKA
      clear hd hd3 OW
      go_wp2_with (first | ((with_reducible refine at_load 46 (.tmp 14) ?_); refine wpList_loadK rfl 46 (.tmp 14) rfl _ rfl _ l1.out ?_) | ((with_reducible refine at_store 46 (.tmp 5) (.tmp 15) ?_); refine wpList_storeK rfl 46 (.tmp 5) (.tmp 15) rfl rfl _ _ rfl rfl _ (st.out _ rfl) ?_) | ((with_reducible refine at_load 34 (.tmp 17) ?_); refine wpList_loadK rfl 34 (.tmp 17) rfl _ rfl _ l2.out ?_) | ((with_reducible refine at_bslice 41 (.tmp 18) ?_); refine wpList_buildSlice1 rfl 41 (.tmp 18) rfl _ rfl _ _ b3.out ?_) | (at_builtin; refine wpList_append_own _ rfl _ _ 41 rfl w.heap.size 34 i0 z 32 32 t41 HI.out.1 HI.out.2.1 HI.out.2.2.1 HI.out.2.2.2.1 HI.out.2.2.2.2 (by decide) _ _ _ rfl ow4.out ⟨(wr.alloc (.cells DA 46)).heap.size, 0, none⟩ 1 1 (encK d.key) rfl ?qc1 ?qc2 ?qc3 ?qc4 ?qc5 ?qc6 ?_))
      case qc1 => exact K1.out.1
      case qc2 => intro j u hj; rw [add_at]; exact sr4.out j u hj
      case qc3 => exact K1.out.2
      case qc4 => unfold maxLen; omega
      case qc5 => omega
      case qc6 => exact B4.out.size
      intro v' w5 hown hgrow hnil
      obtain ⟨A', c', rfl, -, -⟩ := src_owns hown
      have HO2 := Aside0.mk (And.intro hown hgrow)
      clear hown hgrow hnil
      go_wp2
      go_roundg (B.devs.length - (kk + 1))
      case measure => omega
      case rel =>
        refine ⟨kk + 1, A', c', by omega, by omega, by go_num, rfl, ⟨B4.out.grown HO2.out.2 B4.out.size (fun j hj => own_base ow4.out j hj)⟩, ⟨?_⟩⟩
        have h3 := HO2.out.1
        rw [← flatK_one_more] at h3
        have e : B.spent ++ (B.devs.take (kk + 1)).map (·.key) = (B.spent ++ (B.devs.take kk).map (·.key)) ++ [d.key] := by
          rw [List.take_add_one, HD.out, List.map_append, List.append_assoc]; rfl
        rw [e]
        simpa [List.map_take, Nat.add_assoc] using h3
    · have hltz : ¬ (kk : Int) < (B.devs.length : Int) := by omega
      have : kk = B.devs.length := by omega
      subst this
      go_wp2
      go_ret
      have e : (takenB B).length = B.spent.length + B.devs.length := by unfold takenB; rw [List.length_append, List.length_map]
      refine ⟨A, c, by rw [e]; rfl, ?_, BW.out⟩
      rw [e]
      have h3 := OW.out
      rw [List.take_length] at h3
      exact h3
end Go.Proofs.YthnpiimiimiijaaGreatDoor.Dir
