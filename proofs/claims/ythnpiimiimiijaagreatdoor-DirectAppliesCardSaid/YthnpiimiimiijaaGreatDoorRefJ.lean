/- The document's directory: Apply, New, Copy. -/
import Derived.Test.YthnpiimiimiijaaGreatDoorRefI
namespace Go.Proofs.YthnpiimiimiijaaGreatDoorW.PrintLast
section
variable {P : Program} {md : Region.Mode} {ops : Array Oper} {Q : Exit → Act → World → Prop} {S : World → Prop} {ds : List Nat}
theorem two_ {i j : Nat} {Ni Nj : Option Tmp} {oi oj : Oper} {fuel : Nat} {l : Array Bool} {a : Act} {w : World} (li lj : Array Bool) (hi : ops[i]? = some oi) (hj : ops[j]? = some oj) (hNi : oi.dst = Ni) (hNj : oj.dst = Nj)
  (hc : (Region.ready md ops l == [i, j] && l.setIfInBounds i true == li && l.setIfInBounds j true == lj) = true) (hdi : i ∉ ds) (hdj : j ∉ ds)
  (h1 : ∀ K : Act → World → Prop, Shut (∀ a' w', S w' → (S w' → wpAnyLast P md ops Q S ds fuel li a' w') → K a' w') → if Region.wanted oi (yielded ops a.tmps) = true then Oper.wp P oi a w K Q else K (a.put Ni undef) w)
  (h2 : ∀ K : Act → World → Prop, Shut (∀ a' w', S w' → (S w' → wpAnyLast P md ops Q S ds fuel lj a' w') → K a' w') → if Region.wanted oj (yielded ops a.tmps) = true then Oper.wp P oj a w K Q else K (a.put Nj undef) w) :
  wpAnyLast P md ops Q S ds (fuel + 1) l a w := by
 subst hNi
 subst hNj
 simp only [Bool.and_eq_true, beq_iff_eq] at hc
 obtain ⟨⟨h3, h4⟩, h5⟩ := hc
 subst h4
 subst h5
 exact wpAnyLast_ready h3 (by simp) (AllReadyL.cons hi hdi (fun K hK => h1 K hK) (AllReadyL.cons hj hdj (fun K hK => h2 K hK) AllReadyL.nil))
def putAll : Act → List (Tmp × Value) → Act
 | a, [] => a
 | a, (n, v) :: r => putAll (a.put (some n) v) r
theorem join_ {σ : Type} {fuel : Nat} {l : Array Bool} {a : Act} {w : World} (fuel' : Nat) (l' : Array Bool) (ns : σ → List (Tmp × Value)) (F : σ → World → Prop)
  (hcont : ∀ s w', F s w' → wpAnyLast P md ops Q S ds fuel' l' (putAll a (ns s)) w')
  (h : (∀ s w', F s w' → wpAnyLast P md ops Q S ds fuel' l' (putAll a (ns s)) w') → wpAnyLast P md ops Q S ds fuel l a w) : wpAnyLast P md ops Q S ds fuel l a w := h hcont
end
end Go.Proofs.YthnpiimiimiijaaGreatDoorW.PrintLast
namespace Go.Proofs.YthnpiimiimiijaaGreatDoor.Dir
open Go Go.RowKit Go.Proofs Go.Proofs.YthnpiimiimiijaaGreatDoorW.PrintWords Go.Proofs.YthnpiimiimiijaaGreatDoorW.PrintLast Go.Proofs.YthnpiimiimiijaaGreatDoorW.PrintMore
set_option linter.unusedVariables false
set_option linter.unusedSimpArgs false
theorem next_ref (B : Book) (A1 : Option Addr) (c1 : Nat) (A2 : Option Addr) (c2 : Nat) (o : Op) (w : World) (h : SrcB w B A1 A2) (hw : WF B) :
  Calls Tryz.prog 55 #[.agg (bookCells B A1 c1 A2 c2).toArray, .agg (encO o).toArray] w fun e w' => NextEnd w w' A1 A2 (nextOf rulesOf B o) e := by
 by_cases k1 : o.kind = 1
 ·exact next_1 B A1 c1 A2 c2 o w h hw k1
 by_cases k2 : o.kind = 2
 ·exact next_2 B A1 c1 A2 c2 o w h hw k2
 by_cases k3 : o.kind = 3
 ·exact next_3 B A1 c1 A2 c2 o w h hw k3
 by_cases k4 : o.kind = 4
 ·exact next_4 B A1 c1 A2 c2 o w h hw k4
 by_cases k5 : o.kind = 5
 ·exact next_5 B A1 c1 A2 c2 o w h hw k5
 ·exact next_other B A1 c1 A2 c2 o w h hw ⟨k1, k2, k3, k4, k5⟩
/-- The document's directory in the block r. -/
structure RDirIs (W : World) (r : Nat) (B : Book) (A1 : Option Addr) (c1 : Nat) (A2 : Option Addr) (c2 : Nat) : Prop where
 box : W.heap[r]? = some (.cells (bookCells B A1 c1 A2 c2).toArray 63 (0, 0))
 src : SrcB W B A1 A2
 t1 : TyA W A1 46
 t2 : TyA W A2 34
def RDir (W : World) (r : Nat) (B : Book) : Prop := ∃ A1 c1 A2 c2, RDirIs W r B A1 c1 A2 c2
section
variable {W W' : World} {r : Nat} {B : Book} {A1 : Option Addr} {c1 : Nat} {A2 : Option Addr} {c2 : Nat}
theorem RDirIs.below (h : RDirIs W r B A1 c1 A2 c2) (hb : Below W.heap.size W W') : RDirIs W' r B A1 c1 A2 c2 := ⟨room_at h.box hb, h.src.later hb, h.t1.below hb, h.t2.below hb⟩
theorem RDir.below (h : RDir W r B) (hb : Below W.heap.size W W') : RDir W' r B := by
 obtain ⟨A1, c1, A2, c2, h⟩ := h
 exact ⟨A1, c1, A2, c2, h.below hb⟩
theorem SrcAt.other {A : Option Addr} {n size : Nat} {xs : List Value} (h : SrcAt W A n size xs) {g : Nat} (hg : W.grownBy W' (some g)) (hne : ∀ a, A = some a → a.block ≠ g) : SrcAt W' A n size xs :=
 ⟨h.1, h.2.1, fun a ha j u hj => by
  have hc := h.2.2 a ha j u hj
  have hl := World.block_lt_of_cell? W _ hc
  have e : (a.add j).block = a.block := by unfold Addr.add; split <;> rfl
  have hb := hg.block (a.add j).block hl (fun h2 => hne a ha (by rw [e] at h2; exact Option.some.inj h2))
  unfold World.cell? at hc ⊢
  rw [hb]; exact hc⟩
theorem TyA.ne {A : Option Addr} {T T' : TypeId} (h : TyA W A T) {g : Nat} {cs : Array Value} {fr : Nat × Nat} (hg : W.heap[g]? = some (.cells cs T' fr)) (hne : T ≠ T') : ∀ a, A = some a → a.block ≠ g := fun a ha e => by
 obtain ⟨cs', fr', hq⟩ := h a ha
 rw [e, hg] at hq
 cases hq
 exact hne rfl
theorem TyA.other {A : Option Addr} {T : TypeId} (h : TyA W A T) {g : Nat} (hg : W.grownBy W' (some g)) (hne : ∀ a, A = some a → a.block ≠ g) : TyA W' A T := fun a ha => by
 obtain ⟨cs', fr', hq⟩ := h a ha
 exact ⟨cs', fr', (hg.block _ (Array.getElem?_eq_some_iff.1 hq).1 (fun e => hne a ha (Option.some.inj e))).trans hq⟩
/-- A directory of the document's beside another block that is written. -/
theorem RDirIs.other (h : RDirIs W r B A1 c1 A2 c2) {g : Nat} {cs : Array Value} {T : TypeId} {fr : Nat × Nat} (hq : W.heap[g]? = some (.cells cs T fr)) (h1 : T ≠ 46) (h2 : T ≠ 34) (h3 : r ≠ g) (hg : W.grownBy W' (some g)) : RDirIs W' r B A1 c1 A2 c2 := by
 have n1 := h.t1.ne hq (fun e => h1 e.symm)
 have n2 := h.t2.ne hq (fun e => h2 e.symm)
 exact ⟨(hg.block _ (Array.getElem?_eq_some_iff.1 h.box).1 (fun e => h3 (Option.some.inj e))).trans h.box, ⟨h.src.devs.other hg n1, h.src.spent.other hg n2, h.src.few, h.src.len⟩, h.t1.other hg n1, h.t2.other hg n2⟩
theorem RDir.other (h : RDir W r B) {g : Nat} {cs : Array Value} {T : TypeId} {fr : Nat × Nat} (hq : W.heap[g]? = some (.cells cs T fr)) (h1 : T ≠ 46) (h2 : T ≠ 34) (h3 : r ≠ g) (hg : W.grownBy W' (some g)) : RDir W' r B := by
 obtain ⟨A1, c1, A2, c2, h⟩ := h
 exact ⟨A1, c1, A2, c2, h.other hq h1 h2 h3 hg⟩
end
theorem NewA.ty {n : Nat} {W W' : World} {T : TypeId} {A A' : Option Addr} (h : NewA n W' T A A') (h0 : TyA W A T) (hb : Below W.heap.size W W') : TyA W' A' T := by
 rcases h with e | h
 ·rw [e]; exact h0.below hb
 ·exact h.ty
/-- What next leaves, and a room for a book. -/
structure NextSt (w W : World) (r : Nat) (R : Book × Int) (nb : Nat) (A1 : Option Addr) (c1 : Nat) (A2 : Option Addr) (c2 : Nat) : Prop where
 fr : Below w.heap.size w W
 src : SrcB W R.1 A1 A2
 t1 : TyA W A1 46
 t2 : TyA W A2 34
 room : W.heap[nb]? = some (.cells ([.int .i64 0, .int .i64 0, .slice none 0 0, .slice none 0 0, .string ⟨#[]⟩] : List Value).toArray 43 (0, 0))
 low : w.heap.size ≤ nb
set_option maxHeartbeats 8000000 in
set_option maxRecDepth 100000 in
theorem apply_ref (w : World) (r : Nat) (B : Book) (o : Op) (h : RDir w r B) (hw : WF B) :
  Calls Tryz.prog 27 #[.pointer (some ⟨r, 0, none⟩), .agg (encO o).toArray] w fun e w' => e = .returned (.tuple #[.agg #[.int .i64 (errOf rulesOf B o), .int .i64 (applyOf rulesOf B o).ver], .int .i64 0]) ∧ RDir w' r (applyOf rulesOf B o) ∧ w.grownBy w' (some r) := by
 obtain ⟨A1, c1, A2, c2, hd⟩ := h
 obtain ⟨W0, hW0⟩ : ∃ W0, W0 = (w.alloc (.cells (encO o).toArray 36)).alloc (.cells #[.int .i64 0, .int .i64 0] 30) := ⟨_, rfl⟩
 obtain ⟨q, hq⟩ : ∃ q, q = w.heap.size := ⟨_, rfl⟩
 have hsz : (w.alloc (.cells (encO o).toArray 36)).heap.size = q + 1 := by rw [hq]; simp
 have hb0 : Below w.heap.size w W0 := by rw [hW0]; exact ((Below.refl _ w).alloc (Nat.le_refl _) _).alloc (by simp) _
 have q1 : W0.heap[q]? = some (.cells (encO o).toArray 36 (0, 0)) := by rw [hW0, hq, Below.heap_alloc _ _ _ (by simp)]; exact heap_alloc_new w _
 have q2 : W0.heap[q + 1]? = some (.cells #[.int .i64 0, .int .i64 0] 30 (0, 0)) := by rw [hW0, ← hsz]; exact heap_alloc_new _ _
 have HD := Aside0.mk (hd.below hb0)
 have HRQ := Aside0.mk (show r < q by rw [hq]; exact (Array.getElem?_eq_some_iff.1 hd.box).1)
 have HWF := Aside0.mk hw
 have HB0 := Aside0.mk hb0
 have HQ2 := Aside0.mk q2
 have HLB := Aside0.mk (fun (W : World) (hb : Below W0.heap.size W0 W) => run_loadAtK Tryz.prog W 43 5 Tryz.isAgg43 Tryz.sizeOf43 r 0 (bookCells B A1 c1 A2 c2) rfl (cells_of_heap (room_at HD.out.box hb)))
 have HLO := Aside0.mk (fun (W : World) (hb : Below W0.heap.size W0 W) => run_loadAtK Tryz.prog W 36 37 Tryz.isAgg36 Tryz.sizeOf36 q 0 (encO o) (encO_len o) (cells_of_heap (room_at q1 hb)))
 have HNX := Aside0.mk (fun (W : World) (hb : Below W0.heap.size W0 W) => next_ref B A1 c1 A2 c2 o W (HD.out.src.later hb) hw)
 obtain ⟨R, hR⟩ : ∃ R, R = nextOf rulesOf B o := ⟨_, rfl⟩
 have HR := Aside0.mk hR
 obtain ⟨BA, hBA⟩ : ∃ BA, BA = (bookCells B A1 c1 A2 c2).toArray := ⟨_, rfl⟩
 obtain ⟨OA, hOA⟩ : ∃ OA, OA = (encO o).toArray := ⟨_, rfl⟩
 rw [← hR] at HNX
 rw [← hBA] at HLB HNX
 rw [← hOA] at hW0 hsz HNX HLO ⊢
 clear hd hb0 q1 q2 hw hR hBA hOA
 obtain ⟨RE, hRE⟩ : ∃ RE, RE = errOf rulesOf B o := ⟨_, rfl⟩
 obtain ⟨RB, hRB⟩ : ∃ RB, RB = applyOf rulesOf B o := ⟨_, rfl⟩
 rw [← hRE, ← hRB]
 have HRE := Aside0.mk (And.intro hRE hRB)
 clear hRE hRB
 go_enter Tryz.func27, Tryz.ntmps27
 go_upto_region 1 with fail
 rw [← hW0]
 try rw [hsz]
 try rw [← hq]
 have HEQ := Aside0.mk (And.intro hW0 (And.intro hq hsz))
 clear hW0 hq hsz
 refine start_ (n := 12) (S := fun W => Below W0.heap.size W0 W) (ds := [10]) #[false, false, false, false, false, false, false, false, false, false, false, false] (by kernel_rfl) rfl rfl ((Below.refl _ W0).drew) (fun hHeld => ?_)
 generalize World.drew _ = w5 at hHeld ⊢
 refine pure_ (i := 0) (N := (some 9)) (v := ?_) (a' := ?_) #[true, false, false, false, false, false, false, false, false, false, false, false] rfl rfl (by kernel_rfl) (fun _ _ _ h => h) (Or.inl ⟨by rfl, ?_⟩) ?_ ?_
 rotate_left
 ·intro w'
  go_simp
  with_reducible rfl
 rotate_left
 ·simp only [Act.put, List.setIfInBounds_toArray, List.set_cons_zero, List.set_cons_succ, i64_w, i32_w]
  rfl
 refine pure_ (i := 1) (N := (some 10)) (v := ?_) (a' := ?_) #[true, true, false, false, false, false, false, false, false, false, false, false] rfl rfl (by kernel_rfl) (fun _ _ _ h => h) (Or.inl ⟨by rfl, ?_⟩) ?_ ?_
 rotate_left
 ·intro w'
  go_simp
  with_reducible rfl
 rotate_left
 ·simp only [Act.put, List.setIfInBounds_toArray, List.set_cons_zero, List.set_cons_succ, i64_w, i32_w]
  rfl
 refine pure_ (i := 2) (N := (some 11)) (v := ?_) (a' := ?_) #[true, true, true, false, false, false, false, false, false, false, false, false] rfl rfl (by kernel_rfl) (fun _ _ _ h => h) (Or.inl ⟨by rfl, ?_⟩) ?_ ?_
 rotate_left
 ·intro w'
  go_simp
  with_reducible rfl
 rotate_left
 ·simp only [Act.put, List.setIfInBounds_toArray, List.set_cons_zero, List.set_cons_succ, i64_w, i32_w]
  rfl
 refine take_ (i := 3) (N := (some 12)) (v := _) (a' := ?_) #[true, true, true, true, false, false, false, false, false, false, false, false] rfl rfl (by kernel_rfl) (fun _ _ _ h => h) (Or.inl ⟨by rfl, fun w' hs => yields_load 43 (.tmp 11) _ rfl _ _ rfl _ (HLB.out w' hs)⟩) hHeld ?_ ?_
 rotate_left
 ·simp only [Act.put, List.setIfInBounds_toArray, List.set_cons_zero, List.set_cons_succ, i64_w, i32_w]
  rfl
 refine take_ (i := 4) (N := (some 13)) (v := _) (a' := ?_) #[true, true, true, true, true, false, false, false, false, false, false, false] rfl rfl (by kernel_rfl) (fun _ _ _ h => h) (Or.inl ⟨by rfl, fun w' hs => yields_load 36 (.tmp 3) _ rfl _ _ rfl _ (HLO.out w' hs)⟩) hHeld ?_ ?_
 rotate_left
 ·simp only [Act.put, List.setIfInBounds_toArray, List.set_cons_zero, List.set_cons_succ, i64_w, i32_w]
  rfl
 refine join_ (σ := Nat × Option Addr × Nat × Option Addr × Nat) 2 #[true, true, true, true, true, true, true, true, true, true, false, false] (fun s => [(14, .tuple #[.agg (bookCells R.1 s.2.1 s.2.2.1 s.2.2.2.1 s.2.2.2.2).toArray, .int .i64 R.2]), (8, .tuple #[.agg (bookCells R.1 s.2.1 s.2.2.1 s.2.2.2.1 s.2.2.2.2).toArray, .int .i64 R.2]), (15, .agg (bookCells R.1 s.2.1 s.2.2.1 s.2.2.2.1 s.2.2.2.2).toArray), (16, .int .i64 R.2), (6, .pointer (some ⟨s.1, 0, none⟩))]) (fun s W => NextSt W0 W r R s.1 s.2.1 s.2.2.1 s.2.2.2.1 s.2.2.2.2) ?_ ?_
 rotate_left
 ·intro hcont
  have HCONT := Aside0.mk hcont
  clear hcont
  refine two_ (i := 5) (j := 9) (Ni := some 14) (Nj := some 6) #[true, true, true, true, true, true, false, false, false, false, false, false] #[true, true, true, true, true, false, false, false, false, true, false, false] rfl rfl rfl rfl (by kernel_rfl) (by decide) (by decide) (fun K hK => ?_) (fun K hK => ?_)
  ·refine goes_ Tryz.func55 (by kernel_rfl) rfl #[.agg BA, .agg OA] (by rfl) rfl rfl (by (try simp only [List.map_toArray, List.map_cons, List.map_nil]); first | done | rfl) ?_
   refine (HNX.out _ hHeld).mono ?_
   rintro e w6 ⟨A3, c3, A4, c4, rfl, hs, n1, n2, hb⟩
   refine ⟨_, rfl, ?_⟩
   refine hK.out _ _ (below_step hHeld hb) (fun hHeld2 => ?_)
   clear hK K
   refine norm_ (a' := ?_) ?_ ?_
   rotate_left
   ·show Act.put _ (some 14) _ = _
    simp only [Act.put, List.setIfInBounds_toArray, List.set_cons_zero, List.set_cons_succ]
    rfl
   refine pure_ (i := 6) (N := (some 8)) (v := ?_) (a' := ?_) #[true, true, true, true, true, true, true, false, false, false, false, false] rfl rfl (by kernel_rfl) (fun _ _ _ h => h) (Or.inl ⟨by rfl, ?_⟩) ?_ ?_
   rotate_left
   ·intro w'
    go_simp
    with_reducible rfl
   rotate_left
   ·simp only [Act.put, List.setIfInBounds_toArray, List.set_cons_zero, List.set_cons_succ, i64_w, i32_w]
    rfl
   refine pure_ (i := 7) (N := (some 15)) (v := ?_) (a' := ?_) #[true, true, true, true, true, true, true, true, false, false, false, false] rfl rfl (by kernel_rfl) (fun _ _ _ h => h) (Or.inl ⟨by rfl, ?_⟩) ?_ ?_
   rotate_left
   ·intro w'
    go_simp
    with_reducible rfl
   rotate_left
   ·simp only [Act.put, List.setIfInBounds_toArray, List.set_cons_zero, List.set_cons_succ, i64_w, i32_w]
    rfl
   refine pure_ (i := 8) (N := (some 16)) (v := ?_) (a' := ?_) #[true, true, true, true, true, true, true, true, true, false, false, false] rfl rfl (by kernel_rfl) (fun _ _ _ h => h) (Or.inl ⟨by rfl, ?_⟩) ?_ ?_
   rotate_left
   ·intro w'
    go_simp
    with_reducible rfl
   rotate_left
   ·simp only [Act.put, List.setIfInBounds_toArray, List.set_cons_zero, List.set_cons_succ, i64_w, i32_w]
    rfl
   refine one_ (i := 9) (N := some 6) #[true, true, true, true, true, true, true, true, true, true, false, false] rfl rfl (by kernel_rfl) (by decide) (fun K hK => ?_)
   refine value_ (v := .pointer (some ⟨w6.heap.size, 0, none⟩)) (w1 := w6.alloc (.cells #[.int .i64 0, .int .i64 0, .slice none 0 0, .slice none 0 0, .string ⟨#[]⟩] 43)) (by rfl) rfl ?_ ?_
   ·go_simp
   refine hK.out _ _ (hHeld2.alloc hHeld2.size _) (fun hHeld3 => ?_)
   clear hK K
   have hba := (Below.refl w6.heap.size w6).alloc (Nat.le_refl _) (.cells #[.int .i64 0, .int .i64 0, .slice none 0 0, .slice none 0 0, .string ⟨#[]⟩] 43)
   have := HCONT.out ⟨w6.heap.size, A3, c3, A4, c4⟩ (w6.alloc (.cells #[.int .i64 0, .int .i64 0, .slice none 0 0, .slice none 0 0, .string ⟨#[]⟩] 43)) ⟨hHeld3, hs.later hba, (n1.ty (HD.out.t1.below hHeld) hb).below hba, (n2.ty (HD.out.t2.below hHeld) hb).below hba, heap_alloc_new w6 _, hHeld2.size⟩
   simp only [putAll, Act.put, List.setIfInBounds_toArray, List.set_cons_zero, List.set_cons_succ] at this ⊢
   exact this
  ·refine value_ (v := .pointer (some ⟨w5.heap.size, 0, none⟩)) (w1 := w5.alloc (.cells #[.int .i64 0, .int .i64 0, .slice none 0 0, .slice none 0 0, .string ⟨#[]⟩] 43)) (by rfl) rfl ?_ ?_
   ·go_simp
   have hba := (Below.refl w5.heap.size w5).alloc (Nat.le_refl _) (.cells #[.int .i64 0, .int .i64 0, .slice none 0 0, .slice none 0 0, .string ⟨#[]⟩] 43)
   refine hK.out _ _ (below_step hHeld hba) (fun hHeld2 => ?_)
   clear hK K
   refine norm_ (a' := ?_) ?_ ?_
   rotate_left
   ·show Act.put _ (some 6) _ = _
    simp only [Act.put, List.setIfInBounds_toArray, List.set_cons_zero, List.set_cons_succ]
    rfl
   refine one_ (i := 5) (N := some 14) #[true, true, true, true, true, true, false, false, false, true, false, false] rfl rfl (by kernel_rfl) (by decide) (fun K hK => ?_)
   refine goes_ Tryz.func55 (by kernel_rfl) rfl #[.agg BA, .agg OA] (by rfl) rfl rfl (by (try simp only [List.map_toArray, List.map_cons, List.map_nil]); first | done | rfl) ?_
   refine (HNX.out _ hHeld2).mono ?_
   rintro e w6 ⟨A3, c3, A4, c4, rfl, hs, n1, n2, hb⟩
   refine ⟨_, rfl, ?_⟩
   refine hK.out _ _ (below_step hHeld2 hb) (fun hHeld3 => ?_)
   clear hK K
   refine norm_ (a' := ?_) ?_ ?_
   rotate_left
   ·show Act.put _ (some 14) _ = _
    simp only [Act.put, List.setIfInBounds_toArray, List.set_cons_zero, List.set_cons_succ]
    rfl
   refine pure_ (i := 6) (N := (some 8)) (v := ?_) (a' := ?_) #[true, true, true, true, true, true, true, false, false, true, false, false] rfl rfl (by kernel_rfl) (fun _ _ _ h => h) (Or.inl ⟨by rfl, ?_⟩) ?_ ?_
   rotate_left
   ·intro w'
    go_simp
    with_reducible rfl
   rotate_left
   ·simp only [Act.put, List.setIfInBounds_toArray, List.set_cons_zero, List.set_cons_succ, i64_w, i32_w]
    rfl
   refine pure_ (i := 7) (N := (some 15)) (v := ?_) (a' := ?_) #[true, true, true, true, true, true, true, true, false, true, false, false] rfl rfl (by kernel_rfl) (fun _ _ _ h => h) (Or.inl ⟨by rfl, ?_⟩) ?_ ?_
   rotate_left
   ·intro w'
    go_simp
    with_reducible rfl
   rotate_left
   ·simp only [Act.put, List.setIfInBounds_toArray, List.set_cons_zero, List.set_cons_succ, i64_w, i32_w]
    rfl
   refine pure_ (i := 8) (N := (some 16)) (v := ?_) (a' := ?_) #[true, true, true, true, true, true, true, true, true, true, false, false] rfl rfl (by kernel_rfl) (fun _ _ _ h => h) (Or.inl ⟨by rfl, ?_⟩) ?_ ?_
   rotate_left
   ·intro w'
    go_simp
    with_reducible rfl
   rotate_left
   ·simp only [Act.put, List.setIfInBounds_toArray, List.set_cons_zero, List.set_cons_succ, i64_w, i32_w]
    rfl
   have := HCONT.out ⟨w5.heap.size, A3, c3, A4, c4⟩ w6 ⟨hHeld3, hs, n1.ty (HD.out.t1.below hHeld2) hb, n2.ty (HD.out.t2.below hHeld2) hb, room_at (heap_alloc_new w5 _) hb, hHeld.size⟩
   simp only [putAll, Act.put, List.setIfInBounds_toArray, List.set_cons_zero, List.set_cons_succ] at this ⊢
   exact this
 rintro ⟨nb, A3, c3, A4, c4⟩ W1 hN
 have HN := Aside0.mk hN
 clear hN hHeld
 refine norm_ (a' := ?_) ?_ ?_
 rotate_left
 ·simp only [putAll, Act.put, List.setIfInBounds_toArray, List.set_cons_zero, List.set_cons_succ]
  rfl
 refine last_ (i := 10) (N := none) #[true, true, true, true, true, true, true, true, true, true, true, false] rfl rfl (by kernel_rfl) (by decide) (fun K hK => ?_)
 refine store_ (w1 := W1.setRow nb (bookCells R.1 A3 c3 A4 c4).toArray) (by rfl) rfl ?_ ?_
 ·exact runs_store 43 (.tmp 6) (.tmp 15) _ rfl _ _ _ rfl rfl _ (store_book W1 nb _ HN.out.room rfl R.1 A3 c3 A4 c4)
 skip
 refine hK.out _ _ ?_
 clear hK K
 refine norm_ (a' := ?_) ?_ ?_
 rotate_left
 ·show Act.put _ none _ = _
  simp only [Act.put, List.setIfInBounds_toArray, List.set_cons_zero, List.set_cons_succ, i64_w, i32_w]
  rfl
 refine pure_ (i := 11) (N := (some 7)) (v := ?_) (a' := ?_) #[true, true, true, true, true, true, true, true, true, true, true, true] rfl rfl (by kernel_rfl) (fun _ _ _ h => h) (Or.inl ⟨by rfl, ?_⟩) ?_ ?_
 rotate_left
 ·intro w'
  go_simp
  with_reducible rfl
 rotate_left
 ·simp only [Act.put, List.setIfInBounds_toArray, List.set_cons_zero, List.set_cons_succ, i64_w, i32_w]
  rfl
 refine done_ (by kernel_rfl) ?_
 obtain ⟨W2, hW2⟩ : ∃ W2, W2 = W1.setRow nb (bookCells R.1 A3 c3 A4 c4).toArray := ⟨_, rfl⟩
 have HB2 := Aside0.mk (show Below W0.heap.size W0 W2 by rw [hW2]; exact below_setRow HN.out.fr HN.out.low _)
 have HNB := Aside0.mk (show W2.heap[nb]? = some (.cells (bookCells R.1 A3 c3 A4 c4).toArray 43 (0, 0)) by rw [hW2]; exact setRow_heap _ _ _ _ _ _ HN.out.room)
 have HT := Aside0.mk (show TyA W2 A3 46 ∧ TyA W2 A4 34 by rw [hW2]; exact ⟨HN.out.t1.setRow _ _, HN.out.t2.setRow _ _⟩)
 have HS2 := Aside0.mk (show SrcB W2 R.1 A3 A4 by rw [hW2]; exact ⟨HN.out.src.devs.setRow (HN.out.t1.ne HN.out.room (by decide)) _, HN.out.src.spent.setRow (HN.out.t2.ne HN.out.room (by decide)) _, HN.out.src.few, HN.out.src.len⟩)
 rw [← hW2]
 clear hW2
 have v0 : W2.cell? ⟨r, 0, none⟩ = some (.int .i64 B.ver) := by rw [cell_of_heap (room_at HD.out.box HB2.out)]; rfl
 have HNV := Aside0.mk (show R.1.ver = B.ver by rw [HR.out]; exact next_ver rulesOf B o)
 obtain ⟨bv, hbv⟩ : ∃ bv, bv = B.ver := ⟨_, rfl⟩
 rw [← hbv] at v0 HNV
 have HBV := Aside0.mk hbv
 have HMX := Aside0.mk (show 0 ≤ bv ∧ bv ≤ 9007199254740991 by rw [hbv]; exact HWF.out.ver)
 obtain ⟨re, hre⟩ : ∃ re, re = R.2 := ⟨_, rfl⟩
 rw [← hre]
 have HRR := Aside0.mk hre
 have HG2 := Aside0.mk (show Below w.heap.size w W2 from HB0.out.trans (HB2.out.mono HB0.out.size))
 clear hbv hre
 by_cases e1 : re = 0
 rotate_left
 ·have e1b : (re == 0) = false := beq_eq_false_iff_ne.2 e1
  have HE1 := Aside0.mk e1
  clear e1
  have ST := Aside0.mk (run_storeAtK Tryz.prog W2 30 2 Tryz.sizeOf30 (q + 1) 0 [.int .i64 re, .int .i64 bv] rfl (by intro v hv; rcases List.mem_cons.1 hv with e | e; (rw [e]; rfl); (rw [List.mem_singleton.1 e]; rfl)) [.int .i64 0, .int .i64 0] 30 (room_at HQ2.out HB2.out) (by decide))
  have HF := Aside0.mk (setRow_heap W2 (q + 1) _ ([.int .i64 re, .int .i64 bv] : List Value).toArray 30 (0, 0) (room_at HQ2.out HB2.out))
  rw [show splice ([.int .i64 0, .int .i64 0] : List Value) 0 [.int .i64 re, .int .i64 bv] = [.int .i64 re, .int .i64 bv] from rfl] at ST
  go_wp2_with ((with_reducible refine at_store 30 (.tmp 4) (.tmp 49) ?_); refine wpList_storeK rfl 30 (.tmp 4) (.tmp 49) rfl rfl _ _ rfl rfl _ ST.out ?_)
  try simp only [Exit.inBlock, Exit.then]
  refine bodyPost_ret (results_row_tmp rfl _ _ (q + 1) 30 _ (0, 0) _ rfl HF.out Tryz.underlying30 rfl (by kernel_rfl)) rfl ?_
  have hE : RE = re := by rw [HRE.out.1]; unfold errOf; rw [← HR.out]; rw [← HRR.out, if_neg (fun h => HE1.out h.1)]
  have hB : RB = B := by rw [HRE.out.2]; unfold applyOf; rw [← HRE.out.1, hE]; rw [if_neg HE1.out]
  refine ⟨by rw [hE, hB, ← HBV.out]; rfl, ?_, ?_⟩
  ·rw [hB]
   exact RDir.other (W := W2) ⟨A1, c1, A2, c2, HD.out.below HB2.out⟩ (room_at HQ2.out HB2.out) (by decide) (by decide) (by have := HRQ.out; omega) (grownBy_setRow _ _ _)
  ·exact grownBy_more (grownBy_wide (grownBy_below HG2.out)) (grownBy_setRow _ _ _) (by have := HEQ.out.2.1; omega)
 by_cases e2 : bv = 9007199254740991
 ·have e2b : (bv == 9007199254740991) = true := beq_iff_eq.2 e2
  have HE2 := Aside0.mk e2
  subst e1
  clear e2
  have ST := Aside0.mk (run_storeAtK Tryz.prog W2 30 2 Tryz.sizeOf30 (q + 1) 0 [.int .i64 5, .int .i64 bv] rfl (by intro v hv; rcases List.mem_cons.1 hv with e | e; (rw [e]; rfl); (rw [List.mem_singleton.1 e]; rfl)) [.int .i64 0, .int .i64 0] 30 (room_at HQ2.out HB2.out) (by decide))
  have HF := Aside0.mk (setRow_heap W2 (q + 1) _ ([.int .i64 5, .int .i64 bv] : List Value).toArray 30 (0, 0) (room_at HQ2.out HB2.out))
  rw [show splice ([.int .i64 0, .int .i64 0] : List Value) 0 [.int .i64 5, .int .i64 bv] = [.int .i64 5, .int .i64 bv] from rfl] at ST
  go_wp2_with ((with_reducible refine at_store 30 (.tmp 4) (.tmp 49) ?_); refine wpList_storeK rfl 30 (.tmp 4) (.tmp 49) rfl rfl _ _ rfl rfl _ ST.out ?_)
  try simp only [Exit.inBlock, Exit.then]
  refine bodyPost_ret (results_row_tmp rfl _ _ (q + 1) 30 _ (0, 0) _ rfl HF.out Tryz.underlying30 rfl (by kernel_rfl)) rfl ?_
  have hE : RE = 5 := by rw [HRE.out.1]; unfold errOf; rw [← HR.out]; rw [HNV.out, ← HRR.out]; unfold maxN; rw [if_pos ⟨rfl, HE2.out⟩]
  have hB : RB = B := by rw [HRE.out.2]; unfold applyOf; rw [← HRE.out.1, hE]; rw [if_neg (by decide)]
  refine ⟨by rw [hE, hB, ← HBV.out]; rfl, ?_, ?_⟩
  ·rw [hB]
   exact RDir.other (W := W2) ⟨A1, c1, A2, c2, HD.out.below HB2.out⟩ (room_at HQ2.out HB2.out) (by decide) (by decide) (by have := HRQ.out; omega) (grownBy_setRow _ _ _)
  ·exact grownBy_more (grownBy_wide (grownBy_below HG2.out)) (grownBy_setRow _ _ _) (by have := HEQ.out.2.1; omega)
 ·have e2b : (bv == 9007199254740991) = false := beq_eq_false_iff_ne.2 e2
  have HE2 := Aside0.mk e2
  subst e1
  have LN := Aside0.mk (run_loadAtK Tryz.prog W2 43 5 Tryz.isAgg43 Tryz.sizeOf43 nb 0 (bookCells R.1 A3 c3 A4 c4) rfl (cells_of_heap HNB.out))
  have SN := Aside0.mk (run_storeAtK Tryz.prog W2 43 5 Tryz.sizeOf43 r 0 (bookCells R.1 A3 c3 A4 c4) rfl (by simpa using book_one R.1 A3 A4 c3 c4) (bookCells B A1 c1 A2 c2) 63 (room_at HD.out.box HB2.out) (Nat.le_refl 5))
  rw [show splice (bookCells B A1 c1 A2 c2) 0 (bookCells R.1 A3 c3 A4 c4) = bookCells R.1 A3 c3 A4 c4 from rfl] at SN
  obtain ⟨W3, hW3⟩ : ∃ W3, W3 = W2.setRow r (bookCells R.1 A3 c3 A4 c4).toArray := ⟨_, rfl⟩
  have HR3 := Aside0.mk (show W3.heap[r]? = some (.cells (bookCells R.1 A3 c3 A4 c4).toArray 63 (0, 0)) by rw [hW3]; exact setRow_heap _ _ _ _ _ _ (room_at HD.out.box HB2.out))
  have HG3 := Aside0.mk (show W2.grownBy W3 (some r) by rw [hW3]; exact grownBy_setRow _ _ _)
  rw [← hW3] at SN
  obtain ⟨CB, hCB⟩ : ∃ CB, CB = (bookCells R.1 A3 c3 A4 c4).toArray := ⟨_, rfl⟩
  rw [← hCB] at LN SN
  clear hW3 hCB e2
  go_upto_region 6 with (first | ((with_reducible refine at_load 43 (.tmp 6) ?_); refine wpList_loadK rfl 43 (.tmp 6) rfl _ rfl _ LN.out ?_) | ((with_reducible refine at_store 43 (.tmp 32) (.tmp 30) ?_); refine wpList_storeK rfl 43 (.tmp 32) (.tmp 30) rfl rfl _ _ rfl rfl _ SN.out ?_))
  clear v0
  have v0 : W3.cell? ⟨r, 0, none⟩ = some (.int .i64 bv) := by rw [cell_of_heap HR3.out, ← HNV.out]; rfl
  have fz : W3.frozen? ⟨r, 0, none⟩ = false := frozen_of_heap HR3.out
  have hmx := HMX.out
  have hw1 : wrap64 (bv + 1) = bv + 1 := IntWalk.wrap64_in _ ⟨by omega, by omega⟩
  have hw2 : IntKind.i64.wrap (bv + 1) = bv + 1 := by rw [IntWalk.i64_left]; exact hw1
  obtain ⟨W4, hW4⟩ : ∃ W4, W4 = W3.setCell ⟨r, 0, none⟩ (.int .i64 (bv + 1)) := ⟨_, rfl⟩
  have HR4 := Aside0.mk (show W4.heap[r]? = some (.cells (bookCells { R.1 with ver := bv + 1 } A3 c3 A4 c4).toArray 63 (0, 0)) by rw [hW4, heap_setCell_same W3 r 0 _ _ _ HR3.out]; rfl)
  have HG4 := Aside0.mk (show W3.grownBy W4 (some r) by rw [hW4, setCell_eq_setRow W3 r 0 _ _ _ _ HR3.out]; exact grownBy_setRow _ _ _)
  go_upto_region 7 with fail
  try rw [hw1]
  rw [← hW4]
  clear hW4 v0 fz hw1 hw2 hmx
  have v0 : W4.cell? ⟨r, 0, none⟩ = some (.int .i64 (bv + 1)) := by rw [cell_of_heap HR4.out]; rfl
  have HG := Aside0.mk (grownBy_trans HG3.out HG4.out)
  have HRM := Aside0.mk (show W4.heap[q + 1]? = some (.cells ([.int .i64 0, .int .i64 0] : List Value).toArray 30 (0, 0)) from (HG.out.block _ (Array.getElem?_eq_some_iff.1 (room_at HQ2.out HB2.out)).1 (fun e => by have h1 := HRQ.out; have h2 : q + 1 = r := Option.some.inj e; omega)).trans (room_at HQ2.out HB2.out))
  have ST := Aside0.mk (run_storeAtK Tryz.prog W4 30 2 Tryz.sizeOf30 (q + 1) 0 [.int .i64 0, .int .i64 (bv + 1)] rfl (by intro v hv; rcases List.mem_cons.1 hv with e | e; (rw [e]; rfl); (rw [List.mem_singleton.1 e]; rfl)) [.int .i64 0, .int .i64 0] 30 (HRM.out) (by decide))
  have HF := Aside0.mk (setRow_heap W4 (q + 1) _ ([.int .i64 0, .int .i64 (bv + 1)] : List Value).toArray 30 (0, 0) (HRM.out))
  rw [show splice ([.int .i64 0, .int .i64 0] : List Value) 0 [.int .i64 0, .int .i64 (bv + 1)] = [.int .i64 0, .int .i64 (bv + 1)] from rfl] at ST
  go_wp2_with ((with_reducible refine at_store 30 (.tmp 4) (.tmp 49) ?_); refine wpList_storeK rfl 30 (.tmp 4) (.tmp 49) rfl rfl _ _ rfl rfl _ ST.out ?_)
  try simp only [Exit.inBlock, Exit.then]
  refine bodyPost_ret (results_row_tmp rfl _ _ (q + 1) 30 _ (0, 0) _ rfl HF.out Tryz.underlying30 rfl (by kernel_rfl)) rfl ?_
  have hE : RE = 0 := by rw [HRE.out.1]; unfold errOf; rw [← HR.out]; rw [HNV.out, ← HRR.out]; unfold maxN; rw [if_neg (fun h => HE2.out h.2)]
  have hB : RB = { R.1 with ver := bv + 1 } := by rw [HRE.out.2]; unfold applyOf; rw [← HRE.out.1, hE]; rw [if_pos rfl, ← HR.out, HNV.out]
  refine ⟨by rw [hE, hB]; rfl, ?_, ?_⟩
  ·rw [hB]
   have n1 := HT.out.1.ne (room_at HD.out.box HB2.out) (by decide)
   have n2 := HT.out.2.ne (room_at HD.out.box HB2.out) (by decide)
   exact RDir.other (W := W4) ⟨A3, c3, A4, c4, HR4.out, ⟨HS2.out.devs.other HG.out n1, HS2.out.spent.other HG.out n2, HS2.out.few, HS2.out.len⟩, HT.out.1.other HG.out n1, HT.out.2.other HG.out n2⟩ HRM.out (by decide) (by decide) (by have := HRQ.out; omega) (grownBy_setRow _ _ _)
  ·exact grownBy_more (grownBy_trans (grownBy_wide (grownBy_below HG2.out)) HG.out) (grownBy_setRow _ _ _) (by have := HEQ.out.2.1; omega)
end Go.Proofs.YthnpiimiimiijaaGreatDoor.Dir
