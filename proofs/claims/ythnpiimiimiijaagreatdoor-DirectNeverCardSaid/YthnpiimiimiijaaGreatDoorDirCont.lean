/- slices.Contains at keys. -/
import Derived.Test.YthnpiimiimiijaaGreatDoorDirTaken
namespace Go.Proofs.YthnpiimiimiijaaGreatDoor.Dir
open Go Go.RowKit Go.Proofs Go.Proofs.YthnpiimiimiijaaGreatDoorW.PrintWords Go.Proofs.YthnpiimiimiijaaGreatDoorW.PrintLast Go.Proofs.YthnpiimiimiijaaGreatDoorW.PrintMore
set_option linter.unusedVariables false
set_option linter.unusedSimpArgs false

set_option maxHeartbeats 4000000 in
set_option maxRecDepth 100000 in
theorem index_key (l : List Key) (ky : Key) (A : Option Addr) (c base : Nat) (w : World) (h : w.ownsRow base 34 32 (.slice A l.length c) l.length (flatK l)) (hl : l.length ≤ 100) :
    Calls Tryz.prog 165 #[.slice A l.length c, .agg (encK ky).toArray] w fun e w' => ((e = .returned (.int .i64 (-1)) ∧ ky ∉ l) ∨ ∃ i : Nat, e = .returned (.int .i64 i) ∧ ky ∈ l) ∧ Below w.heap.size w w' := by
  obtain ⟨W0, hW0⟩ : ∃ W0, W0 = w.alloc (.cells (encK ky).toArray 34) := ⟨_, rfl⟩
  have hk0 : W0.heap[w.heap.size]? = some (.cells (encK ky).toArray 34 (0, 0)) := by rw [hW0]; exact heap_alloc_new w _
  have HB0 := Aside0.mk (show Below w.heap.size w W0 by rw [hW0]; exact (Below.refl w.heap.size w).alloc (Nat.le_refl _) _)
  have HW := Aside0.mk (pw_own_below h HB0.out)
  have HL2 := Aside0.mk (fun (W : World) (hs : Below W0.heap.size W0 W) => run_loadAtK Tryz.prog W 34 32 Tryz.isAgg34 Tryz.sizeOf34 w.heap.size 0 (encK ky) (encK_len _) (cells_of_heap (T := 34) (fr := (0, 0)) ((hs.block _ (Array.getElem?_eq_some_iff.1 hk0).1).trans hk0)))
  have HL := Aside0.mk hl
  have HE := Aside0.mk (fun (y : Key) => And.intro (eqlK ky y) (fun op a b w => guardK op a b ky y w))
  obtain ⟨X, hX⟩ : ∃ X, X = (encK ky).toArray := ⟨_, rfl⟩
  rw [← hX] at hW0 HL2 HE ⊢
  clear h hl hk0 hX
  go_enter Tryz.func165, Tryz.ntmps165
  go_upto_region 1 with fail
  rw [← hW0]
  clear hW0
  go_wp2
  go_loopg [5, 8] l.length (fun gg _ s8 wr => ∃ kk : Nat, kk ≤ l.length ∧ l.length - kk ≤ gg ∧ s8 = .int .i64 kk ∧ Aside0 (Below W0.heap.size W0 wr) ∧ Aside0 (∀ j, j < kk → ∀ d', l[j]? = some d' → d' ≠ ky))
  case atStart => exact ⟨0, Nat.zero_le _, by omega, rfl, ⟨Below.refl _ W0⟩, ⟨fun j hj => absurd hj (Nat.not_lt_zero _)⟩⟩
  case round =>
    obtain ⟨kk, hkk, hg, rfl, BW, AL⟩ := hrel
    have LL := HL.out
    by_cases hlt : kk < l.length
    · have hltz : (kk : Int) < (l.length : Int) := by omega
      obtain ⟨g, rfl⟩ := owned_at HW.out (by omega)
      obtain ⟨y, hy⟩ : ∃ y, l[kk]? = some y := ⟨_, List.getElem?_eq_getElem hlt⟩
      have Y := Aside0.mk hy
      clear hy
      go_wp2_with fail
      obtain ⟨he, hgd⟩ := HE.out y
      obtain ⟨YA, hYA⟩ : ∃ YA, YA = (encK y).toArray := ⟨_, rfl⟩
      have HYL := Aside0.mk (fun (W : World) (hs : Below W0.heap.size W0 W) => load_key HW.out hs Y.out)
      rw [← hYA] at he hgd HYL
      clear hYA
      refine start_ (n := 6) (S := fun W => Below W0.heap.size W0 W) (ds := []) #[false, false, false, false, false, false] (by kernel_rfl) rfl rfl BW.out.drew (fun hHeld => ?_)
      generalize World.drew _ = w5 at hHeld ⊢
      refine pure_ (i := 1) (N := (some 12)) (v := ?_) (a' := ?_) #[false, true, false, false, false, false] rfl rfl (by kernel_rfl) (fun _ _ _ h => h) (Or.inl ⟨by rfl, ?_⟩) ?_ ?_
      rotate_left
      · intro w'
        go_simp
        with_reducible rfl
      rotate_left
      · simp only [Act.put, List.setIfInBounds_toArray, List.set_cons_zero, List.set_cons_succ, i64_w, i32_w]
        rfl
      refine pure_ (i := 2) (N := (some 13)) (v := ?_) (a' := ?_) #[false, true, true, false, false, false] rfl rfl (by kernel_rfl) (fun _ _ _ h => h) (Or.inl ⟨by rfl, ?_⟩) ?_ ?_
      rotate_left
      · intro w'
        go_simp
        with_reducible rfl
      rotate_left
      · simp only [Act.put, List.setIfInBounds_toArray, List.set_cons_zero, List.set_cons_succ, i64_w, i32_w]
        rfl
      refine pure_ (i := 3) (N := (some 14)) (v := ?_) (a' := ?_) #[false, true, true, true, false, false] rfl rfl (by kernel_rfl) (fun _ _ _ h => h) (Or.inl ⟨by rfl, ?_⟩) ?_ ?_
      rotate_left
      · intro w'
        go_simp
        with_reducible rfl
      rotate_left
      · simp only [Act.put, List.setIfInBounds_toArray, List.set_cons_zero, List.set_cons_succ, i64_w, i32_w]
        rfl
      refine take_ (i := 0) (N := (some 11)) (v := _) (a' := ?_) #[true, true, true, true, false, false] rfl rfl (by kernel_rfl) (fun _ _ _ h => h) (Or.inl ⟨by rfl, fun w' hs => yields_load 34 (.tmp 3) _ rfl _ _ rfl _ (HL2.out w' hs)⟩) hHeld ?_ ?_
      rotate_left
      · simp only [Act.put, List.setIfInBounds_toArray, List.set_cons_zero, List.set_cons_succ, i64_w, i32_w]
        rfl
      refine take_ (i := 4) (N := (some 15)) (v := _) (a' := ?_) #[true, true, true, true, true, false] rfl rfl (by kernel_rfl) (fun _ _ _ h => h) (Or.inl ⟨by rfl, fun w' hs => yields_load 34 (.tmp 14) _ rfl _ _ rfl _ (HYL.out w' hs)⟩) hHeld ?_ ?_
      rotate_left
      · simp only [Act.put, List.setIfInBounds_toArray, List.set_cons_zero, List.set_cons_succ, i64_w, i32_w]
        rfl
      refine pure_ (i := 5) (N := (some 16)) (v := ?_) (a' := ?_) #[true, true, true, true, true, true] rfl rfl (by kernel_rfl) (fun _ _ _ h => h) (Or.inl ⟨by rfl, ?_⟩) ?_ ?_
      rotate_left
      · intro w'
        go_simp
        with_reducible rfl
      rotate_left
      · simp only [Act.put, List.setIfInBounds_toArray, List.set_cons_zero, List.set_cons_succ, i64_w, i32_w]
        rfl
      refine done_ (by kernel_rfl) ?_
      have HH := Aside0.mk hHeld
      clear hHeld
      by_cases hq : ky = y
      · have HQ := Aside0.mk hq
        rw [show decide (ky = y) = true from decide_eq_true hq]
        clear hq he hgd
        go_wp2
        go_ret
        exact ⟨.inr ⟨kk, rfl, by rw [HQ.out]; exact List.mem_of_getElem? Y.out⟩, below_step HB0.out HH.out⟩
      · have HQ := Aside0.mk hq
        rw [show decide (ky = y) = false from decide_eq_false hq]
        clear hq he hgd
        go_wp2
        go_roundg (l.length - (kk + 1))
        case measure => omega
        case rel =>
          refine ⟨kk + 1, by omega, by omega, by go_num, ⟨HH.out⟩, ⟨fun j hj d' hd' => ?_⟩⟩
          by_cases e : j = kk
          · subst e
            rw [Y.out] at hd'
            cases hd'
            exact fun e => HQ.out e.symm
          · exact AL.out j (by omega) d' hd'
    · have hltz : ¬ (kk : Int) < (l.length : Int) := by omega
      have : kk = l.length := by omega
      subst this
      go_wp2
      go_ret
      refine ⟨.inl ⟨rfl, fun hm => ?_⟩, below_step HB0.out BW.out⟩
      obtain ⟨j, hj⟩ := List.getElem?_of_mem hm
      exact AL.out j (List.getElem?_eq_some_iff.1 hj).1 ky hj rfl
set_option maxHeartbeats 1000000 in
set_option maxRecDepth 100000 in
theorem contains_any (l : List Key) (ky : Key) (A : Option Addr) (c base : Nat) (w : World) (h : w.ownsRow base 34 32 (.slice A l.length c) l.length (flatK l)) (hl : l.length ≤ 100) :
    Calls Tryz.prog 148 #[.slice A l.length c, .agg (encK ky).toArray] w fun e w' => e = .returned (.bool (decide (ky ∈ l))) ∧ Below w.heap.size w w' := by
  obtain ⟨W0, hW0⟩ : ∃ W0, W0 = w.alloc (.cells (encK ky).toArray 34) := ⟨_, rfl⟩
  have hk0 : W0.heap[w.heap.size]? = some (.cells (encK ky).toArray 34 (0, 0)) := by rw [hW0]; exact heap_alloc_new w _
  have HB0 := Aside0.mk (show Below w.heap.size w W0 by rw [hW0]; exact (Below.refl w.heap.size w).alloc (Nat.le_refl _) _)
  have l1 := Aside0.mk (run_loadAtK Tryz.prog W0 34 32 Tryz.isAgg34 Tryz.sizeOf34 w.heap.size 0 (encK ky) (encK_len _) (cells_of_heap hk0))
  have hc := Aside0.mk (index_key l ky A c base W0 (pw_own_below h HB0.out) hl)
  clear h hk0
  go_enter Tryz.func148, Tryz.ntmps148
  go_upto_region 1 with fail
  rw [← hW0]
  clear hW0
  go_wp2_with ((with_reducible refine at_load 34 (.tmp 3) ?_); refine wpList_loadK rfl 34 (.tmp 3) rfl _ rfl _ l1.out ?_)
  refine hc.out.mono ?_
  rintro e w' ⟨hr, hb⟩
  have HB := Aside0.mk hb
  clear hb
  rcases hr with ⟨rfl, hn⟩ | ⟨i, rfl, hm⟩
  · have HN := Aside0.mk hn
    clear hn
    go_wp2
    go_ret
    exact ⟨by rw [show decide (ky ∈ l) = false from decide_eq_false HN.out]; rfl, below_step HB0.out HB.out⟩
  · have hi : (0 : Int) ≤ (i : Int) := by omega
    have HM := Aside0.mk hm
    clear hm
    go_wp2
    go_ret
    exact ⟨by rw [show decide (ky ∈ l) = true from decide_eq_true HM.out]; rfl, below_step HB0.out HB.out⟩
end Go.Proofs.YthnpiimiimiijaaGreatDoor.Dir
