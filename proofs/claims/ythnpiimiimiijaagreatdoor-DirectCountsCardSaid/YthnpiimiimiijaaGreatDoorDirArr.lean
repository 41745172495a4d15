/- Arrays of thirty cells beside a directory; which keys the asks name. -/
import Derived.Test.YthnpiimiimiijaaGreatDoorDirArg
namespace Go.Proofs.YthnpiimiimiijaaGreatDoor.Dir
open Go Go.RowKit Go.Proofs Go.Proofs.YthnpiimiimiijaaGreatDoorW.PrintWords Go.Proofs.YthnpiimiimiijaaGreatDoorW.PrintLast Go.Proofs.YthnpiimiimiijaaGreatDoorW.PrintMore
set_option linter.unusedVariables false
set_option linter.unusedSimpArgs false

/-- A row of thirty values in a block of its own. -/
def row30 (V : Nat → Value) : List Value := (List.range 30).map V
theorem row30_len (V : Nat → Value) : (row30 V).length = 30 := by simp [row30]
theorem row30_get (V : Nat → Value) (n : Nat) (hn : n < 30) : (row30 V)[n]? = some (V n) := by simp [row30, hn]
theorem row30_set (V : Nat → Value) (n : Nat) (hn : n < 30) (v : Value) : splice (row30 V) n [v] = row30 (fun m => if m = n then v else V m) := by
  have hl : (splice (row30 V) n [v]).length = 30 := by unfold splice; simp [row30_len]; omega
  refine List.ext_getElem? fun i => ?_
  by_cases hi : i < 30
  · rw [row30_get _ i hi]
    unfold splice
    by_cases h1 : i < n
    · rw [List.getElem?_append_left (by rw [List.length_take, row30_len]; omega), List.getElem?_take_of_lt h1, row30_get _ i hi, if_neg (Nat.ne_of_lt h1)]
    · rw [List.getElem?_append_right (by rw [List.length_take, row30_len]; omega), List.length_take, row30_len, Nat.min_eq_left (by omega)]
      by_cases h2 : i = n
      · subst h2
        simp
      · obtain ⟨k, hk⟩ : ∃ k, i = n + 1 + k := ⟨i - (n + 1), by omega⟩
        subst hk
        rw [if_neg (by omega), show n + 1 + k - n = k + 1 by omega]
        simp only [List.singleton_append, List.getElem?_cons_succ, List.getElem?_drop, List.length_singleton]
        exact row30_get _ _ hi
  · rw [List.getElem?_eq_none (by omega), List.getElem?_eq_none (by rw [row30_len]; omega)]
theorem row30_lit (v : Value) : #[v, v, v, v, v, v, v, v, v, v, v, v, v, v, v, v, v, v, v, v, v, v, v, v, v, v, v, v, v, v] = (row30 fun _ => v).toArray := by rfl
/-- An array of thirty cells. -/
structure Arr (w : World) (g : Nat) (T : TypeId) (V : Nat → Value) : Prop where
  at_ : w.heap[g]? = some (.cells (row30 V).toArray T (0, 0))
theorem Arr.cell {w : World} {g : Nat} {T : TypeId} {V : Nat → Value} (h : Arr w g T V) (n : Nat) (hn : n < 30) : w.cell? ⟨g, n, none⟩ = some (V n) := by
  rw [cell_of_heap h.at_]
  exact row30_get V n hn
theorem Arr.lt {w : World} {g : Nat} {T : TypeId} {V : Nat → Value} (h : Arr w g T V) : g < w.heap.size := (Array.getElem?_eq_some_iff.1 h.at_).1
theorem Arr.later {w w' : World} {g : Nat} {T : TypeId} {V : Nat → Value} (h : Arr w g T V) (hb : Below w.heap.size w w') : Arr w' g T V := ⟨(hb.block _ h.lt).trans h.at_⟩
theorem Arr.grown {w w' : World} {g q : Nat} {T : TypeId} {V : Nat → Value} (h : Arr w g T V) (hb : w.grownBy w' (some q)) (hq : g ≠ q) : Arr w' g T V := ⟨(hb.block _ h.lt (fun e => hq (Option.some.inj e))).trans h.at_⟩
theorem Arr.congr {w : World} {g : Nat} {T : TypeId} {V V' : Nat → Value} (h : Arr w g T V) (he : ∀ n, n < 30 → V n = V' n) : Arr w g T V' := by
  refine ⟨?_⟩
  rw [h.at_, show row30 V = row30 V' from List.map_congr_left fun n hn => he n (by simpa using hn)]
/-- One of its cells is stored. -/
theorem run_store1 (P : Program) (w : World) (t : TypeId) (hz : ∀ w, (Go.sizeOf t).run P w = .ok 1 w) (g n : Nat) (T : TypeId) (V : Nat → Value) (h : Arr w g T V) (hn : n < 30) (v : Value) (hv : v.cells = #[v]) (h1 : v.oneCell' = true) :
    ∃ w', (Instr.storeAt t (.pointer (some ⟨g, n, none⟩)) v).run P w = .ok () w' ∧ Arr w' g T (fun m => if m = n then v else V m) ∧ w.grownBy w' (some g) := by
  have hst := run_storeCells_at P g n T [v] 0 (row30 V).toArray w h.at_ (by simp [row30_len]; omega) (fun u hu => by simp at hu; subst hu; exact h1)
  refine ⟨w.setRow g (splice (row30 V) n [v]).toArray, ?_, ⟨?_⟩, grownBy_setRow w g _⟩
  · simp only [Instr.storeAt, Instr.sureAddr, storeVar, Sem.run_bind, Sem.run_pure, Result.andThen_ok, hz, hv]
    simp only [show (#[v] : Array Value).size = 1 from rfl, ne_eq, not_true_eq_false, if_false, Sem.run_pure, Result.andThen_ok]
    simpa [splice] using hst
  · rw [← row30_set V n hn]
    exact setRow_heap w g _ _ T _ h.at_

/-! ### beside a directory -/
theorem DirAt.other {w w' : World} {p : Nat} {B : Book} (h : DirAt w p B) {g : Nat} {cs : Array Value} {T : TypeId} {fr : Nat × Nat} (hg : w.heap[g]? = some (.cells cs T fr)) (h1 : T ≠ 83) (h2 : T ≠ 46) (h3 : T ≠ 34) (hw : w.grownBy w' (some g)) : DirAt w' p B := by
  obtain ⟨A1, c1, A2, c2, q1, q2, q3, q4⟩ := h
  have ne : ∀ {b : Nat} {ds : Array Value} {T' : TypeId} {fr' : Nat × Nat}, w.heap[b]? = some (.cells ds T' fr') → T ≠ T' → b ≠ g := fun hb hT e => by
    subst e
    rw [hg] at hb
    injection hb with hb; injection hb with _ hb
    exact hT hb
  refine ⟨A1, c1, A2, c2, (hw.block _ (Array.getElem?_eq_some_iff.1 q1).1 (fun e => ne q1 h1 (Option.some.inj e))).trans q1, ?_, q3, q4⟩
  refine ListsAt.kept q2 hw ?_ ?_
  · rcases q2.1.2 with ⟨e, _⟩ | ⟨b, _, _, e, _, hb, _⟩
    · rw [e]; exact .inl rfl
    · rw [e]; exact .inr fun e => ne hb h2 (Option.some.inj e)
  · rcases q2.2.1.2 with ⟨e, _⟩ | ⟨b, _, _, e, _, hb, _⟩
    · rw [e]; exact .inl rfl
    · rw [e]; exact .inr fun e => ne hb h3 (Option.some.inj e)
theorem Lists.other {w w' : World} {base : Nat} {B : Book} {A1 A2 : Option Addr} {c1 c2 : Nat} (q2 : Lists w base B A1 c1 A2 c2) {g : Nat} {cs : Array Value} {T : TypeId} {fr : Nat × Nat} (hg : w.heap[g]? = some (.cells cs T fr)) (h2 : T ≠ 46) (h3 : T ≠ 34) (hw : w.grownBy w' (some g)) : Lists w' base B A1 c1 A2 c2 := by
  have ne : ∀ {b : Nat} {ds : Array Value} {T' : TypeId} {fr' : Nat × Nat}, w.heap[b]? = some (.cells ds T' fr') → T ≠ T' → b ≠ g := fun hb hT e => by
    subst e
    rw [hg] at hb
    injection hb with hb; injection hb with _ hb
    exact hT hb
  refine ListsAt.kept q2 hw ?_ ?_
  · rcases q2.1.2 with ⟨e, _⟩ | ⟨b, _, _, e, _, hb, _⟩
    · rw [e]; exact .inl rfl
    · rw [e]; exact .inr fun e => ne hb h2 (Option.some.inj e)
  · rcases q2.2.1.2 with ⟨e, _⟩ | ⟨b, _, _, e, _, hb, _⟩
    · rw [e]; exact .inl rfl
    · rw [e]; exact .inr fun e => ne hb h3 (Option.some.inj e)
theorem DirSt.other {w W W' : World} {p : Nat} {B : Book} (h : DirSt w W p B) {g : Nat} {cs : Array Value} {T : TypeId} {fr : Nat × Nat} (hg : W.heap[g]? = some (.cells cs T fr)) (h1 : T ≠ 83) (h2 : T ≠ 46) (h3 : T ≠ 34) (hn : w.heap.size ≤ g) (hw : W.grownBy W' (some g)) : DirSt w W' p B :=
  ⟨h.at_.other hg h1 h2 h3 hw, h.fr.grown hw h.fr.size (fun k hk => by have : g = k := Option.some.inj hk; omega), h.new, h.wf, h.laid⟩
theorem DirAt.block {w : World} {p : Nat} {B : Book} (h : DirAt w p B) : ∃ cs fr, w.heap[p]? = some (.cells cs 83 fr) := by
  obtain ⟨A1, c1, A2, c2, q1, _⟩ := h
  exact ⟨_, _, q1⟩
theorem block_ne {w : World} {p g : Nat} {cs ds : Array Value} {S T : TypeId} {fr fr' : Nat × Nat} (h1 : w.heap[p]? = some (.cells cs S fr)) (h2 : w.heap[g]? = some (.cells ds T fr')) (h : S ≠ T) : p ≠ g := fun e => by
  subst e
  rw [h1] at h2
  injection h2 with h2; injection h2 with _ h2
  exact h h2

/-- A book in a variable, its lists beside it. -/
structure BkSt (w : World) (bk : Nat) (B : Book) (A1 : Option Addr) (c1 : Nat) (A2 : Option Addr) (c2 : Nat) : Prop where
  at_ : w.heap[bk]? = some (.cells (bookCells B A1 c1 A2 c2).toArray 43 (0, 0))
  lists : Lists w 0 B A1 c1 A2 c2
section
variable {w w' : World} {bk : Nat} {B : Book} {A1 A2 : Option Addr} {c1 c2 : Nat}
theorem BkSt.lt (h : BkSt w bk B A1 c1 A2 c2) : bk < w.heap.size := (Array.getElem?_eq_some_iff.1 h.at_).1
theorem BkSt.later (h : BkSt w bk B A1 c1 A2 c2) (hb : Below w.heap.size w w') : BkSt w' bk B A1 c1 A2 c2 := ⟨(hb.block _ h.lt).trans h.at_, h.lists.below hb⟩
theorem BkSt.other (h : BkSt w bk B A1 c1 A2 c2) {g : Nat} {cs : Array Value} {T : TypeId} {fr : Nat × Nat} (hg : w.heap[g]? = some (.cells cs T fr)) (h1 : T ≠ 43) (h2 : T ≠ 46) (h3 : T ≠ 34) (hw : w.grownBy w' (some g)) : BkSt w' bk B A1 c1 A2 c2 :=
  ⟨(hw.block _ h.lt (fun e => block_ne h.at_ hg (Ne.symm h1) (Option.some.inj e))).trans h.at_, h.lists.other hg h2 h3 hw⟩
theorem BkSt.cell2 (h : BkSt w bk B A1 c1 A2 c2) : w.cell? ⟨bk, 2, none⟩ = some (.slice A1 B.devs.length c1) := by rw [cell_of_heap h.at_]; rfl
theorem BkSt.cell3 (h : BkSt w bk B A1 c1 A2 c2) : w.cell? ⟨bk, 3, none⟩ = some (.slice A2 B.spent.length c2) := by rw [cell_of_heap h.at_]; rfl
/-- A device's cells. -/
theorem BkSt.dev (h : BkSt w bk B A1 c1 A2 c2) {j : Nat} {d : Dev} (hd : B.devs[j]? = some d) : ∃ g, A1 = some ⟨g, 0, none⟩ ∧ ∀ i v, (encD d)[i]? = some v → w.cell? ⟨g, j * 35 + i, none⟩ = some v := by
  have hlt := (List.getElem?_eq_some_iff.1 hd).1
  obtain ⟨g, rfl⟩ := owned_at h.lists.1 (by omega)
  exact ⟨g, rfl, fun i v hv => row_cell h.lists.1 (Below.refl _ w) (flatMap_at encD 35 encD_len B.devs j d hd i v hv)⟩
/-- A spent key's cells. -/
theorem BkSt.key (h : BkSt w bk B A1 c1 A2 c2) {j : Nat} {d : Key} (hd : B.spent[j]? = some d) : ∃ g, A2 = some ⟨g, 0, none⟩ ∧ ∀ i v, (encK d)[i]? = some v → w.cell? ⟨g, j * 32 + i, none⟩ = some v := by
  have hlt := (List.getElem?_eq_some_iff.1 hd).1
  obtain ⟨g, rfl⟩ := owned_at h.lists.2.1 (by omega)
  exact ⟨g, rfl, fun i v hv => row_cell h.lists.2.1 (Below.refl _ w) (flatMap_at encK 32 encK_len B.spent j d hd i v hv)⟩
end
/-- The key of a device of the book is loaded, in a later world. -/
theorem BkSt.loadDK {w : World} {bk : Nat} {B : Book} {A1 A2 : Option Addr} {c1 c2 : Nat} (h : BkSt w bk B A1 c1 A2 c2) {j : Nat} {d : Dev} (hd : B.devs[j]? = some d) :
    ∃ g, A1 = some ⟨g, 0, none⟩ ∧ ∀ W, Below w.heap.size w W → (Instr.loadAt 34 (.pointer (some ⟨g, j * 35 + 1, none⟩))).run Tryz.prog W = .ok (.agg (encK d.key).toArray) W := by
  obtain ⟨g, e, hc⟩ := h.dev hd
  refine ⟨g, e, fun W hb => run_loadAtK Tryz.prog W 34 32 Tryz.isAgg34 Tryz.sizeOf34 g (j * 35 + 1) (encK d.key) (encK_len _) (fun i v hv => ?_)⟩
  have := hc (1 + i) v (keyOfD d i v hv)
  rw [← Nat.add_assoc] at this
  rw [hb.cell (World.block_lt_of_cell? w _ this)]
  exact this
theorem BkSt.loadSK {w : World} {bk : Nat} {B : Book} {A1 A2 : Option Addr} {c1 c2 : Nat} (h : BkSt w bk B A1 c1 A2 c2) {j : Nat} {d : Key} (hd : B.spent[j]? = some d) :
    ∃ g, A2 = some ⟨g, 0, none⟩ ∧ ∀ W, Below w.heap.size w W → (Instr.loadAt 34 (.pointer (some ⟨g, j * 32, none⟩))).run Tryz.prog W = .ok (.agg (encK d).toArray) W := by
  obtain ⟨g, e, hc⟩ := h.key hd
  refine ⟨g, e, fun W hb => run_loadAtK Tryz.prog W 34 32 Tryz.isAgg34 Tryz.sizeOf34 g (j * 32) (encK d) (encK_len _) (fun i v hv => ?_)⟩
  have := hc i v hv
  rw [hb.cell (World.block_lt_of_cell? w _ this)]
  exact this

/-! ### the keys that the asks name -/
theorem steps_kind (rules : List UInt8 → Int) {b : Book} (hw : WF b) (o : Op) (h1 : o.kind ≠ 1) (h2 : o.kind ≠ 2) (ky : Key) : Steps b (applyOf rules b o) (errOf rules b o) ky := by
  unfold applyOf
  by_cases h : errOf rules b o = 0
  · rw [if_pos h, h]
    have h0 : (nextOf rules b o).2 = 0 := by
      unfold errOf at h
      split at h
      · exact absurd h (by simp)
      · exact h
    refine Steps.cast ?_ rfl rfl (b' := (nextOf rules b o).1)
    unfold nextOf at h0 ⊢
    rw [if_neg h1, if_neg h2] at h0 ⊢
    by_cases k3 : o.kind = 3
    · rw [if_pos k3] at h0 ⊢
      unfold revokeOf at h0 ⊢
      by_cases h1 : liveOf b o.node = 0
      · rw [if_pos h1]
        exact steps_rev hw (live_ok h1).1 _
      · rw [if_neg h1] at h0; exact absurd h0 h1
    · rw [if_neg k3] at h0 ⊢
      by_cases k4 : o.kind = 4
      · rw [if_pos k4]; exact Steps.same _ _ _ _ rfl rfl
      · rw [if_neg k4] at h0 ⊢
        by_cases k5 : o.kind = 5
        · rw [if_pos k5] at h0 ⊢
          unfold advanceOf at h0 ⊢
          by_cases h1 : o.at_ ≤ b.clock ∨ number o.at_ = false
          · rw [if_pos h1] at h0; exact absurd h0 (by simp)
          · rw [if_neg h1]; exact Steps.same _ _ _ _ rfl rfl
        · rw [if_neg k5] at h0; exact absurd h0 (by simp)
  · rw [if_neg h]
    exact Steps.same _ _ _ _ rfl rfl
/-- All keys of a book are of thirty. -/
def Named (b : Book) : Prop := ∀ k ∈ takenB b, ∃ m, m < 30 ∧ k = keyN m
theorem steps_taken {b b' : Book} {err : Int} {ky : Key} (S : Steps b b' err ky) {k : Key} (h : k ∈ takenB b') : k ∈ takenB b ∨ k = ky := by
  rcases List.mem_append.1 h with h | h
  · exact .inl (S.out k h)
  · obtain ⟨d', hd', rfl⟩ := List.mem_map.1 h
    rcases S.came d' hd' with ⟨d, g1, g2, -⟩ | ⟨-, -, -, g⟩
    · exact .inl (List.mem_append_right _ (List.mem_map.2 ⟨d, g1, g2⟩))
    · exact .inr g
theorem named_ask (rules : List UInt8 → Int) {b : Book} (hw : WF b) (a : AskV) (h : Named b) : Named (applyOf rules b (askOp a)) := by
  have S : ∃ m, m < 30 ∧ Steps b (applyOf rules b (askOp a)) (errOf rules b (askOp a)) (keyN m) := by
    by_cases h1 : a.kind % 6 = 0 ∨ a.kind % 6 = 1
    · refine ⟨(a.key % 30).toNat, by omega, ?_⟩
      have := steps_apply rules hw (askOp a)
      unfold askOp at this ⊢
      rw [if_pos h1] at this ⊢
      exact this
    · by_cases h2 : a.kind % 6 = 2 ∨ a.kind % 6 = 3
      · refine ⟨(a.key % 30).toNat, by omega, ?_⟩
        have := steps_apply rules hw (askOp a)
        unfold askOp at this ⊢
        rw [if_neg h1, if_pos h2] at this ⊢
        exact this
      · refine ⟨0, by omega, steps_kind rules hw _ ?_ ?_ _⟩
        all_goals
          unfold askOp
          rw [if_neg h1, if_neg h2]
          split <;> simp [revOp, advOp]
  obtain ⟨m, hm, S⟩ := S
  intro k hk
  rcases steps_taken S hk with h' | rfl
  · exact h k h'
  · exact ⟨m, hm, rfl⟩
theorem named_count {b : Book} (hw : WF b) (h : Named b) : (List.range 30).countP (fun n => decide (keyN n ∈ b.spent)) = b.spent.length := by
  rw [← count_named keyN 30 (fun i j hi hj e => keyN_inj (by omega) (by omega) e) b.spent (List.nodup_append.1 hw.keys).1 (fun k hk => h k (List.mem_append_left _ hk))]
  exact List.countP_congr fun n _ => by simp
theorem count_next (p : Nat → Bool) (n : Nat) : (List.range (n + 1)).countP p = (List.range n).countP p + (if p n = true then 1 else 0) := by
  rw [List.range_succ, List.countP_append, List.countP_singleton]
/-- Whether one of the first devices has a key. -/
def hasUpto (B : Book) (k : Key) (n : Nat) : Bool := (B.devs.take n).any fun d => decide (d.key = k)
theorem hasUpto_next {B : Book} {k : Key} {n : Nat} {d : Dev} (h : B.devs[n]? = some d) : hasUpto B k (n + 1) = (hasUpto B k n || decide (d.key = k)) := by
  unfold hasUpto
  rw [List.take_add_one, h, List.any_append]
  simp
theorem hasUpto_all (B : Book) (k : Key) : hasUpto B k B.devs.length = devHas B k := by unfold hasUpto devHas; rw [List.take_length]
def outUpto (B : Book) (k : Key) (n : Nat) : Bool := (B.spent.take n).any fun d => decide (d = k)
theorem outUpto_next {B : Book} {k : Key} {n : Nat} {d : Key} (h : B.spent[n]? = some d) : outUpto B k (n + 1) = (outUpto B k n || decide (d = k)) := by
  unfold outUpto
  rw [List.take_add_one, h, List.any_append]
  simp
theorem outUpto_all (B : Book) (k : Key) : outUpto B k B.spent.length = decide (k ∈ B.spent) := by
  unfold outUpto
  rw [List.take_length, Bool.eq_iff_iff, List.any_eq_true, decide_eq_true_eq]
  exact ⟨fun ⟨d, h1, h2⟩ => of_decide_eq_true h2 ▸ h1, fun h => ⟨k, h, decide_eq_true rfl⟩⟩
end Go.Proofs.YthnpiimiimiijaaGreatDoor.Dir
