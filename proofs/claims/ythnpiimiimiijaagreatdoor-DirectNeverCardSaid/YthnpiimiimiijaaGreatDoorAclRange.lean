/- A range over a function whose pieces are known in their order: the loop's body may go on, leave, or panic; what the caller owes is its own invariant and one walk of its body. -/
import Derived.RangeFuncNested
import Derived.RangeFuncBound
import Derived.RangeFuncCalls
import Derived.RangeFuncLeaves
import Derived.RangeFuncWrites
namespace Go.Proofs.YthnpiimiimiijaaGreatDoor.Acl
open Go.RowKit

variable {F : Fence} {P : Program} {n : Nat}

/-- A round's end; a panic goes out of it where nothing is deferred. -/
def roundEnd (P : Program) (l : Nat) (R : Ending → World → Prop) : Exit → Act → World → Prop
  | .panic ch, a, w => a.defers = [] ∧ R (.panicked ch) w
  | e, a, w => roundPost P l R e a w

theorem round_walked {l : Nat} {f : FuncId} {tmps : Array Value} {assign body : Code} {w : World} {R : Ending → World → Prop} (hF : F.fn f) (hfn : (∃ ch w, R (.panicked ch) w) → ∃ fn, P.funcs[f]? = some fn)
    (h : assign.wpIn (F.inRound l) n P (Exit.then (fun a₁ w₁ => ∃ w₂, (Instr.beginRound l).run P w₁ = .ok () w₂ ∧ body.wpIn (F.inRound l) n P (roundEnd P l R) a₁ w₂) (fun _ _ _ => False))
      { tmps := tmps, defers := [] } w) :
    RoundIn F n P l f tmps assign body w R := by
  refine ⟨hF, fun c cs hr => ?_⟩
  obtain ⟨b, hb⟩ : ∃ b : Frame, b = { (default : Frame) with fn := f, kind := .normal, roundOf := some l } := ⟨_, rfl⟩
  have hbf : b.fn = f := by rw [hb]
  have hbr : b.roundOf = some l := by rw [hb]
  have hbk : b.kind = .normal := by rw [hb]
  have hfr : Frame.round l f tmps assign body .normal = b.atR { tmps := tmps, defers := [] } [.code assign, .beginRound, .code body] := by
    rw [hb]; simp [Frame.round, Frame.atR]
  have hroom : (F.inRound l).room ((c :: cs).length + 1 + n) := hr
  have hin : (F.inRound l).fn b.fn := by rw [hbf]; exact hF
  obtain ⟨e, a₁, w₁, hq, harr⟩ := h b [.beginRound, .code body] (c :: cs) hbr hin hroom
  rw [← hfr] at harr
  cases e with
  | normal =>
    obtain ⟨w₂, hbeg, hbody⟩ := hq
    have s1 : StepsIn (Machine.fenced P (F.inRound l)) P (lone (b.atR a₁ [.beginRound, .code body]) (c :: cs) w₁) (lone (b.atR a₁ [.code body]) (c :: cs) w₂) :=
      .one (fenced_calm (fr := b.atR a₁ [.beginRound, .code body]) hin hroom rfl) (stepR_beginRound hbr hbeg)
    obtain ⟨e₂, a₂, w₃, hq₂, harr₂⟩ := hbody b [] (c :: cs) hbr hin hroom
    have s2 := StepsIn.trans harr s1
    cases e₂ with
    | normal =>
      obtain ⟨v, w₄, hend, hR⟩ := hq₂
      exact ⟨.returned v, w₄, hR, s2.trans (StepsIn.trans harr₂ (.one (fenced_calm (fr := b.atR a₂ []) hin hroom rfl) (stepR_round_end hbr hbk hend)))⟩
    | ret =>
      obtain ⟨v, w₄, hend, hR⟩ := hq₂
      obtain ⟨k₁, hs⟩ := harr₂.2 (by rw [hbr]; rfl)
      exact ⟨.returned v, w₄, hR, s2.trans (StepsIn.trans hs (.one (fenced_calm (fr := b.atR a₂ (.code .ret :: k₁)) hin hroom rfl) (stepR_round_ret hbr hbk hend)))⟩
    | exit id =>
      obtain ⟨v, w₄, hend, hR⟩ := hq₂
      obtain ⟨k₁, hk, hs⟩ := harr₂.2 (by rw [hbr]; rfl) rfl
      exact ⟨.returned v, w₄, hR, s2.trans (StepsIn.trans hs (.one (fenced_calm (fr := b.atR a₂ (.code (.exit id) :: k₁)) hin hroom rfl) (stepR_round_exit hbr hbk hk hend)))⟩
    | goto t =>
      obtain ⟨v, w₄, hend, hR⟩ := hq₂
      obtain ⟨k₁, hk, hs⟩ := harr₂.2 (by rw [hbr]; rfl) rfl
      exact ⟨.returned v, w₄, hR, s2.trans (StepsIn.trans hs (.one (fenced_calm (fr := b.atR a₂ (.code (.goto t) :: k₁)) hin hroom rfl) (stepR_round_goto hbr hbk hk hend)))⟩
    | panic ch =>
      obtain ⟨hd, hR⟩ := hq₂
      obtain ⟨todo, hs⟩ := harr₂
      obtain ⟨fn, hfn⟩ := hfn ⟨ch, w₃, hR⟩
      have hl : ({ b.atR a₂ todo with mode := .panicking ch } : Frame).leaving P w₃ (.panicked ch) := ⟨rfl, hd, fn, by show P.funcs[b.fn]? = some fn; rw [hbf]; exact hfn⟩
      have hab : ({ b.atR a₂ todo with mode := .panicking ch } : Frame).about P w₃ = none := by simp [Frame.about, Frame.atR, hd]
      exact ⟨.panicked ch, w₃, hR, s2.trans (StepsIn.trans hs (.one (fenced_calm (fr := { b.atR a₂ todo with mode := .panicking ch }) hin hroom hab) (step_leave_panicked hl)))⟩
    | outgrown => exact hq₂.elim
  | exit id => exact hq.elim
  | goto t => exact hq.elim
  | ret => exact hq.elim
  | panic ch => exact hq.elim
  | outgrown => exact hq.elim

/-- An iterator that hands over known pieces in their order. -/
def IterKnown (F : Fence) (P : Program) (m gf : Nat) (lb : Array Value) (encs : List (Array Value)) (keep aside : World → World → Prop) (W0 : World) : Prop :=
  ∀ (l : Nat) (J : Nat → World → Prop) (Jx : World → Prop) (Jp : List PanicEntry → World → Prop),
    (∀ i W W', J i W → aside W W' → J i W') →
    (∀ i x W1, encs[i]? = some x → J i W1 → YieldAt F (m - 1) P l x W1 fun e W' =>
      (e = .returned (.bool true) ∧ J (i + 1) W' ∧ keep W1 W') ∨ (e = .returned (.bool false) ∧ Jx W') ∨ (∃ ch, e = .panicked ch ∧ Jp ch W')) →
    ∀ W, keep W0 W → J 0 W → CallsIn F m P gf (#[.func (.yield l) #[] #[]] ++ lb) W fun e W' =>
      ((∃ v, e = .returned v) ∧ (J encs.length W' ∨ Jx W')) ∨ (∃ ch, e = .panicked ch ∧ Jp ch W')

/-- How the body of round i may be left. -/
def bodyEnd (B : Nat) (keep : World → World → Prop) (I : Nat → World → Prop) (Ix : Code → World → Prop) (Ip : List PanicEntry → World → Prop) (i : Nat) (W : World) : Exit → Act → World → Prop
  | .normal, _, W' => KeepsFrom B W W' ∧ keep W W' ∧ I (i + 1) W'
  | .ret, _, W' => KeepsFrom B W W' ∧ Ix .ret W'
  | .exit id, _, W' => KeepsFrom B W W' ∧ Ix (.exit id) W'
  | .goto t, _, W' => KeepsFrom B W W' ∧ Ix (.goto t) W'
  | .panic ch, a, W' => a.defers = [] ∧ KeepsFrom B W W' ∧ Ip ch W'
  | .outgrown, _, _ => False

/-- What a caller's own facts must bear: the turn of a block that is no cells and lies at or beyond B. -/
def Turns (B : Nat) (I : World → Prop) : Prop := ∀ W l o o', I W → B ≤ l → W.heap[l]? = some o → o.isCells = false → I (W.putObj l o')

theorem range_known (hro : F.round = none) (hde : F.depth = none) {g : Operand} {ps : Array Tmp} {assign body : Code} {Q : Exit → Act → World → Prop} {a : Act} {w : World}
    {gf : Nat} {lb : Array Value} (hg : a.eval g = .func (.func gf) #[] lb) (hFg : F.fn gf) (eg : ∀ args w, (callFunc gf args).run P w = .ok (.enter gf args) w)
    {encs : List (Array Value)} {keep aside : World → World → Prop} (hit : IterKnown F P (n - 1) gf lb encs keep aside w)
    (hkt : ∀ A B C, keep A B → keep B C → keep A C) (hka : ∀ A o, w.heap.size ≤ A.heap.size → keep A (A.alloc o)) (hkp : ∀ W l o o', w.heap.size ≤ l → W.heap[l]? = some o → o.isCells = false → keep W (W.putObj l o'))
    (hao : ∀ W W' (k : Nat) (o : Obj), aside W W' → w.heap.size ≤ k → W.heap[k]? = some o → o.isCells = false → W'.heap[k]? = some o)
    (hps : ∀ x ∈ encs, x.size = ps.size)
    (I : Nat → World → Prop) (Ix : Code → World → Prop) (Ip : List PanicEntry → World → Prop) (hfun : (∃ ch W, Ip ch W) → ∀ f, F.fn f → ∃ fn, P.funcs[f]? = some fn)
    (hI : ∀ i, Turns w.heap.size (I i)) (hIx : ∀ c, Turns w.heap.size (Ix c)) (hIa : ∀ i W W', I i W → aside W W' → I i W')
    (h0 : ∀ o o', I 0 ((w.alloc o).alloc o')) (a₁ : Nat → Act)
    (hassign : ∀ (l i : Nat) (x : Array Value) (W : World) (K : Act → World → Prop), encs[i]? = some x → K (a₁ i) W →
      assign.wpIn (F.inRound l) (n - 1 - 1) P (Exit.then K (fun _ _ _ => False)) { tmps := (ps.zip x).foldl (fun t (p, v) => t.setIfInBounds p v) a.tmps, defers := [] } W)
    (hbody : ∀ (l i : Nat) (W : World), i < encs.length → I i W → body.wpIn (F.inRound l) (n - 1 - 1) P (bodyEnd w.heap.size keep I Ix Ip i W) (a₁ i) W)
    (hdone : ∀ (D : Nat) (W : World), w.heap.size ≤ D → I encs.length W → W.heap[D]? = some (.deferred (some [])) → Q .normal { a with defers := { target := .collected D, args := #[] } :: a.defers } W)
    (hstop : ∀ (D : Nat) (c : Code) (W : World), w.heap.size ≤ D → Ix c W → W.heap[D]? = some (.deferred (some [])) → c.wpIn F n P Q { a with defers := { target := .collected D, args := #[] } :: a.defers } W)
    (hpanic : ∀ (D : Nat) (ch : List PanicEntry) (W : World), w.heap.size ≤ D → Ip ch W → W.heap[D]? = some (.deferred (some [])) → Q (.panic ch) { a with defers := { target := .collected D, args := #[] } :: a.defers } W) :
    (Code.rangeFunc g ps assign body).wpIn F n P Q a w := by
  refine wpIn_rangeFunc ?_
  intro fn hfn
  rw [hro]
  obtain ⟨rec, hrec⟩ : ∃ rec : LoopState → Option Code → Loop, rec = fun st pe => { state := st, pending := pe, fn, tmps := a.tmps, params := ps, assign, body, defers := w.heap.size } := ⟨_, rfl⟩
  obtain ⟨W1, hW1⟩ : ∃ W1, (w.alloc (.deferred (some []))).alloc (.loop (rec .ready none)) = W1 := ⟨_, rfl⟩
  have hL1 : W1.heap[w.heap.size + 1]? = some (.loop (rec .ready none)) := by
    rw [← hW1]; have := World.alloc_heap_new (w.alloc (.deferred (some []))) (.loop (rec .ready none)); rwa [World.size_alloc] at this
  have hK1 : W1.heap[w.heap.size]? = some (.deferred (some [])) := by
    rw [← hW1]; exact (Below.heap_alloc _ _ _ (by simp)).trans (World.alloc_heap_new w _)
  have hI1 : I 0 W1 := by rw [← hW1]; exact h0 _ _
  have hkeep1 : keep w W1 := by rw [← hW1]; exact hkt _ _ _ (hka _ _ (Nat.le_refl _)) (hka _ _ (by simp))
  refine ⟨w.heap.size + 1, [{ target := .collected w.heap.size, args := #[] }], W1, { target := .fn (.func gf) lb, args := #[.func (.yield (w.heap.size + 1)) #[] #[]] }, W1, gf,
    #[.func (.yield (w.heap.size + 1)) #[] #[]] ++ lb, W1, ?_, ?_, ?_, ?_, (fun h => by rw [hde] at h; cases h), ?_⟩
  · rw [← hW1, hrec]; exact run_enterLoop_outer _ _ _ _ _
  · simp only [resolve, hg]
    simp [go_sem]
  · intro f' hf'; simp [Target.leads] at hf'; subst hf'; exact hFg
  · simp [invoke, go_sem, eg]
  · refine (hit (w.heap.size + 1)
      (fun i W => I i W ∧ W.heap[w.heap.size + 1]? = some (.loop (rec .ready none)) ∧ W.heap[w.heap.size]? = some (.deferred (some [])))
      (fun W => ∃ c, Ix c W ∧ W.heap[w.heap.size + 1]? = some (.loop (rec .done (some c))) ∧ W.heap[w.heap.size]? = some (.deferred (some [])))
      (fun ch W => Ip ch W ∧ W.heap[w.heap.size]? = some (.deferred (some [])))
      (fun i W W' hs ha => ⟨hIa i W W' hs.1 ha, hao W W' _ _ ha (by omega) hs.2.1 rfl, hao W W' _ _ ha (by omega) hs.2.2 rfl⟩)
      ?_ W1 hkeep1 ⟨hI1, hL1, hK1⟩).mono ?_
    · -- one round
      rintro i x W hix ⟨hi, hl, hk⟩
      have hlt : w.heap.size + 1 < W.heap.size := (Array.getElem?_eq_some_iff.1 hl).1
      have hy := run_yield (P := P) (args := x) hl (by rw [hrec]; exact hps x (List.mem_of_getElem? hix))
      rw [hrec] at hy
      refine ⟨fn, _, assign, body, hy, round_walked hfn ?_ (hassign _ i x W _ hix ⟨_, run_beginRound hl (by rw [hrec]), ?_⟩)⟩
      · rintro ⟨ch, W2, h⟩
        rcases h with ⟨h, _⟩ | ⟨h, _⟩ | ⟨ch', _, h, _⟩
        · cases h
        · cases h
        · exact hfun ⟨ch', W2, h⟩ fn hfn
      have hl2 : (W.putObj (w.heap.size + 1) (.loop { rec .ready none with state := .busy })).heap[w.heap.size + 1]? = some (.loop { rec .ready none with state := .busy }) := World.putObj_heap_same hlt
      have hk2 : (W.putObj (w.heap.size + 1) (.loop { rec .ready none with state := .busy })).heap[w.heap.size]? = some (.deferred (some [])) := (World.putObj_heap_other (by omega)).trans hk
      have hw2 : keep W (W.putObj (w.heap.size + 1) (.loop { rec .ready none with state := .busy })) := hkp _ _ _ _ (by omega) hl rfl
      refine wpIn_mono (hbody _ i _ (List.getElem?_eq_some_iff.1 hix).1 (hI i _ _ _ _ hi (by omega) hl rfl)) ?_
      have fin : ∀ (jump : Option Code) (W3 : World), KeepsFrom w.heap.size (W.putObj (w.heap.size + 1) (.loop { rec .ready none with state := .busy })) W3 →
          (Instr.endRound (w.heap.size + 1) jump).run P W3 = .ok (.bool jump.isNone) (W3.putObj (w.heap.size + 1) (.loop (rec (if jump.isNone then .ready else .done) jump))) ∧
          W3.heap[w.heap.size + 1]? = some (.loop { rec .ready none with state := .busy }) ∧
          (W3.putObj (w.heap.size + 1) (.loop (rec (if jump.isNone then .ready else .done) jump))).heap[w.heap.size + 1]? = some (.loop (rec (if jump.isNone then .ready else .done) jump)) ∧
          (W3.putObj (w.heap.size + 1) (.loop (rec (if jump.isNone then .ready else .done) jump))).heap[w.heap.size]? = some (.deferred (some [])) := fun jump W3 hk3 => by
        have hl3 := hk3.same _ _ (by omega) hl2 rfl
        have := run_endRound (P := P) jump hl3
        rw [hrec] at this ⊢
        exact ⟨this, by rw [hrec] at hl3; exact hl3, World.putObj_heap_same (Array.getElem?_eq_some_iff.1 hl3).1, (World.putObj_heap_other (by omega)).trans (hk3.same _ _ (Nat.le_refl _) hk2 rfl)⟩
      rintro e a3 W3 hp
      cases e with
      | normal =>
        obtain ⟨hk3, hkp3, hi3⟩ := hp
        obtain ⟨hr, hl3, hl4, hk4⟩ := fin none W3 hk3
        exact ⟨_, _, hr, .inl ⟨rfl, ⟨hI _ _ _ _ _ hi3 (by omega) hl3 rfl, hl4, hk4⟩, hkt _ _ _ (hkt _ _ _ hw2 hkp3) (hkp _ _ _ _ (by omega) hl3 rfl)⟩⟩
      | ret =>
        obtain ⟨hk3, hi3⟩ := hp
        obtain ⟨hr, hl3, hl4, hk4⟩ := fin (some .ret) W3 hk3
        exact ⟨_, _, hr, .inr (.inl ⟨rfl, .ret, hIx _ _ _ _ _ hi3 (by omega) hl3 rfl, hl4, hk4⟩)⟩
      | exit id =>
        obtain ⟨hk3, hi3⟩ := hp
        obtain ⟨hr, hl3, hl4, hk4⟩ := fin (some (.exit id)) W3 hk3
        exact ⟨_, _, hr, .inr (.inl ⟨rfl, .exit id, hIx _ _ _ _ _ hi3 (by omega) hl3 rfl, hl4, hk4⟩)⟩
      | goto t =>
        obtain ⟨hk3, hi3⟩ := hp
        obtain ⟨hr, hl3, hl4, hk4⟩ := fin (some (.goto t)) W3 hk3
        exact ⟨_, _, hr, .inr (.inl ⟨rfl, .goto t, hIx _ _ _ _ _ hi3 (by omega) hl3 rfl, hl4, hk4⟩)⟩
      | panic ch =>
        obtain ⟨hd, hk3, hi3⟩ := hp
        exact ⟨hd, .inr (.inr ⟨ch, rfl, hi3, hk3.same _ _ (Nat.le_refl _) hk2 rfl⟩)⟩
      | outgrown => exact hp.elim
    · -- behind the iterator
      rintro e W2 (⟨⟨v, rfl⟩, (⟨hi, hl, hk⟩ | ⟨c, hi, hl, hk⟩)⟩ | ⟨ch, rfl, hi, hk⟩)
      · exact ⟨none, _, by have := run_endLoop (P := P) hl (by rw [hrec]; simp); rw [hrec] at this; exact this, hdone _ _ (Nat.le_refl _) (hI _ _ _ _ _ hi (by omega) hl rfl) ((World.putObj_heap_other (by omega)).trans hk)⟩
      · exact ⟨some c, _, by have := run_endLoop (P := P) hl (by rw [hrec]; simp); rw [hrec] at this; exact this, hstop _ c _ (Nat.le_refl _) (hIx c _ _ _ _ hi (by omega) hl rfl) ((World.putObj_heap_other (by omega)).trans hk)⟩
      · exact hpanic _ ch _ (Nat.le_refl _) hi hk
end Go.Proofs.YthnpiimiimiijaaGreatDoor.Acl
