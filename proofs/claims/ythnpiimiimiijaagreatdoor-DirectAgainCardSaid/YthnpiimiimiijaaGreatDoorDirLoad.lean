/- direct.Load; two directories side by side. -/
import Derived.Test.YthnpiimiimiijaaGreatDoorDirOk
import Derived.Test.YthnpiimiimiijaaGreatDoorDirArr
namespace Go.Proofs.YthnpiimiimiijaaGreatDoor.Dir
open Go Go.RowKit Go.Proofs Go.Proofs.YthnpiimiimiijaaGreatDoorW.PrintWords Go.Proofs.YthnpiimiimiijaaGreatDoorW.PrintLast Go.Proofs.YthnpiimiimiijaaGreatDoorW.PrintMore
set_option linter.unusedVariables false
set_option linter.unusedSimpArgs false

/-- A book behind a check, of a directory. -/
theorem dirAt_of {w : World} {base : Nat} {B : Book} {A1 A2 : Option Addr} {c1 c2 : Nat} (h : Lists w base B A1 c1 A2 c2) : DirAt (w.alloc (.cells (.bool true :: bookCells B A1 c1 A2 c2).toArray 83)) w.heap.size B :=
  ⟨A1, c1, A2, c2, heap_alloc_new w _, (h.lower (Nat.zero_le _)).below ((Below.refl _ w).alloc (Nat.le_refl _) _), fun k hk => Nat.ne_of_lt (h.1.lt k hk).2, fun k hk => Nat.ne_of_lt (h.2.1.lt k hk).2⟩
def LoadEnd (w w' : World) (B : Book) (e : Ending) : Prop :=
  (∃ p, e = .returned (.tuple #[.pointer (some ⟨p, 0, none⟩), .int .i64 0]) ∧ OkB B ∧ DirAt w' p B ∧ w.heap.size ≤ p) ∨ (e = .returned (.tuple #[.pointer none, .int .i64 2]) ∧ ¬ OkB B)
set_option maxHeartbeats 4000000 in
set_option maxRecDepth 100000 in
theorem load_any (B : Book) (A1 : Option Addr) (c1 : Nat) (A2 : Option Addr) (c2 : Nat) (w : World) (h : SrcB w B A1 A2) (hbare : Bare A1) (hx : PA.LaidW w) :
    Calls Tryz.prog 23 #[.agg (bookCells B A1 c1 A2 c2).toArray] w fun e w' => LoadEnd w w' B e ∧ Below w.heap.size w w' := by
  obtain ⟨W0, hW0⟩ : ∃ W0, W0 = w.alloc (.cells (bookCells B A1 c1 A2 c2).toArray 43) := ⟨_, rfl⟩
  have hb0 : Below w.heap.size w W0 := by rw [hW0]; exact (Below.refl _ w).alloc (Nat.le_refl _) _
  obtain ⟨b0, hb0'⟩ : ∃ b0, b0 = w.heap.size := ⟨_, rfl⟩
  have q1 : W0.heap[b0]? = some (.cells (bookCells B A1 c1 A2 c2).toArray 43 (0, 0)) := by rw [hW0, hb0']; exact heap_alloc_new w _
  have l1 := run_loadAtK Tryz.prog W0 43 5 Tryz.isAgg43 Tryz.sizeOf43 b0 0 (bookCells B A1 c1 A2 c2) rfl (cells_of_heap q1)
  have hS := h.later hb0
  have hck := check_any B A1 c1 A2 c2 W0 hS.devs hS.spent hS.few hS.len hbare (hx.below hb0)
  obtain ⟨BA, hBA⟩ : ∃ BA, BA = (bookCells B A1 c1 A2 c2).toArray := ⟨_, rfl⟩
  have LW : ∀ W, Below W0.heap.size W0 W → (Instr.loadAt 43 (.pointer (some ⟨b0, 0, none⟩))).run Tryz.prog W = .ok (.agg BA) W := fun W hb => by
    rw [hBA]; exact run_loadAtK Tryz.prog W 43 5 Tryz.isAgg43 Tryz.sizeOf43 b0 0 (bookCells B A1 c1 A2 c2) rfl (cells_of_heap ((hb.block _ (Array.getElem?_eq_some_iff.1 q1).1).trans q1))
  have HOWN := Aside0.mk (fun (W : World) (hb : Below W0.heap.size W0 W) (hf : Few B) => own_book B A1 A2 c1 c2 W (hS.later hb).devs (hS.later hb).spent hf)
  rw [← hBA] at l1 hck HOWN hW0 ⊢
  have L1 := Aside0.mk l1
  have HCK := Aside0.mk hck
  have HLW := Aside0.mk LW
  have HB0 := Aside0.mk hb0
  clear h hbare hx hb0 q1 l1 hS hck hBA LW
  go_enter Tryz.func23, Tryz.ntmps23
  go_upto_region 1 with fail
  rw [← hW0, ← hb0']
  have HB0' := Aside0.mk hb0'
  clear hW0 hb0'
  go_wp2_with ((with_reducible refine at_load 43 (.tmp 1) ?_); refine wpList_loadK rfl 43 (.tmp 1) rfl _ rfl _ L1.out ?_)
  refine HCK.out.mono ?_
  rintro e w1 ⟨hce, hb1⟩
  have HB1 := Aside0.mk hb1
  clear hb1
  rcases hce with ⟨rfl, hok⟩ | ⟨rfl, hno⟩
  · have HOK := Aside0.mk hok
    have L2 := Aside0.mk (HLW.out w1 HB1.out)
    have HO := Aside0.mk (HOWN.out w1 HB1.out ⟨hok.few, hok.len⟩)
    clear hok
    go_wp2_with ((with_reducible refine at_load 43 (.tmp 1) ?_); refine wpList_loadK rfl 43 (.tmp 1) rfl _ rfl _ L2.out ?_)
    refine HO.out.mono ?_
    rintro e w2 ⟨A3, c3, A4, c4, rfl, hL, -, -, hb2⟩
    have HL := Aside0.mk hL
    have HB2 := Aside0.mk (below_step HB1.out hb2)
    clear hL hb2
    rw [show (bookCells B A3 c3 A4 c4).toArray = #[.int .i64 B.ver, .int .i64 B.clock, .slice A3 B.devs.length c3, .slice A4 B.spent.length c4, .string (str B.acl)] from rfl]
    go_wp2_with fail
    go_ret2
    refine ⟨.inl ⟨w2.heap.size, rfl, HOK.out, ?_, ?_⟩, ?_⟩
    · exact dirAt_of HL.out
    · exact Nat.le_trans HB0.out.size HB2.out.size
    · exact (below_step HB0.out HB2.out).alloc (Nat.le_trans HB0.out.size HB2.out.size) _
  · have HNO := Aside0.mk hno
    clear hno
    go_wp2_with fail
    go_ret2
    exact ⟨.inr ⟨rfl, HNO.out⟩, below_step HB0.out HB1.out⟩

/-- A directory beside another one that is written. -/
theorem DirAt.beside {w w' : World} {p q : Nat} {B : Book} (h : DirAt w q B) {cs : Array Value} {fr : Nat × Nat} (hp : w.heap[p]? = some (.cells cs 83 fr)) (hne : q ≠ p) (hw : w.grownBy w' (some p)) : DirAt w' q B := by
  obtain ⟨A1, c1, A2, c2, q1, q2, q3, q4⟩ := h
  exact ⟨A1, c1, A2, c2, (hw.block _ (Array.getElem?_eq_some_iff.1 q1).1 (fun e => hne (Option.some.inj e))).trans q1, q2.other hp (by decide) (by decide) hw, q3, q4⟩
theorem DirSt.beside {w W W' : World} {p q : Nat} {B C : Book} (h : DirSt w W q C) (hp : DirSt w W p B) (hne : q ≠ p) (hw : W.grownBy W' (some p)) : DirSt w W' q C := by
  obtain ⟨cs, fr, hc⟩ := hp.at_.block
  exact ⟨h.at_.beside hc hne hw, h.fr.grown hw h.fr.size (fun k hk => by have := hp.new; have : p = k := Option.some.inj hk; omega), h.new, h.wf, h.laid⟩
theorem pairwise_of_adj : ∀ (l : List Key), (∀ i x y, l[i]? = some x → l[i + 1]? = some y → ltK x y = true) → l.Pairwise (fun a b => ltK a b = true)
  | [], _ => List.Pairwise.nil
  | [a], _ => List.pairwise_singleton _ a
  | a :: b :: r, h => by
    have ih := pairwise_of_adj (b :: r) (fun i x y hx hy => h (i + 1) x y (by simpa using hx) (by simpa using hy))
    refine List.pairwise_cons.2 ⟨fun c hc => ?_, ih⟩
    have hab := h 0 a b rfl rfl
    rcases List.mem_cons.1 hc with e | e
    · rw [e]; exact hab
    · exact ltK_trans hab ((List.pairwise_cons.1 ih).1 c e)
theorem nodup_of_lt {l : List Key} (h : l.Pairwise (fun a b => ltK a b = true)) : l.Nodup := h.imp fun {a b} hab e => by
  subst e
  rw [ltK_irrefl] at hab; cases hab
theorem devsOk_to : ∀ (l : List Dev) (last : Int), devsOk last l = true → (∀ d ∈ l, last < d.node) ∧ l.Pairwise (fun a b => a.node < b.node) ∧ (∀ d ∈ l, d.node ≤ 8) ∧ (∀ d ∈ l, 1 ≤ d.exp ∧ d.exp ≤ maxN)
  | [], _, _ => ⟨by simp, List.Pairwise.nil, by simp, by simp⟩
  | d :: l, last, h => by
    unfold devsOk number at h
    simp only [Bool.and_eq_true, decide_eq_true_eq] at h
    obtain ⟨⟨⟨⟨h1, h2⟩, h3⟩, h4⟩, h5⟩ := h
    obtain ⟨i1, i2, i3, i4⟩ := devsOk_to l d.node h5
    refine ⟨fun x hx => ?_, List.pairwise_cons.2 ⟨i1, i2⟩, fun x hx => ?_, fun x hx => ?_⟩
    · rcases List.mem_cons.1 hx with e | e
      · rw [e]; exact h1
      · have := i1 x e; omega
    · rcases List.mem_cons.1 hx with e | e
      · rw [e]; exact h2
      · exact i3 x e
    · rcases List.mem_cons.1 hx with e | e
      · rw [e]; exact ⟨h3, h4.2⟩
      · exact i4 x e
theorem wf_of_ok {B : Book} (h : OkB B) : WF B := by
  obtain ⟨d1, d2, d3, d4⟩ := devsOk_to _ _ h.devs
  have hs : (sortL (takenB B)).Pairwise (fun a b => ltK a b = true) := pairwise_of_adj _ fun i x y hx hy => by
    obtain ⟨h1, e1⟩ := List.getElem?_eq_some_iff.1 hx
    obtain ⟨h2, e2⟩ := List.getElem?_eq_some_iff.1 hy
    have h3 := List.pairwise_iff_getElem.1 (sortL_sorted (takenB B)) i (i + 1) h1 h2 (by omega)
    rw [e1, e2] at h3
    rcases ltK_tri x y with e | e | e
    · exact e
    · exact absurd e.symm (h.apart i x y hx hy)
    · rw [h3] at e; cases e
  have hn : (takenB B).Nodup := (sortL_perm (takenB B)).nodup_iff.1 (nodup_of_lt hs)
  refine ⟨of_decide_eq_true h.ver, of_decide_eq_true h.clock, d2, fun d hd => ⟨by have := d1 d hd; omega, d3 d hd⟩, d4, pairwise_of_adj _ fun i x y hx hy => ?_, h.len, hn, h.nonzero⟩
  have h3 := h.sorted i x y hx hy
  rcases ltK_tri x y with e | e | e
  · exact e
  · exfalso
    obtain ⟨h1, e1⟩ := List.getElem?_eq_some_iff.1 hx
    obtain ⟨h2, e2⟩ := List.getElem?_eq_some_iff.1 hy
    have := List.pairwise_iff_getElem.1 (List.nodup_append.1 hn).1 i (i + 1) h1 h2 (by omega)
    rw [e1, e2] at this
    exact this e
  · rw [h3] at e; cases e
end Go.Proofs.YthnpiimiimiijaaGreatDoor.Dir
