/- The document's directory: spend, put. -/
import Derived.Test.YthnpiimiimiijaaGreatDoorRefB
namespace Go.Proofs.YthnpiimiimiijaaGreatDoor.Dir
open Go Go.RowKit Go.Proofs Go.Proofs.YthnpiimiimiijaaGreatDoorW.PrintWords Go.Proofs.YthnpiimiimiijaaGreatDoorW.PrintLast Go.Proofs.YthnpiimiimiijaaGreatDoorW.PrintMore
set_option linter.unusedVariables false
set_option linter.unusedSimpArgs false
/-- Where a list lies, there are things of its type. -/
def TyA (W : World) (A : Option Addr) (T : TypeId) : Prop := ∀ a, A = some a → ∃ cs fr, W.heap[a.block]? = some (.cells cs T fr)
theorem TyA.below {W W' : World} {A : Option Addr} {T : TypeId} (h : TyA W A T) (hb : Below W.heap.size W W') : TyA W' A T := fun a ha => by
 obtain ⟨cs, fr, hq⟩ := h a ha
 exact ⟨cs, fr, (hb.block _ (Array.getElem?_eq_some_iff.1 hq).1).trans hq⟩
theorem TyA.setRow {W : World} {A : Option Addr} {T : TypeId} (h : TyA W A T) (g : Nat) (cs : Array Value) : TyA (W.setRow g cs) A T := fun a ha => by
 obtain ⟨cs', fr, hq⟩ := h a ha
 by_cases e : a.block = g
 ·rw [e] at hq ⊢; exact ⟨cs, fr, setRow_heap _ _ _ _ _ _ hq⟩
 ·exact ⟨cs', fr, by rw [setRow_other _ _ _ _ e]; exact hq⟩
theorem own_typed {w : World} {base : Nat} {e : TypeId} {size n c : Nat} {A : Option Addr} {xs : List Value} (h : w.ownsRow base e size (.slice A n c) n xs) : TyA w A e := fun a ha => by
 subst ha
 rcases h.2 with ⟨e, -⟩ | ⟨g, cap, cur, e, hb, hg, -⟩
 ·cases e
 ·cases e; exact ⟨_, _, hg⟩
/-- A list in new memory. -/
def NewT (n : Nat) (W : World) (T : TypeId) (A : Option Addr) : Prop := ∀ a, A = some a → n ≤ a.block ∧ ∃ cs fr, W.heap[a.block]? = some (.cells cs T fr)
theorem NewT.ty {n : Nat} {W : World} {T : TypeId} {A : Option Addr} (h : NewT n W T A) : TyA W A T := fun a ha => (h a ha).2
/-- A list's address is the old one, or one of new memory. -/
def NewA (n : Nat) (W : World) (T : TypeId) (A A' : Option Addr) : Prop := A' = A ∨ NewT n W T A'
theorem own_newA {w : World} {base : Nat} {e : TypeId} {size n c : Nat} {A : Option Addr} {xs : List Value} (h : w.ownsRow base e size (.slice A n c) n xs) : ∀ a, A = some a → base ≤ a.block := fun a ha => by
 subst ha
 rcases h.2 with ⟨e, -⟩ | ⟨g, cap, cur, e, hb, -⟩
 ·cases e
 ·cases e; exact hb
theorem cells5 (B : Book) (A1 : Option Addr) (c1 : Nat) (A2 : Option Addr) (c2 : Nat) : (bookCells B A1 c1 A2 c2).length = 5 := rfl
theorem store_book (W : World) (r : Nat) (cs0 : List Value) (h : W.heap[r]? = some (.cells cs0.toArray 43 (0, 0))) (h5 : cs0.length = 5) (B : Book) (A1 : Option Addr) (c1 : Nat) (A2 : Option Addr) (c2 : Nat) :
  (Instr.storeAt 43 (.pointer (some ⟨r, 0, none⟩)) (.agg (bookCells B A1 c1 A2 c2).toArray)).run Tryz.prog W = .ok () (W.setRow r (bookCells B A1 c1 A2 c2).toArray) := by
 have := run_storeAtK Tryz.prog W 43 5 Tryz.sizeOf43 r 0 (bookCells B A1 c1 A2 c2) rfl (by simpa using book_one B A1 A2 c1 c2) cs0 43 h (by omega)
 rw [this]
 have e : splice cs0 0 (bookCells B A1 c1 A2 c2) = bookCells B A1 c1 A2 c2 := by
  unfold splice
  rw [List.take_zero, List.nil_append, List.drop_eq_nil_of_le (by rw [h5]; exact Nat.le_refl _), List.append_nil]
 rw [e]
theorem ownK_setRow {w : World} {base : Nat} {A : Option Addr} {c : Nat} {l : List Key} (h : OwnK w base A c l) {g : Nat} (hg : g < base) (cs : Array Value) : OwnK (w.setRow g cs) base A c l :=
 h.kept (grownBy_setRow w g cs) (by cases hk : (Value.slice A l.length c).ownBlock with
  | none => exact .inl rfl
  | some k => exact .inr (fun e => by have h1 := own_base h k hk; have h2 : k = g := Option.some.inj e; omega))
theorem ownD_setRow {w : World} {base : Nat} {A : Option Addr} {c : Nat} {l : List Dev} (h : OwnD w base A c l) {g : Nat} (hg : g < base) (cs : Array Value) : OwnD (w.setRow g cs) base A c l :=
 h.kept (grownBy_setRow w g cs) (by cases hk : (Value.slice A l.length c).ownBlock with
  | none => exact .inl rfl
  | some k => exact .inr (fun e => by have h1 := own_base h k hk; have h2 : k = g := Option.some.inj e; omega))
/-- A book whose list of spent keys is a new one; one whose list of devices is. -/
def SpentEnd (w w' : World) (A1 : Option Addr) (c1 : Nat) (B' : Book) (e : Ending) : Prop := ∃ A' c', e = .returned (.agg (bookCells B' A1 c1 A' c').toArray) ∧ SrcB w' B' A1 A' ∧ NewT w.heap.size w' 34 A' ∧ Below w.heap.size w w'
def DevsEnd (w w' : World) (A2 : Option Addr) (c2 : Nat) (B' : Book) (e : Ending) : Prop := ∃ A' c', e = .returned (.agg (bookCells B' A' c' A2 c2).toArray) ∧ SrcB w' B' A' A2 ∧ NewT w.heap.size w' 46 A' ∧ Below w.heap.size w w'
/-- The document's spend. -/
def spR : List Key → Key → Bool → List Key
 | [], k, done => if done then [] else [k]
 | x :: l, k, done => if !done && ltK k x then k :: x :: spR l k true else x :: spR l k done
theorem spR_next {l : List Key} {j : Nat} {x k : Key} (done : Bool) (h : l[j]? = some x) : spR (l.drop j) k done = if !done && ltK k x then k :: x :: spR (l.drop (j + 1)) k true else x :: spR (l.drop (j + 1)) k done := by
 obtain ⟨hl, e⟩ := List.getElem?_eq_some_iff.1 h
 rw [List.drop_eq_getElem_cons hl, e]
 rfl
theorem spR_len : ∀ (l : List Key) (k : Key) (d : Bool), (spR l k d).length ≤ l.length + 1
 | [], k, d => by unfold spR; split <;> simp
 | x :: l, k, d => by
  have h1 := spR_len l k true
  have h2 := spR_len l k d
  unfold spR
  split
  ·rename_i h
   have := spR_true l k
   simp [this]
  ·simp; omega
where
 spR_true : ∀ (l : List Key) (k : Key), spR l k true = l
  | [], k => rfl
  | x :: l, k => by unfold spR; simp [spR_true l k]
set_option maxHeartbeats 8000000 in
set_option maxRecDepth 100000 in
theorem spend_ref (B : Book) (A1 : Option Addr) (c1 : Nat) (A2 : Option Addr) (c2 : Nat) (k : Key) (w : World) (h : SrcB w B A1 A2) (hs2 : B.spent.length ≤ 100000000) :
  Calls Tryz.prog 94 #[.agg (bookCells B A1 c1 A2 c2).toArray, .agg (encK k).toArray] w fun e w' => SpentEnd w w' A1 c1 { B with spent := spR B.spent k false } e := by
 have hI0 := InB.start (c1 := c1) (c2 := c2) h
 obtain ⟨W0, hW0⟩ : ∃ W0, W0 = ((w.alloc (.cells (bookCells B A1 c1 A2 c2).toArray 43)).alloc (.cells (encK k).toArray 34)).alloc (.cells #[.int .i64 0, .int .i64 0, .slice none 0 0, .slice none 0 0, .string ⟨#[]⟩] 43) := ⟨_, rfl⟩
 obtain ⟨p, hp⟩ : ∃ p, p = w.heap.size := ⟨_, rfl⟩
 have hsz : (w.alloc (.cells (bookCells B A1 c1 A2 c2).toArray 43)).heap.size = p + 1 := by rw [hp]; simp
 have hsz2 : ((w.alloc (.cells (bookCells B A1 c1 A2 c2).toArray 43)).alloc (.cells (encK k).toArray 34)).heap.size = p + 2 := by rw [hp]; simp
 have hI : InB w W0 p B A1 c1 A2 c2 := by rw [hW0, hp]; exact (hI0.later ((Below.refl _ _).alloc (Nat.le_refl _) _)).later ((Below.refl _ _).alloc (Nat.le_refl _) _)
 have q2 : W0.heap[p + 1]? = some (.cells (encK k).toArray 34 (0, 0)) := by rw [hW0, Below.heap_alloc _ _ _ (by rw [hsz2]; omega), ← hsz]; exact heap_alloc_new _ _
 have q3 : W0.heap[p + 2]? = some (.cells ([.int .i64 0, .int .i64 0, .slice none 0 0, .slice none 0 0, .string ⟨#[]⟩] : List Value).toArray 43 (0, 0)) := by rw [hW0, ← hsz2]; exact heap_alloc_new _ _
 have hlt0 : p + 2 < W0.heap.size := (Array.getElem?_eq_some_iff.1 q3).1
 have HI := Aside0.mk hI
 have HQ := Aside0.mk (fun (W : World) (hb : Below W0.heap.size W0 W) => run_loadAtK Tryz.prog W 34 32 Tryz.isAgg34 Tryz.sizeOf34 (p + 1) 0 (encK k) (encK_len _) (cells_of_heap ((hb.block _ (Array.getElem?_eq_some_iff.1 q2).1).trans q2)))
 have HQ3 := Aside0.mk (And.intro q3 hlt0)
 have HS := Aside0.mk hs2
 have HLS := Aside0.mk (fun (y : Key) (W : World) => less_ref k y W)
 obtain ⟨X, hX⟩ : ∃ X, X = (encK k).toArray := ⟨_, rfl⟩
 obtain ⟨BA, hBA⟩ : ∃ BA, BA = (bookCells B A1 c1 A2 c2).toArray := ⟨_, rfl⟩
 have HX := Aside0.mk hX
 rw [← hX] at HQ HLS hW0 hsz2 ⊢
 rw [← hBA] at hW0 hsz hsz2 ⊢
 have HAR := Aside0.mk h
 clear hI0 hI h hs2 q2 q3 hX hBA hlt0
 go_enter Tryz.func94, Tryz.ntmps94
 go_upto_region 1 with fail
 rw [← hW0]
 try rw [hsz2]
 try rw [hsz]
 try rw [← hp]
 have HEQ := Aside0.mk (And.intro hW0 (And.intro hp (And.intro hsz hsz2)))
 clear hW0 hsz hsz2 hp
 go_upto_region 4 with fail
 go_loopg [5, 6, 7] B.spent.length (fun kx s5 s6 s7 wr => ∃ (kk : Nat) (A : Option Addr) (c : Nat) (l : List Key) (dn : Bool), s7 = .int .i64 kk ∧ s5 = .slice A l.length c ∧ s6 = .bool dn ∧ kk + kx = B.spent.length ∧ Aside0 (OwnK wr W0.heap.size A c l) ∧ Aside0 (spR B.spent k false = l ++ spR (B.spent.drop kk) k dn) ∧ Aside0 (Below W0.heap.size W0 wr) ∧ Aside0 (l.length ≤ kk + dn.toNat))
 case atStart => exact ⟨0, none, 0, [], false, rfl, rfl, rfl, by omega, ⟨ownK_nil _ _⟩, ⟨rfl⟩, ⟨Below.refl _ _⟩, ⟨by simp⟩⟩
 case round =>
  obtain ⟨kk, A, c, l, dn, rfl, rfl, rfl, hkk, HO, HL, HB, HLN⟩ := hrel
  have BW := Aside0.mk (HI.out.later HB.out)
  obtain ⟨k0, k1, k2, k3, k4⟩ := BW.out.cells
  clear k0 k1 k2 k4
  have hs1 := HS.out
  by_cases hlt : kk < B.spent.length
  ·have hltz : (kk : Int) < (B.spent.length : Int) := by omega
   obtain ⟨x, hx⟩ : ∃ x, B.spent[kk]? = some x := ⟨_, List.getElem?_eq_getElem hlt⟩
   obtain ⟨g, o, hA2, hc⟩ := HI.out.src.key hx
   subst hA2
   have L1 := Aside0.mk hc
   have HNX := Aside0.mk (HL.out.trans (congrArg (l ++ ·) (spR_next (k := k) dn hx)))
   have HLESS := Aside0.mk (HLS.out x)
   have K3 := Aside0.mk (fun (W : World) (hb : Below W0.heap.size W0 W) => (HI.out.later hb).cells.2.2.2.1)
   obtain ⟨Y, hY⟩ : ∃ Y, Y = (encK x).toArray := ⟨_, rfl⟩
   have HY := Aside0.mk hY
   rw [← hY] at L1 HLESS
   obtain ⟨lt, hlt2⟩ : ∃ lt, lt = ltK k x := ⟨_, rfl⟩
   rw [← hlt2] at HNX HLESS
   clear hc hx hY hlt2
   obtain ⟨ko, rfl⟩ : ∃ ko, gk = ko + 1 := ⟨gk - 1, by omega⟩
   cases dn
   ·go_wp2_with fail
    refine region_quietC (C := fun W => Below wr.heap.size wr W) (by kernel_rfl) (by kernel_rfl) ((Below.refl _ wr).drew) ?_
    repeat (first | ((with_reducible refine at_ql 34 (.tmp 3) ?_); refine wpQuiet_loadK 34 (.tmp 3) rfl _ rfl _ (by kernel_rfl) (fun W hb => HQ.out W (below_step HB.out hb)) ?_; simp only [Act.put, List.setIfInBounds_toArray, List.set_cons_zero, List.set_cons_succ]) | ((with_reducible refine at_ql 41 (.tmp 19) ?_); refine wpQuiet_loadK 41 (.tmp 19) rfl _ rfl _ (by kernel_rfl) (fun W hb => run_load1 41 Tryz.isAgg41 (K3.out W (below_step HB.out hb))) ?_; simp only [Act.put, List.setIfInBounds_toArray, List.set_cons_zero, List.set_cons_succ]) | ((with_reducible refine at_ql 34 (.tmp 22) ?_); refine wpQuiet_loadK 34 (.tmp 22) rfl _ rfl _ (by kernel_rfl) (fun W hb => L1.out W (below_step HB.out hb)) ?_; simp only [Act.put, List.setIfInBounds_toArray, List.set_cons_zero, List.set_cons_succ]) | ((with_reducible refine at_qc 67 ?_); refine wpQuiet_callK Tryz.func67 (by kernel_rfl) rfl #[.agg X, .agg Y] rfl (by simp only [List.map_toArray, List.map_cons, List.map_nil]; rfl) (.bool lt) (by kernel_rfl) (fun W hb => (HLESS.out W).mono fun e w' hh => ⟨hh.1, below_step hb hh.2⟩) ?_; simp only [Act.put, List.setIfInBounds_toArray, List.set_cons_zero, List.set_cons_succ]) | go_big_quiet_step (exact fun _ => rfl))
    refine wpQuiet_nil ?_
    rintro wq hq
    cases lt
    ·have HQW := Aside0.mk hq
     have k3 := K3.out wq (below_step HB.out hq)
     have LX := Aside0.mk (L1.out wq (below_step HB.out hq))
     have HOW := Aside0.mk (HO.out.below hq)
     have hbw := Aside0.mk (Nat.le_trans HB.out.size hq.size)
     clear hq
     go_wp2_with (first | ((with_reducible refine at_load 34 (.tmp 34) ?_); refine wpList_loadK rfl 34 (.tmp 34) rfl _ rfl _ LX.out ?_) | ((with_reducible refine at_bslice 41 (.tmp 35) ?_); refine wpList_pushK rfl rfl (.tmp 35) (.tmp 30) (.tmp 36) rfl rfl x (by rw [← HY.out]; rfl) W0.heap.size _ _ _ _ HOW.out rfl (by first | rfl | simp) rfl (by have := HLN.out; simp at this; omega) hbw.out ?_; intro A3 c3 w5 h1 h2 h3))
     have HO2 := Aside0.mk h1
     have HB2 := Aside0.mk (And.intro h2 h3)
     clear h1 h2 h3
     go_wp2_with fail
     go_roundg ko
     case measure => omega
     case rel => exact ⟨kk + 1, A3, c3, l ++ [x], false, by go_num, by rw [List.length_append]; rfl, rfl, by omega, ⟨HO2.out⟩, ⟨by rw [HNX.out]; simp⟩, ⟨(HB.out.trans (HQW.out.mono HB.out.size)).trans HB2.out.1⟩, ⟨by have := HLN.out; simp at this ⊢; omega⟩⟩
    ·have HQW := Aside0.mk hq
     have LX := Aside0.mk (HQ.out wq (below_step HB.out hq))
     have HOW := Aside0.mk (HO.out.below hq)
     have hbw := Aside0.mk (Nat.le_trans HB.out.size hq.size)
     clear hq
     go_upto_region 8 with (first | ((with_reducible refine at_load 34 (.tmp 3) ?_); refine wpList_loadK rfl 34 (.tmp 3) rfl _ rfl _ LX.out ?_) | ((with_reducible refine at_bslice 41 (.tmp 27) ?_); refine wpList_pushK rfl rfl (.tmp 27) (.tmp 26) (.tmp 28) rfl rfl k (by rw [← HX.out]; rfl) W0.heap.size _ _ _ _ HOW.out rfl (by first | rfl | simp) rfl (by have := HLN.out; simp at this; omega) hbw.out ?_; intro A3 c3 w5 h1 h2 h3))
     have HO2 := Aside0.mk h1
     have HBB := Aside0.mk ((HB.out.trans (HQW.out.mono HB.out.size)).trans h2)
     have hbw2 := Aside0.mk (Nat.le_trans hbw.out h3)
     clear h1 h2 h3
     have k3 := K3.out w5 HBB.out
     have LX2 := Aside0.mk (L1.out w5 HBB.out)
     go_wp2_with (first | ((with_reducible refine at_load 34 (.tmp 34) ?_); refine wpList_loadK rfl 34 (.tmp 34) rfl _ rfl _ LX2.out ?_) | ((with_reducible refine at_bslice 41 (.tmp 35) ?_); refine wpList_pushK rfl rfl (.tmp 35) (.tmp 30) (.tmp 36) rfl rfl x (by rw [← HY.out]; rfl) W0.heap.size _ _ _ _ HO2.out rfl (by first | rfl | simp) rfl (by have := HLN.out; simp at this ⊢; omega) hbw2.out ?_; intro A4 c4 w6 h1 h2 h3))
     have HO4 := Aside0.mk h1
     have HB4 := Aside0.mk (HBB.out.trans h2)
     clear h1 h2 h3
     go_wp2_with fail
     go_roundg ko
     case measure => omega
     case rel => exact ⟨kk + 1, A4, c4, (l ++ [k]) ++ [x], true, by go_num, by simp, rfl, by omega, ⟨HO4.out⟩, ⟨by rw [HNX.out]; simp⟩, ⟨HB4.out⟩, ⟨by have := HLN.out; simp at this ⊢; omega⟩⟩
   ·go_wp2_with fail
    go_quiet (fail)
    have HQW := Aside0.mk (bdn (Below.refl wr.heap.size wr) nq)
    have k3 := K3.out _ (below_step HB.out HQW.out)
    have LX := Aside0.mk (L1.out _ (below_step HB.out HQW.out))
    have HOW := Aside0.mk (HO.out.below HQW.out)
    have hbw := Aside0.mk (Nat.le_trans HB.out.size HQW.out.size)
    go_wp2_with (first | ((with_reducible refine at_load 34 (.tmp 34) ?_); refine wpList_loadK rfl 34 (.tmp 34) rfl _ rfl _ LX.out ?_) | ((with_reducible refine at_bslice 41 (.tmp 35) ?_); refine wpList_pushK rfl rfl (.tmp 35) (.tmp 30) (.tmp 36) rfl rfl x (by rw [← HY.out]; rfl) W0.heap.size _ _ _ _ HOW.out rfl (by first | rfl | simp) rfl (by have := HLN.out; simp at this; omega) hbw.out ?_; intro A3 c3 w5 h1 h2 h3))
    have HO2 := Aside0.mk h1
    have HB2 := Aside0.mk h2
    clear h1 h2 h3
    go_wp2_with fail
    go_roundg ko
    case measure => omega
    case rel => exact ⟨kk + 1, A3, c3, l ++ [x], true, by go_num, by rw [List.length_append]; rfl, rfl, by omega, ⟨HO2.out⟩, ⟨by rw [HNX.out]; simp⟩, ⟨(HB.out.trans (HQW.out.mono HB.out.size)).trans HB2.out⟩, ⟨by have := HLN.out; simp at this ⊢; omega⟩⟩
  ·have hltz : ¬ (kk : Int) < (B.spent.length : Int) := by omega
   have : kk = B.spent.length := by omega
   subst this
   have HEND := Aside0.mk (show spR B.spent k false = l ++ (if dn then [] else [k]) by rw [HL.out, List.drop_length]; rfl)
   cases dn
   ·have LX := Aside0.mk (HQ.out wr HB.out)
    have hbw := Aside0.mk HB.out.size
    go_upto_region 12 with (first | ((with_reducible refine at_load 34 (.tmp 3) ?_); refine wpList_loadK rfl 34 (.tmp 3) rfl _ rfl _ LX.out ?_) | ((with_reducible refine at_bslice 41 (.tmp 41) ?_); refine wpList_pushK rfl rfl (.tmp 41) (.tmp 40) (.tmp 42) rfl rfl k (by rw [← HX.out]; rfl) W0.heap.size _ _ _ _ HO.out rfl (by first | rfl | simp) rfl (by have := HLN.out; simp at this; omega) hbw.out ?_; intro A3 c3 w5 h1 h2 h3))
    have HO2 := Aside0.mk h1
    have HB2 := Aside0.mk (HB.out.trans h2)
    have HE2 := Aside0.mk (show spR B.spent k false = l ++ [k] from HEND.out)
    have HLE := Aside0.mk (show (l ++ [k]).length = l.length + 1 by simp)
    clear h1 h2 h3 k3
    have BX := Aside0.mk (HI.out.later HB2.out)
    obtain ⟨W6, hW6⟩ : ∃ W6, W6 = w5.setCell ⟨p, 3, none⟩ (.slice A3 (l.length + 1) c3) := ⟨_, rfl⟩
    have hq : W6.heap[p]? = some (.cells (bookCells { B with spent := l ++ [k] } A1 c1 A3 c3).toArray 43 (0, 0)) := by
     rw [hW6, heap_setCell_same w5 p 3 _ _ _ BX.out.bx, ← HLE.out]
     rfl
    have hq3 : W6.heap[p + 2]? = some (.cells ([.int .i64 0, .int .i64 0, .slice none 0 0, .slice none 0 0, .string ⟨#[]⟩] : List Value).toArray 43 (0, 0)) := by
     rw [hW6, Below.heap_setCell _ _ _ _ (by simp), HB2.out.block _ HQ3.out.2]
     exact HQ3.out.1
    have LB := Aside0.mk (run_loadAtK Tryz.prog W6 43 5 Tryz.isAgg43 Tryz.sizeOf43 p 0 _ rfl (cells_of_heap hq))
    have ST := Aside0.mk (store_book W6 (p + 2) _ hq3 rfl { B with spent := l ++ [k] } A1 c1 A3 c3)
    have HF := Aside0.mk (setRow_heap W6 (p + 2) _ (bookCells { B with spent := l ++ [k] } A1 c1 A3 c3).toArray 43 (0, 0) hq3)
    have k3 := BX.out.cells.2.2.2.1
    have fz : w5.frozen? ⟨p, 3, none⟩ = false := frozen_of_heap BX.out.bx
    have HW6 := Aside0.mk hW6
    clear hq hq3
    go_upto_region 13 with fail
    rw [← hW6]
    clear hW6 k3 fz
    obtain ⟨CB, hCB⟩ : ∃ CB, CB = (bookCells { B with spent := l ++ [k] } A1 c1 A3 c3).toArray := ⟨_, rfl⟩
    rw [← hCB] at LB ST HF
    have HCB := Aside0.mk hCB
    have HSZ := Aside0.mk (show CB.size = 5 by rw [hCB]; rfl)
    clear hCB
    go_wp2_with (first | ((with_reducible refine at_load 43 (.tmp 2) ?_); refine wpList_loadK rfl 43 (.tmp 2) rfl _ rfl _ LB.out ?_) | ((with_reducible refine at_store 43 (.tmp 4) (.tmp 46) ?_); refine wpList_storeK rfl 43 (.tmp 4) (.tmp 46) rfl rfl _ _ rfl rfl _ ST.out ?_))
    try simp only [Exit.inBlock, Exit.then]
    refine bodyPost_ret (results_cell_row rfl _ _ (p + 2) 43 _ (0, 0) _ rfl HF.out Tryz.underlying43 rfl (by rw [HSZ.out]; kernel_rfl)) rfl ?_
    have hlt0 := HQ3.out.2
    have hfr : Below w.heap.size w (W6.setRow (p + 2) CB) := below_setRow (by rw [HW6.out]; exact (HI.out.fr.trans (HB2.out.mono HI.out.fr.size)).setCell (by rw [HEQ.out.2.1]; exact Nat.le_refl _) _) (by rw [HEQ.out.2.1]; omega) _
    have hown : OwnK (W6.setRow (p + 2) CB) W0.heap.size A3 c3 (l ++ [k]) := ownK_setRow (by rw [HW6.out]; exact ownsRow_setCell_other HO2.out (a := ⟨p, 3, none⟩) (fun j hj e => by have h1 := own_base HO2.out j hj; have h2 : j = p := e; omega) _) hlt0 _
    rw [HE2.out, HCB.out]
    rw [HCB.out] at hfr hown
    exact ⟨A3, c3, rfl, ⟨HAR.out.devs.grown hfr, hown.src, HAR.out.few, by show (l ++ [k]).length ≤ _; have := HS.out; have := HLN.out; have := HLE.out; simp at *; omega⟩, fun a ha => ⟨Nat.le_trans HI.out.fr.size (own_newA hown a ha), own_typed hown a ha⟩, hfr⟩
   ·have HE2 := Aside0.mk (show spR B.spent k false = l by rw [HEND.out]; simp)
    clear k3
    have HLE := Aside0.mk (show l.length = l.length from rfl)
    have BX := Aside0.mk (HI.out.later HB.out)
    obtain ⟨W6, hW6⟩ : ∃ W6, W6 = wr.setCell ⟨p, 3, none⟩ (.slice A l.length c) := ⟨_, rfl⟩
    have hq : W6.heap[p]? = some (.cells (bookCells { B with spent := l } A1 c1 A c).toArray 43 (0, 0)) := by
     rw [hW6, heap_setCell_same wr p 3 _ _ _ BX.out.bx, ← HLE.out]
     rfl
    have hq3 : W6.heap[p + 2]? = some (.cells ([.int .i64 0, .int .i64 0, .slice none 0 0, .slice none 0 0, .string ⟨#[]⟩] : List Value).toArray 43 (0, 0)) := by
     rw [hW6, Below.heap_setCell _ _ _ _ (by simp), HB.out.block _ HQ3.out.2]
     exact HQ3.out.1
    have LB := Aside0.mk (run_loadAtK Tryz.prog W6 43 5 Tryz.isAgg43 Tryz.sizeOf43 p 0 _ rfl (cells_of_heap hq))
    have ST := Aside0.mk (store_book W6 (p + 2) _ hq3 rfl { B with spent := l } A1 c1 A c)
    have HF := Aside0.mk (setRow_heap W6 (p + 2) _ (bookCells { B with spent := l } A1 c1 A c).toArray 43 (0, 0) hq3)
    have k3 := BX.out.cells.2.2.2.1
    have fz : wr.frozen? ⟨p, 3, none⟩ = false := frozen_of_heap BX.out.bx
    have HW6 := Aside0.mk hW6
    clear hq hq3
    go_upto_region 13 with fail
    rw [← hW6]
    clear hW6 k3 fz
    obtain ⟨CB, hCB⟩ : ∃ CB, CB = (bookCells { B with spent := l } A1 c1 A c).toArray := ⟨_, rfl⟩
    rw [← hCB] at LB ST HF
    have HCB := Aside0.mk hCB
    have HSZ := Aside0.mk (show CB.size = 5 by rw [hCB]; rfl)
    clear hCB
    go_wp2_with (first | ((with_reducible refine at_load 43 (.tmp 2) ?_); refine wpList_loadK rfl 43 (.tmp 2) rfl _ rfl _ LB.out ?_) | ((with_reducible refine at_store 43 (.tmp 4) (.tmp 46) ?_); refine wpList_storeK rfl 43 (.tmp 4) (.tmp 46) rfl rfl _ _ rfl rfl _ ST.out ?_))
    try simp only [Exit.inBlock, Exit.then]
    refine bodyPost_ret (results_cell_row rfl _ _ (p + 2) 43 _ (0, 0) _ rfl HF.out Tryz.underlying43 rfl (by rw [HSZ.out]; kernel_rfl)) rfl ?_
    have hlt0 := HQ3.out.2
    have hfr : Below w.heap.size w (W6.setRow (p + 2) CB) := below_setRow (by rw [HW6.out]; exact (HI.out.fr.trans (HB.out.mono HI.out.fr.size)).setCell (by rw [HEQ.out.2.1]; exact Nat.le_refl _) _) (by rw [HEQ.out.2.1]; omega) _
    have hown : OwnK (W6.setRow (p + 2) CB) W0.heap.size A c (l) := ownK_setRow (by rw [HW6.out]; exact ownsRow_setCell_other HO.out (a := ⟨p, 3, none⟩) (fun j hj e => by have h1 := own_base HO.out j hj; have h2 : j = p := e; omega) _) hlt0 _
    rw [HE2.out, HCB.out]
    rw [HCB.out] at hfr hown
    exact ⟨A, c, rfl, ⟨HAR.out.devs.grown hfr, hown.src, HAR.out.few, by show (l).length ≤ _; have := HS.out; have := HLN.out; have := HLE.out; simp at *; omega⟩, fun a ha => ⟨Nat.le_trans HI.out.fr.size (own_newA hown a ha), own_typed hown a ha⟩, hfr⟩
end Go.Proofs.YthnpiimiimiijaaGreatDoor.Dir
