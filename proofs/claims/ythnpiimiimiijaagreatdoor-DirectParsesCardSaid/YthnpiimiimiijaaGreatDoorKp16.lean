/- The document's directory: number, Less, find, keys, free. The document's directory: fresh, spend, put. The document's directory: spend, put. The document's directory: put. The words of a line, byte by byte: strings.FieldsFunc at the byte 32 alone. The document's way of reading a rule's words, in plain Lean, and that the program's way comes to the same. -/
import Derived.Test.YthnpiimiimiijaaGreatDoorKp15
import Derived.Test.YthnpiimiimiijaaGreatDoorKp10
import Derived.Lib.MapLaws
import Derived.Lib.IndexMore
import Derived.Lib.AtoiAllCases
import Derived.Lib.ItoaMem
section
namespace Go.Proofs.YthnpiimiimiijaaGreatDoor.Dir
open Go Go.RowKit Go.Proofs Go.Proofs.YthnpiimiimiijaaGreatDoorW.PrintWords Go.Proofs.YthnpiimiimiijaaGreatDoorW.PrintLast Go.Proofs.YthnpiimiimiijaaGreatDoorW.PrintMore
set_option linter.unusedVariables false
set_option linter.unusedSimpArgs false
theorem number66 (n : Int) (w : World) : Calls Tryz.prog 66 #[.int .i64 n] w fun e w' => e = .returned (.bool (number n)) ∧ w' = w := by
 have hn : (decide (0 ≤ n) && decide (n ≤ 9007199254740991)) = number n := by unfold number maxN; rw [Bool.decide_and]
 go_enter Tryz.func66, Tryz.ntmps66
 go_wp2
 all_goals (go_ret; refine ⟨?_, rfl⟩; rw [← hn]; first | (simp; omega) | (simp_all; done) | (simp_all; omega))
theorem cmpB_at : ∀ (a b : List UInt8) (k : Nat), a.take k = b.take k → ∀ x y, a[k]? = some x → b[k]? = some y → x ≠ y → decide (Lib.compareBytes a b < 0) = decide ((x.toNat : Int) < (y.toNat : Int))
 | [], _, _, _, _, _, hx, _, _ => by simp at hx
 | _ :: _, [], _, _, _, _, _, hy, _ => by simp at hy
 | p :: a, q :: b, 0, _, x, y, hx, hy, hne => by
  simp at hx hy
  subst hx; subst hy
  unfold Lib.compareBytes
  by_cases h1 : p < q
  ·rw [if_pos h1]
   have := UInt8.lt_iff_toNat_lt.1 h1
   rw [decide_eq_true (by omega), decide_eq_true (by omega)]
  ·have h2 : q < p := by
    rw [UInt8.lt_iff_toNat_lt] at h1 ⊢
    have : p.toNat ≠ q.toNat := fun e => hne (UInt8.toNat_inj.1 e)
    omega
   rw [if_neg h1, if_pos h2]
   have := UInt8.lt_iff_toNat_lt.1 h2
   rw [decide_eq_false (by omega), decide_eq_false (by omega)]
 | p :: a, q :: b, k + 1, h, x, y, hx, hy, hne => by
  simp at h
  obtain ⟨rfl, h⟩ := h
  have := cmpB_at a b k h x y (by simpa using hx) (by simpa using hy) hne
  unfold Lib.compareBytes
  rw [if_neg (by rw [UInt8.lt_iff_toNat_lt]; omega), if_neg (by rw [UInt8.lt_iff_toNat_lt]; omega)]
  exact this
theorem encK_at (k : Key) {j : Nat} (hj : j < 32) : ∃ x : UInt8, k.1[j]? = some x ∧ (encK k)[j]? = some (.int .u8 (x.toNat : Int)) := by
 have hl : j < k.1.length := by rw [k.2]; exact hj
 refine ⟨k.1[j], List.getElem?_eq_getElem hl, ?_⟩
 show (k.1.map byteV)[j]? = _
 rw [List.getElem?_map, List.getElem?_eq_getElem hl]
 rfl
set_option maxHeartbeats 4000000 in
set_option maxRecDepth 100000 in
theorem less_ref (a b : Key) (w : World) : Calls Tryz.prog 67 #[.agg (encK a).toArray, .agg (encK b).toArray] w fun e w' => e = .returned (.bool (ltK a b)) ∧ Below w.heap.size w w' := by
 obtain ⟨W0, hW0⟩ : ∃ W0, W0 = (w.alloc (.cells (encK a).toArray 34)).alloc (.cells (encK b).toArray 34) := ⟨_, rfl⟩
 have hb0 : Below w.heap.size w W0 := by rw [hW0]; exact ((Below.refl _ w).alloc (Nat.le_refl _) _).alloc (by simp) _
 obtain ⟨p, hp⟩ : ∃ p, p = w.heap.size := ⟨_, rfl⟩
 have hsz : (w.alloc (.cells (encK a).toArray 34)).heap.size = p + 1 := by rw [hp]; simp
 have q1 : W0.heap[p]? = some (.cells (encK a).toArray 34 (0, 0)) := by rw [hW0, hp, Below.heap_alloc _ _ _ (by simp)]; exact heap_alloc_new w _
 have q2 : W0.heap[p + 1]? = some (.cells (encK b).toArray 34 (0, 0)) := by rw [hW0, hp]; have := heap_alloc_new (w.alloc (.cells (encK a).toArray 34)) (.cells (encK b).toArray 34); simpa using this
 have HQ1 := Aside0.mk (fun (W : World) (hb : Below W0.heap.size W0 W) => (hb.block _ (Array.getElem?_eq_some_iff.1 q1).1).trans q1)
 have HQ2 := Aside0.mk (fun (W : World) (hb : Below W0.heap.size W0 W) => (hb.block _ (Array.getElem?_eq_some_iff.1 q2).1).trans q2)
 have HB0 := Aside0.mk hb0
 obtain ⟨r, hr⟩ : ∃ r, r = ltK a b := ⟨_, rfl⟩
 have HR := Aside0.mk hr
 rw [← hr]
 obtain ⟨XA, hXA⟩ : ∃ XA, XA = (encK a).toArray := ⟨_, rfl⟩
 obtain ⟨XB, hXB⟩ : ∃ XB, XB = (encK b).toArray := ⟨_, rfl⟩
 rw [← hXA] at hW0 hsz ⊢
 rw [← hXB] at hW0 ⊢
 clear hb0 q1 q2 hr hXA hXB
 go_enter Tryz.func67, Tryz.ntmps67
 go_upto_region 1 with fail
 rw [← hW0]
 try rw [hsz]
 try rw [← hp]
 have HEQ := Aside0.mk (And.intro hW0 (And.intro hp hsz))
 clear hW0 hp hsz
 go_upto_region 2 with fail
 go_loopg [5] 32 (fun kx s5 wr => ∃ kk : Nat, s5 = .int .i64 kk ∧ kk + kx = 32 ∧ Aside0 (Below W0.heap.size W0 wr) ∧ Aside0 (a.1.take kk = b.1.take kk))
 case atStart => exact ⟨0, rfl, by omega, ⟨Below.refl _ _⟩, ⟨rfl⟩⟩
 case round =>
  obtain ⟨kk, rfl, hkk, BW, HT⟩ := hrel
  by_cases hlt : kk < 32
  ·have hltz : (kk : Int) < 32 := by omega
   obtain ⟨x, hx1, hx2⟩ := encK_at a hlt
   obtain ⟨y, hy1, hy2⟩ := encK_at b hlt
   have c1 : wr.cell? ⟨p, kk, none⟩ = some (.int .u8 (x.toNat : Int)) := by rw [cell_of_heap (HQ1.out wr BW.out)]; exact hx2
   have c2 : wr.cell? ⟨p + 1, kk, none⟩ = some (.int .u8 (y.toNat : Int)) := by rw [cell_of_heap (HQ2.out wr BW.out)]; exact hy2
   have HX := Aside0.mk (And.intro hx1 hy1)
   clear hx1 hx2 hy1 hy2
   obtain ⟨ko, rfl⟩ : ∃ ko, gk = ko + 1 := ⟨gk - 1, by omega⟩
   by_cases hxy : x = y
   ·subst hxy
    go_wp2_with fail
    go_quiet (fail)
    have HH := Aside0.mk (show Below W0.heap.size W0 (wr.drewN nq) from bdn BW.out nq)
    go_wp2_with fail
    go_roundg ko
    case measure => omega
    case rel => exact ⟨kk + 1, by go_num, by omega, ⟨HH.out⟩, ⟨by rw [List.take_add_one, List.take_add_one, HT.out, HX.out.1, HX.out.2]⟩⟩
   ·have hne : ((x.toNat : Int) == (y.toNat : Int)) = false := beq_eq_false_iff_ne.2 (fun e => hxy (UInt8.toNat_inj.1 (by omega)))
    have hne2 : ((x.toNat : Int) != (y.toNat : Int)) = true := by rw [bne, hne]; rfl
    go_wp2_with fail
    go_quiet (fail)
    have H1 := Aside0.mk (bdn BW.out nq)
    go_wp2_with fail
    go_quiet (fail)
    have HH := Aside0.mk (bdn H1.out nq)
    go_wp2_with fail
    go_ret
    have e : ltK a b = decide (x.toNat < y.toNat) := (cmpB_at a.1 b.1 kk HT.out x y HX.out.1 HX.out.2 hxy).trans (by simp)
    exact ⟨by rw [HR.out, e]; rfl, below_step HB0.out HH.out⟩
  ·have hltz : ¬ (kk : Int) < 32 := by omega
   have : kk = 32 := by omega
   subst this
   go_wp2_with fail
   go_ret
   refine ⟨?_, below_step HB0.out BW.out⟩
   have hab : a = b := Subtype.ext (by have := HT.out; rwa [List.take_of_length_le (by rw [a.2]; exact Nat.le_refl _), List.take_of_length_le (by rw [b.2]; exact Nat.le_refl _)] at this)
   rw [HR.out, hab, ltK_irrefl]
   rfl
/-- The document's list of all keys. -/
def keysR (B : Book) : List Key := B.devs.map (·.key) ++ B.spent
set_option maxHeartbeats 4000000 in
set_option maxRecDepth 100000 in
theorem keys_ref (B : Book) (A1 : Option Addr) (c1 : Nat) (A2 : Option Addr) (c2 : Nat) (w : World) (h : SrcB w B A1 A2) (hs1 : B.devs.length ≤ 100000000000) (hs2 : B.spent.length ≤ 100000000000) :
  Calls Tryz.prog 68 #[.agg (bookCells B A1 c1 A2 c2).toArray] w fun e w' => ∃ A c, e = .returned (.slice A (keysR B).length c) ∧ OwnK w' w.heap.size A c (keysR B) ∧ Below w.heap.size w w' := by
 have hI := InB.start (c1 := c1) (c2 := c2) h
 obtain ⟨W0, hW0⟩ : ∃ W0, W0 = w.alloc (.cells (bookCells B A1 c1 A2 c2).toArray 43) := ⟨_, rfl⟩
 obtain ⟨p, hp⟩ : ∃ p, p = w.heap.size := ⟨_, rfl⟩
 rw [← hW0, ← hp] at hI
 have HI := Aside0.mk hI
 have HS := Aside0.mk (And.intro hs1 hs2)
 clear hI h hs1 hs2
 go_enter Tryz.func68, Tryz.ntmps68
 go_upto_region 1 with fail
 rw [← hW0, ← hp]
 have HEQ := Aside0.mk (And.intro hW0 hp)
 clear hW0 hp
 go_upto_region 3 with fail
 go_loopg [3, 4] B.devs.length (fun kx s3 s4 wr => ∃ (kk : Nat) (A : Option Addr) (c : Nat) (l : List Key), s4 = .int .i64 kk ∧ s3 = .slice A l.length c ∧ kk + kx = B.devs.length ∧ Aside0 (InB w wr p B A1 c1 A2 c2) ∧ Aside0 (OwnK wr W0.heap.size A c l) ∧ Aside0 (l = (B.devs.take kk).map (·.key)) ∧ Aside0 (Below W0.heap.size W0 wr))
 case atStart => exact ⟨0, none, 0, [], rfl, rfl, by omega, ⟨HI.out⟩, ⟨ownK_nil _ _⟩, ⟨rfl⟩, ⟨Below.refl _ _⟩⟩
 case round =>
  obtain ⟨kk, A, c, l, rfl, rfl, hkk, BW, HO, HL, HB⟩ := hrel
  obtain ⟨-, -, k2, k3, -⟩ := BW.out.cells
  have hs1 := HS.out.1
  by_cases hlt : kk < B.devs.length
  ·have hltz : (kk : Int) < (B.devs.length : Int) := by omega
   obtain ⟨d, hd⟩ : ∃ d, B.devs[kk]? = some d := ⟨_, List.getElem?_eq_getElem hlt⟩
   obtain ⟨g, o, rfl, hc⟩ := BW.out.src.devc hd
   have L1 := Aside0.mk (run_loadAtK Tryz.prog wr 34 32 Tryz.isAgg34 Tryz.sizeOf34 g (o + kk * 35 + 1) (encK d.key) (encK_len _) (fun j v hj => by rw [Nat.add_assoc]; exact hc wr (Below.refl _ _) (1 + j) v (keyOfD d j v hj)))
   have HLL := Aside0.mk (show l.length = kk by rw [HL.out, List.length_map, List.length_take]; omega)
   have HD := Aside0.mk hd
   obtain ⟨k, hk⟩ : ∃ k, k = d.key := ⟨_, rfl⟩
   have HK := Aside0.mk hk
   rw [← hk] at L1
   clear hc hd hk k3
   obtain ⟨XA, hXA⟩ : ∃ XA, XA = (encK k).toArray := ⟨_, rfl⟩
   have HXA := Aside0.mk hXA
   rw [← hXA] at L1
   clear hXA
   obtain ⟨ko, rfl⟩ : ∃ ko, gk = ko + 1 := ⟨gk - 1, by omega⟩
   go_wp2_with (first | ((with_reducible refine at_load 34 (.tmp 17) ?_); refine wpList_loadK rfl 34 (.tmp 17) rfl _ rfl _ L1.out ?_) | ((with_reducible refine at_bslice 41 (.tmp 18) ?_); refine wpList_pushK rfl rfl (.tmp 18) (.tmp 12) (.tmp 19) rfl rfl k (by rw [← HXA.out]; rfl) W0.heap.size A c _ l HO.out rfl rfl rfl (by rw [HLL.out]; omega) HB.out.size ?_; intro A' c' w5 h1 h2 h3))
   have HO2 := Aside0.mk h1
   have HB2 := Aside0.mk (And.intro h2 h3)
   clear h1 h2 h3
   go_wp2_with fail
   go_roundg ko
   case measure => omega
   case rel => exact ⟨kk + 1, A', c', l ++ [k], by go_num, by rw [List.length_append]; rfl, by omega, ⟨BW.out.base HB.out HB2.out.1 HI.out⟩, ⟨HO2.out⟩, ⟨by rw [HL.out, HK.out, List.take_add_one, HD.out]; simp⟩, ⟨HB.out.trans HB2.out.1⟩⟩
  ·have hltz : ¬ (kk : Int) < (B.devs.length : Int) := by omega
   have : kk = B.devs.length := by omega
   subst this
   have HE := Aside0.mk (show l ++ B.spent = keysR B by rw [HL.out, List.take_length]; rfl)
   have HLL := Aside0.mk (show l.length ≤ 100000000000 by rw [HL.out, List.length_map, List.length_take]; omega)
   go_wp2_with (at_builtin; refine wpList_appK rfl (.tmp 21) (.tmp 23) rfl W0.heap.size A c l rfl HO.out A2 c2 B.spent rfl BW.out.src.spent ?hl1 HB.out.size ?_)
   case hl1 => have h1 := HLL.out; have h2 := HS.out.2; omega
   intro A' c' w5 h1 h2 h3
   have HO2 := Aside0.mk h1
   have HB2 := Aside0.mk h2
   clear h1 h2 h3
   go_wp2_with fail
   go_ret
   rw [← HE.out]
   exact ⟨A', c', by first | rfl | (rw [List.length_append]; rfl), own_weaken HO2.out HI.out.fr.size, HI.out.fr.trans ((HB.out.trans HB2.out).mono HI.out.fr.size)⟩
end Go.Proofs.YthnpiimiimiijaaGreatDoor.Dir
end
section
namespace Go.Proofs.YthnpiimiimiijaaGreatDoor.Dir
open Go Go.RowKit Go.Proofs Go.Proofs.YthnpiimiimiijaaGreatDoorW.PrintWords Go.Proofs.YthnpiimiimiijaaGreatDoorW.PrintLast Go.Proofs.YthnpiimiimiijaaGreatDoorW.PrintMore
set_option linter.unusedVariables false
set_option linter.unusedSimpArgs false
/-- An op in the block q, beside a book in the block b. -/
structure InO (w W : World) (b q : Nat) (B : Book) (A1 : Option Addr) (c1 : Nat) (A2 : Option Addr) (c2 : Nat) (o : Op) : Prop where
 bk : InB w W b B A1 c1 A2 c2
 op : W.heap[q]? = some (.cells (encO o).toArray 36 (0, 0))
section
variable {w W W' : World} {b q : Nat} {B : Book} {A1 : Option Addr} {c1 : Nat} {A2 : Option Addr} {c2 : Nat} {o : Op}
theorem InO.later (h : InO w W b q B A1 c1 A2 c2 o) (hb : Below W.heap.size W W') : InO w W' b q B A1 c1 A2 c2 o :=
 ⟨h.bk.later hb, (hb.block _ (Array.getElem?_eq_some_iff.1 h.op).1).trans h.op⟩
theorem InO.start (h : SrcB w B A1 A2) : InO w ((w.alloc (.cells (bookCells B A1 c1 A2 c2).toArray 43)).alloc (.cells (encO o).toArray 36)) w.heap.size (w.heap.size + 1) B A1 c1 A2 c2 o :=
 ⟨(InB.start h).later ((Below.refl _ _).alloc (Nat.le_refl _) _), by have := heap_alloc_new (w.alloc (.cells (bookCells B A1 c1 A2 c2).toArray 43)) (.cells (encO o).toArray 36); simpa using this⟩
theorem InO.cells (h : InO w W b q B A1 c1 A2 c2 o) : W.cell? ⟨q, 0, none⟩ = some (.int .i64 o.kind) ∧ W.cell? ⟨q, 1, none⟩ = some (.int .i64 o.node) ∧ W.cell? ⟨q, 34, none⟩ = some (.int .i64 o.exp) ∧ W.cell? ⟨q, 35, none⟩ = some (.string (str o.text)) ∧ W.cell? ⟨q, 36, none⟩ = some (.int .i64 o.at_) := by
 have hq := h.op
 refine ⟨?_, ?_, ?_, ?_, ?_⟩
 ·rw [cell_of_heap hq]; rfl
 ·rw [cell_of_heap hq]; rfl
 ·rw [cell_of_heap hq]; exact tailOfO o 0
 ·rw [cell_of_heap hq]; exact tailOfO o 1
 ·rw [cell_of_heap hq]; exact tailOfO o 2
theorem InO.load (h : InO w W b q B A1 c1 A2 c2 o) : (Instr.loadAt 36 (.pointer (some ⟨q, 0, none⟩))).run Tryz.prog W = .ok (.agg (encO o).toArray) W :=
 run_loadAtK Tryz.prog W 36 37 Tryz.isAgg36 Tryz.sizeOf36 q 0 (encO o) (encO_len o) (cells_of_heap h.op)
theorem InO.key (h : InO w W b q B A1 c1 A2 c2 o) : (Instr.loadAt 34 (.pointer (some ⟨q, 2, none⟩))).run Tryz.prog W = .ok (.agg (encK o.key).toArray) W :=
 run_loadAtK Tryz.prog W 34 32 Tryz.isAgg34 Tryz.sizeOf34 q 2 (encK o.key) (encK_len _) (fun j v hj => by rw [cell_of_heap h.op]; exact keyOfO o j v hj)
end
end Go.Proofs.YthnpiimiimiijaaGreatDoor.Dir
end
section
namespace Go.Proofs.YthnpiimiimiijaaGreatDoor.Dir
open Go Go.RowKit Go.Proofs Go.Proofs.YthnpiimiimiijaaGreatDoorW.PrintWords Go.Proofs.YthnpiimiimiijaaGreatDoorW.PrintLast Go.Proofs.YthnpiimiimiijaaGreatDoorW.PrintMore
set_option linter.unusedVariables false
set_option linter.unusedSimpArgs false
/-- Where a list lies, there are things of its type. -/
def TyA (W : World) (A : Option Addr) (T : TypeId) : Prop := ∀ a, A = some a → ∃ cs fr, W.heap[a.block]? = some (.cells cs T fr)
theorem TyA.below {W W' : World} {A : Option Addr} {T : TypeId} (h : TyA W A T) (hb : Below W.heap.size W W') : TyA W' A T := fun a ha => by
 obtain ⟨cs, fr, hq⟩ := h a ha
 exact ⟨cs, fr, (hb.block _ (Array.getElem?_eq_some_iff.1 hq).1).trans hq⟩
theorem TyA.setRow {W : World} {A : Option Addr} {T : TypeId} (h : TyA W A T) (g : Nat) (cs : Array Value) : TyA (W.setRow g cs) A T := fun a ha => by
 obtain ⟨cs', fr, hq⟩ := h a ha
 by_cases e : a.block = g
 ·rw [e] at hq ⊢; exact ⟨cs, fr, setRow_heap _ _ _ _ _ _ hq⟩
 ·exact ⟨cs', fr, by rw [setRow_other _ _ _ _ e]; exact hq⟩
theorem own_typed {w : World} {base : Nat} {e : TypeId} {size n c : Nat} {A : Option Addr} {xs : List Value} (h : w.ownsRow base e size (.slice A n c) n xs) : TyA w A e := fun a ha => by
 subst ha
 rcases h.2 with ⟨e, -⟩ | ⟨g, cap, cur, e, hb, hg, -⟩
 ·cases e
 ·cases e; exact ⟨_, _, hg⟩
/-- A list in new memory. -/
def NewT (n : Nat) (W : World) (T : TypeId) (A : Option Addr) : Prop := ∀ a, A = some a → n ≤ a.block ∧ ∃ cs fr, W.heap[a.block]? = some (.cells cs T fr)
theorem NewT.ty {n : Nat} {W : World} {T : TypeId} {A : Option Addr} (h : NewT n W T A) : TyA W A T := fun a ha => (h a ha).2
/-- A list's address is the old one, or one of new memory. -/
def NewA (n : Nat) (W : World) (T : TypeId) (A A' : Option Addr) : Prop := A' = A ∨ NewT n W T A'
theorem cells5 (B : Book) (A1 : Option Addr) (c1 : Nat) (A2 : Option Addr) (c2 : Nat) : (bookCells B A1 c1 A2 c2).length = 5 := rfl
end Go.Proofs.YthnpiimiimiijaaGreatDoor.Dir
end
section
namespace Go.Proofs.YthnpiimiimiijaaGreatDoor.Dir
open Go Go.RowKit Go.Proofs Go.Proofs.YthnpiimiimiijaaGreatDoorW.PrintWords Go.Proofs.YthnpiimiimiijaaGreatDoorW.PrintLast Go.Proofs.YthnpiimiimiijaaGreatDoorW.PrintMore
set_option linter.unusedVariables false
set_option linter.unusedSimpArgs false
end Go.Proofs.YthnpiimiimiijaaGreatDoor.Dir
end
section
namespace Go.Proofs.YthnpiimiimiijaaGreatDoor.Acl
open Go.Lib
/-- The words of a line: cur is the word begun. -/
def wordsGo (cur : List UInt8) : List UInt8 → List (List UInt8)
 | [] => if cur = [] then [] else [cur]
 | c :: r => if c = 32 then (if cur = [] then [] else [cur]) ++ wordsGo [] r else wordsGo (cur ++ [c]) r
def endAt (acc : List (Nat × Nat)) (st : Option Nat) (pos : Nat) : List (Nat × Nat) := match st with | some a => acc ++ [(a, pos)] | none => acc
def byteSpans (s : ByteArray) : Nat → Nat → Option Nat → List (Nat × Nat) → List (Nat × Nat) × Option Nat
 | 0, _, st, acc => (acc, st)
 | f + 1, pos, st, acc => if pos < s.size then
   (if s.get! pos = 32 then byteSpans s f (pos + 1) none (endAt acc st pos)
    else byteSpans s f (pos + 1) (some (st.getD pos)) acc)
  else (acc, st)
theorem byteSpans_at (s : ByteArray) (f pos : Nat) (st : Option Nat) (acc : List (Nat × Nat)) (h : pos < s.size) : byteSpans s (f + 1) pos st acc =
  if s.get! pos = 32 then byteSpans s f (pos + 1) none (endAt acc st pos) else byteSpans s f (pos + 1) (some (st.getD pos)) acc := by
 show (if pos < s.size then _ else _) = _
 rw [if_pos h]
theorem byteSpans_end (s : ByteArray) (f pos : Nat) (st : Option Nat) (acc : List (Nat × Nat)) (h : ¬ pos < s.size) : byteSpans s f pos st acc = (acc, st) := by
 cases f with
 | zero => rfl
 | succ f => simp [byteSpans, h]
theorem not32 {c : UInt8} (h : c.toNat ≠ 32) : c ≠ 32 := fun e => h (by rw [e]; rfl)
theorem is32 {c : UInt8} (h : c.toNat = 32) : c = 32 := UInt8.toNat_inj.1 (by rw [h]; rfl)
theorem blank_ne {r : Nat} (h : r ≠ 32) : isBlank r = false := by unfold isBlank; exact beq_eq_false_iff_ne.2 h
theorem dec_step (s : ByteArray) (pos : Nat) (h : pos < s.size) :
  (isBlank (Utf8.decode s pos).1 = true ∧ s.get! pos = 32 ∧ (Utf8.decode s pos).2 = 1) ∨
  (isBlank (Utf8.decode s pos).1 = false ∧ ∃ w, (Utf8.decode s pos).2 = w + 1 ∧ pos + w < s.size ∧ ∀ j, j ≤ w → s.get! (pos + j) ≠ 32) := by
 rw [decode_at]
 by_cases h0 : (s.get! pos).toNat < 128
 ·rw [decodeN_ascii _ _ _ _ _ h0]
  by_cases h32 : (s.get! pos).toNat = 32
  ·exact .inl ⟨by unfold isBlank; simp [h32], is32 h32, rfl⟩
  ·refine .inr ⟨blank_ne h32, 0, rfl, h, fun j hj => ?_⟩
   obtain rfl : j = 0 := by omega
   exact not32 h32
 ·right
  rcases decodeN_shape (s.size - pos) (s.get! pos).toNat (s.get! (pos + 1)).toNat (s.get! (pos + 2)).toNat (s.get! (pos + 3)).toNat with h1 | h1 | h1 | h1 | h1
  ·omega
  ·obtain ⟨a1, a2, a3, a4, a5⟩ := h1
   rw [a5]
   refine ⟨blank_ne (by simp only; omega), 1, rfl, by omega, fun j hj => not32 ?_⟩
   match j, hj with
   | 0, _ => show (s.get! pos).toNat ≠ 32; omega
   | 1, _ => omega
  ·obtain ⟨a1, a2, a3, a4, a5, a6, a7⟩ := h1
   rw [a7]
   refine ⟨blank_ne (by simp only; omega), 2, rfl, by omega, fun j hj => not32 ?_⟩
   match j, hj with
   | 0, _ => show (s.get! pos).toNat ≠ 32; omega
   | 1, _ => omega
   | 2, _ => omega
  ·obtain ⟨a1, a2, a3, a4, a5, a6, a7, a8⟩ := h1
   rw [a8]
   refine ⟨blank_ne (by simp only; omega), 3, rfl, by omega, fun j hj => not32 ?_⟩
   match j, hj with
   | 0, _ => show (s.get! pos).toNat ≠ 32; omega
   | 1, _ => omega
   | 2, _ => omega
   | 3, _ => omega
  ·rw [h1]
   refine ⟨blank_ne (by decide), 0, rfl, h, fun j hj => not32 ?_⟩
   obtain rfl : j = 0 := by omega
   show (s.get! pos).toNat ≠ 32
   omega
theorem byteSpans_skip (s : ByteArray) : ∀ (w pos f : Nat) (st : Option Nat) (acc : List (Nat × Nat)), (∀ j, j ≤ w → s.get! (pos + j) ≠ 32) → pos + w < s.size →
  byteSpans s (f + (w + 1)) pos st acc = byteSpans s f (pos + (w + 1)) (some (st.getD pos)) acc := by
 intro w
 induction w with
 | zero =>
  intro pos f st acc h hp
  have h0 : s.get! pos ≠ 32 := h 0 (by omega)
  show byteSpans s (f + 1) pos st acc = _
  rw [byteSpans_at _ _ _ _ _ (by omega), if_neg h0]
 | succ w ih =>
  intro pos f st acc h hp
  have h0 : s.get! pos ≠ 32 := h 0 (by omega)
  have e := ih (pos + 1) f (some (st.getD pos)) acc (fun j hj => by have := h (j + 1) (by omega); rwa [show pos + (j + 1) = pos + 1 + j by omega] at this) (by omega)
  show byteSpans s (f + (w + 1) + 1) pos st acc = _
  rw [byteSpans_at _ _ _ _ _ (by omega), if_neg h0, e]
  rw [show pos + 1 + (w + 1) = pos + (w + 1 + 1) by omega]
  rfl
theorem spans_bytes (s : ByteArray) : ∀ (n f f' pos : Nat) (st : Option Nat) (acc : List (Nat × Nat)), s.size - pos ≤ n → n ≤ f → n ≤ f' → spansFromP isBlank s f pos st acc = byteSpans s f' pos st acc := by
 intro n
 induction n using Nat.strongRecOn with
 | _ n ih =>
  intro f f' pos st acc hn hf hf'
  by_cases hp : pos < s.size
  ·obtain ⟨f, rfl⟩ : ∃ g, f = g + 1 := ⟨f - 1, by omega⟩
   unfold spansFromP
   rw [if_pos hp]
   rcases dec_step s pos hp with ⟨h1, h2, h3⟩ | ⟨h1, w, h2, h3, h4⟩
   ·rw [if_pos h1, h3]
    obtain ⟨f', rfl⟩ : ∃ g, f' = g + 1 := ⟨f' - 1, by omega⟩
    rw [byteSpans_at _ _ _ _ _ hp, if_pos h2]
    cases st with
    | none => exact ih (n - 1) (by omega) f f' _ _ _ (by omega) (by omega) (by omega)
    | some a => exact ih (n - 1) (by omega) f f' _ _ _ (by omega) (by omega) (by omega)
   ·rw [if_neg (by rw [h1]; simp), h2]
    obtain ⟨f', rfl⟩ : ∃ g, f' = g + (w + 1) := ⟨f' - (w + 1), by omega⟩
    rw [byteSpans_skip s w pos f' st acc h4 h3]
    cases st with
    | none => exact ih (n - (w + 1)) (by omega) f f' _ _ _ (by omega) (by omega) (by omega)
    | some a => exact ih (n - (w + 1)) (by omega) f f' _ _ _ (by omega) (by omega) (by omega)
  ·rw [spansFromP_end _ _ _ _ _ _ hp, byteSpans_end _ _ _ _ _ hp]
/-- The bytes of the word begun. -/
def begun (r : List UInt8) (st : Option Nat) (pos : Nat) : List UInt8 := match st with | none => [] | some a => (r.take pos).drop a
theorem spans_words (r : List UInt8) : ∀ (f pos : Nat) (st : Option Nat) (acc : List (Nat × Nat)), r.length - pos ≤ f → (∀ a, st = some a → a < pos) → pos ≤ r.length →
  (closeSpans ⟨r.toArray⟩ (byteSpans ⟨r.toArray⟩ f pos st acc)).map (fun x => (r.take x.2).drop x.1) = acc.map (fun x => (r.take x.2).drop x.1) ++ wordsGo (begun r st pos) (r.drop pos) := by
 have hsz : (⟨r.toArray⟩ : ByteArray).size = r.length := by simp [ByteArray.size]
 have stop : ∀ (st : Option Nat) (acc : List (Nat × Nat)), (∀ a, st = some a → a < r.length) →
   (closeSpans ⟨r.toArray⟩ (acc, st)).map (fun x => (r.take x.2).drop x.1) = acc.map (fun x => (r.take x.2).drop x.1) ++ wordsGo (begun r st r.length) [] := by
  intro st acc hst
  cases st with
  | none => simp [closeSpans, begun, wordsGo]
  | some a =>
   have ha := hst a rfl
   have hne : r.drop a ≠ [] := fun e => by have := congrArg List.length e; simp at this; omega
   unfold closeSpans begun wordsGo
   simp only [hsz, List.take_length, List.map_append, List.map_cons, List.map_nil]
   rw [if_neg hne]
 intro f
 induction f with
 | zero =>
  intro pos st acc hf hst hp
  obtain rfl : pos = r.length := by omega
  rw [List.drop_length]
  exact stop st acc hst
 | succ f ih =>
  intro pos st acc hf hst hp
  by_cases h : pos < r.length
  ·have hg : (⟨r.toArray⟩ : ByteArray).get! pos = r[pos] := by
    rw [← getD_get!' ⟨r.toArray⟩ pos]
    show r.getD pos 0 = _
    rw [List.getD_eq_getElem?_getD, List.getElem?_eq_getElem h]
    rfl
   rw [byteSpans_at _ _ _ _ _ (by rw [hsz]; exact h), hg, List.drop_eq_getElem_cons h, wordsGo]
   by_cases hc : r[pos] = 32
   ·rw [if_pos hc, if_pos hc, ih (pos + 1) none _ (by omega) (fun a e => by cases e) (by omega)]
    cases st with
    | none => simp [begun, endAt]
    | some a =>
     have ha := hst a rfl
     have hne : (r.take pos).drop a ≠ [] := fun e => by have := congrArg List.length e; simp at this; omega
     have hb : begun r (some a) pos = (r.take pos).drop a := rfl
     rw [hb, if_neg hne]
     simp [begun, endAt]
   ·rw [if_neg hc, if_neg hc, ih (pos + 1) _ acc (by omega) (fun a e => by cases e; cases st with | none => simp | some b => have := hst b rfl; simp; omega) (by omega)]
    congr 2
    cases st with
    | none =>
     simp only [begun, Option.getD_none, List.take_add_one, List.getElem?_eq_getElem h, Option.toList_some]
     rw [List.drop_append_of_le_length (by simp; omega), List.drop_of_length_le (by simp; omega)]
    | some a =>
     have ha := hst a rfl
     simp only [begun, Option.getD_some, List.take_add_one, List.getElem?_eq_getElem h, Option.toList_some]
     rw [List.drop_append_of_le_length (by simp; omega)]
  ·obtain rfl : pos = r.length := by omega
   rw [byteSpans_end _ _ _ _ _ (by rw [hsz]; exact h), List.drop_length]
   exact stop st acc hst
theorem words_bytes (s : List UInt8) : wordsOf s = wordsGo [] s := by
 have hsz : (⟨s.toArray⟩ : ByteArray).size = s.length := by simp [ByteArray.size]
 unfold wordsOf goFieldsP spansOfP
 rw [spans_bytes ⟨s.toArray⟩ s.length _ s.length 0 none [] (by omega) (by omega) (by omega), List.map_map]
 have := spans_words s s.length 0 none [] (by omega) (fun a e => by cases e) (by omega)
 simp only [List.map_nil, List.nil_append, List.drop_zero] at this
 have e : begun s none 0 = [] := rfl
 rw [e] at this
 rw [← this]
 congr 1
 funext x
 exact congrArg (fun b : ByteArray => b.data.toList) (Acl.extract_eq s x.1 x.2)
end Go.Proofs.YthnpiimiimiijaaGreatDoor.Acl
end
section
namespace Go.Proofs.YthnpiimiimiijaaGreatDoor.Acl
open Go.Lib Go.RowKit Go.Proofs.YthnpiimiimiijaaGreatDoor.PA Go.Proofs.YthnpiimiimiijaaGreatDoorW.PrintWords Go.Proofs.YthnpiimiimiijaaGreatDoorW.PrintLast Go.Proofs.YthnpiimiimiijaaGreatDoorW.PrintMore
/-! #### numbers -/
/-- The number that digits spell behind acc. -/
def digs (acc : Nat) : List UInt8 → Option Nat
 | [] => some acc
 | c :: r => if 48 ≤ c.toNat ∧ c.toNat ≤ 57 then digs (acc * 10 + (c.toNat - 48)) r else none
def docNumber (s : List UInt8) : Option Int :=
 if s = [] ∨ 5 < s.length ∨ (1 < s.length ∧ s.getD 0 0 = 48) then none else
 match digs 0 s with
 | some n => if n ≤ 65535 then some (n : Int) else none
 | none => none
theorem digs_append : ∀ (l : List UInt8) (acc : Nat) (c : UInt8), digs acc (l ++ [c]) = (digs acc l).bind fun n => if 48 ≤ c.toNat ∧ c.toNat ≤ 57 then some (n * 10 + (c.toNat - 48)) else none := by
 intro l
 induction l with
 | nil => intro acc c; simp [digs]
 | cons d l ih =>
  intro acc c
  simp only [List.cons_append, digs]
  split
  ·exact ih _ c
  ·rfl
theorem digs_mono : ∀ (l : List UInt8) (acc n : Nat), digs acc l = some n → acc ≤ n := by
 intro l
 induction l with
 | nil => intro acc n h; cases h; exact Nat.le_refl _
 | cons c l ih =>
  intro acc n h
  simp only [digs] at h
  split at h
  ·have := ih _ _ h; omega
  ·cases h
theorem byte_digit {d : Nat} (h : d < 10) : (UInt8.ofNat (48 + d)).toNat = 48 + d := by
 show (48 + d) % 256 = 48 + d
 omega
theorem digs_dec (u : Nat) : digs 0 (decDigits u) = some u := by
 induction u using Nat.strongRecOn with
 | _ u ih =>
  by_cases h : u < 10
  ·rw [decDigits, dif_pos h]
   simp only [digs, byte_digit h]
   rw [if_pos (by omega)]
   congr 1; omega
  ·rw [decDigits, dif_neg h, digs_append, ih (u / 10) (by omega)]
   simp only [Option.bind_some, byte_digit (show u % 10 < 10 by omega)]
   rw [if_pos (by omega)]
   congr 1; omega
theorem dec_ne (u : Nat) : decDigits u ≠ [] := fun e => by
 have h := decDigits_length u
 have := nDigits_pos u
 rw [e] at h; simp at h; omega
theorem dec_head (u : Nat) (h1 : 1 ≤ u) : (decDigits u).getD 0 0 ≠ 48 := by
 induction u using Nat.strongRecOn with
 | _ u ih =>
  by_cases h : u < 10
  ·rw [decDigits, dif_pos h]
   intro e
   have := congrArg UInt8.toNat e
   simp only [List.getD_cons_zero, byte_digit h] at this
   have h48 : (48 : UInt8).toNat = 48 := rfl
   omega
  ·rw [decDigits, dif_neg h]
   have hi := ih (u / 10) (by omega) (by omega)
   have hn := dec_ne (u / 10)
   cases hd : decDigits (u / 10) with
   | nil => exact absurd hd hn
   | cons a t => rw [hd] at hi; simpa using hi
theorem nDigits_le : ∀ (k u : Nat), u < 10 ^ (k + 1) → nDigits u ≤ k + 1 := by
 intro k
 induction k with
 | zero => intro u h; rw [nDigits_small (by simpa using h)]; exact Nat.le_refl _
 | succ k ih =>
  intro u h
  by_cases h10 : u < 10
  ·rw [nDigits_small h10]; omega
  ·rw [nDigits_big h10]
   have := ih (u / 10) (by rw [Nat.pow_succ] at h; omega)
   omega
theorem dec_of_digs : ∀ (k : Nat) (l : List UInt8) (n : Nat), l.length ≤ k → l ≠ [] → (1 < l.length → l.getD 0 0 ≠ 48) → digs 0 l = some n → decDigits n = l := by
 intro k
 induction k with
 | zero => intro l n hk hl; exact absurd (List.eq_nil_of_length_eq_zero (by omega)) hl
 | succ k ih =>
  intro l n hk hl hh hd
  obtain ⟨m, c, rfl⟩ : ∃ m c, l = m ++ [c] := ⟨l.dropLast, l.getLast hl, (List.dropLast_concat_getLast hl).symm⟩
  rw [digs_append] at hd
  cases hm : digs 0 m with
  | none => rw [hm] at hd; cases hd
  | some n' =>
   rw [hm] at hd
   simp only [Option.bind_some] at hd
   split at hd
   ·rename_i hc
    obtain rfl := Option.some.inj hd
    by_cases he : m = []
    ·subst he
     obtain rfl : 0 = n' := Option.some.inj hm
     rw [decDigits, dif_pos (by omega)]
     simp only [List.nil_append]
     congr 1
     apply UInt8.toNat_inj.1
     rw [byte_digit (by omega)]; omega
    ·have hml : 0 < m.length := List.length_pos_iff.2 he
     have hhead : m.getD 0 0 ≠ 48 := by
      have := hh (by simp; omega)
      cases m with
      | nil => exact absurd rfl he
      | cons a t => simpa using this
     have e := ih m n' (by simp at hk; omega) he (fun _ => hhead) hm
     have hn' : 1 ≤ n' := by
      rcases Nat.eq_zero_or_pos n' with h0 | h0
      ·subst h0
       rw [← e] at hhead
       exact absurd (by rw [decDigits, dif_pos (by decide)]; rfl) hhead
      ·exact h0
     rw [decDigits, dif_neg (by omega), show (n' * 10 + (c.toNat - 48)) / 10 = n' by omega, e]
     congr 2
     apply UInt8.toNat_inj.1
     rw [byte_digit (by omega)]; omega
   ·cases hd
theorem parse_digs : ∀ (l : List UInt8) (acc n : Nat), digs acc l = some n → n ≤ 65535 → parseUint10 acc l = .ok n := by
 intro l
 induction l with
 | nil => intro acc n h _; cases h; rfl
 | cons c l ih =>
  intro acc n h hn
  have h' := h
  simp only [digs] at h
  split at h
  ·rename_i hc
   have hm := digs_mono _ _ _ h
   have ha := digs_mono _ _ _ h'
   unfold parseUint10
   rw [if_pos hc, if_neg (by omega), if_neg (by omega)]
   exact ih _ _ h hn
  ·cases h
theorem atoi_digs {s : List UInt8} {n : Nat} (hs : s ≠ []) (h : digs 0 s = some n) (hn : n ≤ 65535) : atoiAll s = .ok (n : Int) := by
 have hp := parse_digs s 0 n h hn
 cases s with
 | nil => exact absurd rfl hs
 | cons c r =>
  have hc : 48 ≤ c.toNat ∧ c.toNat ≤ 57 := by
   simp only [digs] at h
   split at h
   ·assumption
   ·cases h
  rw [atoiAll_plain c r (by omega) (by omega)]
  unfold parseMag
  rw [if_neg (by simp), hp]
  unfold signless
  simp only
  rw [if_neg (by omega)]
theorem port_doc (s : List UInt8) : portOf s = docNumber s := by
 have fwd : ∀ v, portOf s = some v → docNumber s = some v := by
  intro v h
  have hr := portOf_range h
  unfold portOf at h
  cases hq : atoiAll s with
  | ok w =>
   rw [hq] at h
   simp only at h
   split at h
   ·rename_i hc
    obtain rfl := Option.some.inj h
    obtain ⟨u, rfl⟩ : ∃ u : Nat, w = u := ⟨w.toNat, by omega⟩
    have hs := hc.2.2
    rw [itoa_nonneg] at hs
    subst hs
    unfold docNumber
    rw [digs_dec, if_neg]
    ·simp only; rw [if_pos (by omega)]
    ·rintro (h1 | h1 | ⟨h1, h2⟩)
     ·exact dec_ne u h1
     ·rw [decDigits_length] at h1
      have := nDigits_le 4 u (by omega)
      omega
     ·rcases Nat.eq_zero_or_pos u with h0 | h0
      ·subst h0; rw [decDigits_length, nDigits_small (by decide)] at h1; omega
      ·exact dec_head u h0 h2
   ·cases h
  | range => rw [hq] at h; cases h
  | _ => rw [hq] at h; cases h
 cases hd : docNumber s with
 | none =>
  cases hp : portOf s with
  | none => rfl
  | some v => rw [fwd v hp] at hd; cases hd
 | some v =>
  unfold docNumber at hd
  split at hd
  ·cases hd
  ·rename_i hc
   have h1 : s ≠ [] := fun e => hc (.inl e)
   have h2 : 1 < s.length → s.getD 0 0 ≠ 48 := fun a b => hc (.inr (.inr ⟨a, b⟩))
   cases hg : digs 0 s with
   | none => rw [hg] at hd; cases hd
   | some n =>
    rw [hg] at hd
    simp only at hd
    split at hd
    ·rename_i hn
     obtain rfl := Option.some.inj hd
     unfold portOf
     rw [atoi_digs h1 hg hn]
     simp only
     rw [if_pos ⟨by omega, by omega, by rw [itoa_nonneg]; exact dec_of_digs _ s n (Nat.le_refl _) h1 h2 hg⟩]
    ·cases hd
/-! #### ports -/
/-- What stands ahead of the first '-' and behind it. -/
def scan (pre : List UInt8) : List UInt8 → Option (List UInt8 × List UInt8)
 | [] => none
 | c :: r => if c = 45 then some (pre, r) else scan (pre ++ [c]) r
def docPorts (s : List UInt8) : Option (Int × Int) :=
 if s = [42] then some (0, 65535) else
 match scan [] s with
 | some (a, b) => (docNumber a).bind fun x => (docNumber b).bind fun y => if x ≤ y then some (x, y) else none
 | none => (docNumber s).map fun x => (x, x)
theorem scan_index : ∀ (s pre : List UInt8), scan pre s = if 0 ≤ index s [45] then some (pre ++ s.take (index s [45]).toNat, s.drop ((index s [45]).toNat + 1)) else none := by
 intro s
 induction s with
 | nil => intro pre; rfl
 | cons c r ih =>
  intro pre
  unfold scan index
  by_cases hc : c = 45
  ·subst hc
   rw [if_pos rfl]
   simp [List.isPrefixOf]
  ·have h0 : ([45] : List UInt8).isPrefixOf (c :: r) = false := by
    simp only [List.isPrefixOf, Bool.and_true, beq_eq_false_iff_ne]
    exact fun e => hc e.symm
   rw [if_neg hc, ih (pre ++ [c]), h0]
   rcases index_spec r [45] with ⟨h1, _⟩ | ⟨i, h1, _⟩
   ·rw [h1]; simp
   ·rw [h1]
    have e1 : ((i : Int) == -1) = false := by rw [beq_eq_false_iff_ne]; omega
    have e2 : ((i : Int) + 1).toNat = i + 1 := by omega
    simp only [e1]
    simp [e2]
    omega
theorem ports_doc (s : List UInt8) : portsOf s = docPorts s := by
 unfold portsOf docPorts
 by_cases h : s = [42]
 ·rw [if_pos h, if_pos h]
 ·rw [if_neg h, if_neg h, scan_index, port_doc, port_doc]
  unfold cut
  by_cases hi : 0 ≤ index s [45]
  ·simp only [if_pos hi, List.nil_append, if_true, List.length_singleton]
   cases docNumber (s.take (index s [45]).toNat) with
   | none => rfl
   | some a => cases docNumber (s.drop ((index s [45]).toNat + 1)) with
    | none => rfl
    | some b => rfl
  ·simp only [if_neg hi, Bool.false_eq_true, if_false]
   cases docNumber s with
   | none => rfl
   | some a => rfl
/-! #### nodes -/
def nodesFrom (odd : Bool) (out : Nat) : List UInt8 → Option Nat
 | [] => if odd = true then some out else none
 | c :: r => if odd = true then (if c = 44 then nodesFrom false out r else none)
  else if (49 ≤ c.toNat ∧ c.toNat ≤ 56) ∧ out / 2 ^ (c.toNat - 48) % 2 ≠ 1 then nodesFrom true (out + 2 ^ (c.toNat - 48)) r else none
def docNodes (s : List UInt8) : Option Int := if s = [42] then some 510 else (nodesFrom false 0 s).map fun n : Nat => (n : Int)
theorem nodesFrom_cons (odd : Bool) (out : Nat) (c : UInt8) (r : List UInt8) : nodesFrom odd out (c :: r) = if odd = true then (if c = 44 then nodesFrom false out r else none)
  else if (49 ≤ c.toNat ∧ c.toNat ≤ 56) ∧ out / 2 ^ (c.toNat - 48) % 2 ≠ 1 then nodesFrom true (out + 2 ^ (c.toNat - 48)) r else none := rfl
theorem nodesFrom_even (out : Nat) (c : UInt8) (r : List UInt8) : nodesFrom false out (c :: r) = if (49 ≤ c.toNat ∧ c.toNat ≤ 56) ∧ out / 2 ^ (c.toNat - 48) % 2 ≠ 1 then nodesFrom true (out + 2 ^ (c.toNat - 48)) r else none := by
 rw [nodesFrom_cons, if_neg (by simp)]
theorem nodesFrom_odd (out : Nat) (c : UInt8) (r : List UInt8) : nodesFrom true out (c :: r) = if c = 44 then nodesFrom false out r else none := by
 rw [nodesFrom_cons, if_pos rfl]
theorem bitsOf_cons (d : UInt8) (r : List (List UInt8)) (out : Int) (k : Nat) (h : digitOf [d] = some k) : bitsOf ([d] :: r) out =
  if Go.bits .and .i64 out (wrap64 (2 ^ k)) = 0 then bitsOf r (Go.bits .or .i64 out (wrap64 (2 ^ k))) else none := by rw [bitsOf, h]
theorem bitsOf_none (p : List UInt8) (r : List (List UInt8)) (out : Int) (h : digitOf p = none) : bitsOf (p :: r) out = none := by rw [bitsOf, h]
theorem digitOf_one (d : UInt8) : digitOf [d] = if 49 ≤ d.toNat ∧ d.toNat ≤ 56 then some (d.toNat - 48) else none := rfl
def bitTable : Bool := (List.range 512).all fun o => (List.range 9).all fun k => k == 0 ||
 (if o / 2 ^ k % 2 = 1 then Go.bits .and .i64 (o : Int) (wrap64 (2 ^ k)) != 0
  else Go.bits .and .i64 (o : Int) (wrap64 (2 ^ k)) == 0 && Go.bits .or .i64 (o : Int) (wrap64 (2 ^ k)) == ((o + 2 ^ k : Nat) : Int) && decide (o + 2 ^ k < 512))
theorem bitTable_true : bitTable = true := by kernel_rfl
theorem bit_at (o k : Nat) (ho : o < 512) (h1 : 1 ≤ k) (h8 : k ≤ 8) :
  (if o / 2 ^ k % 2 = 1 then Go.bits .and .i64 (o : Int) (wrap64 (2 ^ k)) != 0
   else Go.bits .and .i64 (o : Int) (wrap64 (2 ^ k)) == 0 && Go.bits .or .i64 (o : Int) (wrap64 (2 ^ k)) == ((o + 2 ^ k : Nat) : Int) && decide (o + 2 ^ k < 512)) = true := by
 have h := bitTable_true
 unfold bitTable at h
 have h2 := List.all_eq_true.1 (List.all_eq_true.1 h o (List.mem_range.2 ho)) k (List.mem_range.2 (by omega))
 simp only [Bool.or_eq_true] at h2
 rcases h2 with h2 | h2
 ·have : k = 0 := by simpa using h2
  omega
 ·exact h2
theorem bits_cons (d : UInt8) (r : List (List UInt8)) (o : Nat) (ho : o < 512) :
  bitsOf ([d] :: r) (o : Int) = if (49 ≤ d.toNat ∧ d.toNat ≤ 56) ∧ o / 2 ^ (d.toNat - 48) % 2 ≠ 1 then bitsOf r ((o + 2 ^ (d.toNat - 48) : Nat) : Int) else none := by
 by_cases hd : 49 ≤ d.toNat ∧ d.toNat ≤ 56
 ·rw [bitsOf_cons d r o (d.toNat - 48) (by rw [digitOf_one, if_pos hd])]
  have hb := bit_at o (d.toNat - 48) ho (by omega) (by omega)
  by_cases h1 : o / 2 ^ (d.toNat - 48) % 2 = 1
  ·rw [if_pos h1] at hb
   rw [if_neg (by simpa using hb), if_neg (fun h => h.2 h1)]
  ·rw [if_neg h1] at hb
   simp only [Bool.and_eq_true, beq_iff_eq, decide_eq_true_eq] at hb
   rw [if_pos hb.1.1, if_pos ⟨hd, h1⟩, hb.1.2]
 ·rw [bitsOf_none _ _ _ (by rw [digitOf_one, if_neg hd]), if_neg (fun h => hd h.1)]
theorem bit_room (o k : Nat) (ho : o < 512) (h1 : 1 ≤ k) (h8 : k ≤ 8) (h : o / 2 ^ k % 2 ≠ 1) : o + 2 ^ k < 512 := by
 have hb := bit_at o k ho h1 h8
 rw [if_neg h] at hb
 simp only [Bool.and_eq_true, decide_eq_true_eq] at hb
 exact hb.2
theorem bits_nodes : ∀ (n : Nat) (s : List UInt8) (o : Nat), s.length ≤ n → o < 512 → bitsOf (splitB 44 s) (o : Int) = (nodesFrom false o s).map fun n : Nat => (n : Int) := by
 intro n
 induction n using Nat.strongRecOn with
 | _ n ih =>
  intro s o hn ho
  match s, hn with
  | [], _ => rfl
  | [d], _ =>
   by_cases h44 : d = 44
   ·subst h44; rfl
   ·have e : splitB 44 [d] = [[d]] := by simp [splitB, h44]
    rw [e, bits_cons d [] o ho]
    rw [nodesFrom_even]
    split <;> rfl
  | d :: x :: r, hn =>
   by_cases h44 : d = 44
   ·subst h44
    have e : splitB 44 (44 :: x :: r) = [] :: splitB 44 (x :: r) := by rw [splitB, if_pos rfl]
    rw [e]
    rfl
   ·by_cases hx : x = 44
    ·subst hx
     have e : splitB 44 (d :: 44 :: r) = [d] :: splitB 44 r := by rw [splitB, if_neg h44, splitB, if_pos rfl]; rfl
     rw [e, bits_cons d _ o ho]
     rw [nodesFrom_even]
     split
     ·rename_i hc
      rw [nodesFrom_odd, if_pos rfl]
      exact ih (n - 2) (by simp at hn; omega) r _ (by simp at hn; omega) (bit_room o _ ho (by omega) (by omega) hc.2)
     ·rfl
    ·have e : ∃ y t, splitB 44 (d :: x :: r) = (d :: x :: y) :: t := by
      rw [splitB, if_neg h44, splitB, if_neg hx]
      exact ⟨_, _, rfl⟩
     obtain ⟨y, t, e⟩ := e
     rw [e]
     have e2 : bitsOf ((d :: x :: y) :: t) (o : Int) = none := rfl
     rw [e2, nodesFrom_even]
     split
     ·rw [nodesFrom_odd, if_neg hx]; rfl
     ·rfl
theorem nodes_doc (s : List UInt8) : nodesOf s = docNodes s := by
 unfold nodesOf docNodes
 split
 ·rfl
 ·exact bits_nodes _ s 0 (Nat.le_refl _) (by decide)
/-! #### lines -/
def docLines (cur : List UInt8) : List UInt8 → List (List UInt8)
 | [] => if cur = [] then [] else [cur]
 | c :: r => if c = 10 then cur :: docLines [] r else docLines (cur ++ [c]) r
theorem words_none : wordsOf [] = [] := by rw [words_bytes]; rfl
theorem lines_cons (l : List UInt8) (a b : List (List UInt8)) (h : ∀ acc, linesOf a acc = linesOf b acc) (acc : List S135) : linesOf (l :: a) acc = linesOf (l :: b) acc := by
 unfold linesOf
 split
 ·exact h acc
 ·split
  ·rfl
  ·split
   ·rfl
   ·exact h _
theorem lines_doc : ∀ (s cur : List UInt8) (acc : List S135), linesOf ((cur ++ (splitB 10 s).headD []) :: (splitB 10 s).tail) acc = linesOf (docLines cur s) acc := by
 intro s
 induction s with
 | nil =>
  intro cur acc
  unfold docLines splitB
  by_cases h : cur = []
  ·subst h
   rw [if_pos rfl]
   show linesOf [[]] acc = linesOf [] acc
   exact lines_skip (by rw [words_none]; rfl)
  ·rw [if_neg h]; simp
 | cons c r ih =>
  intro cur acc
  unfold docLines splitB
  by_cases h : c = 10
  ·rw [if_pos h, if_pos h]
   simp only [List.headD_cons, List.tail_cons, List.append_nil]
   refine lines_cons _ _ _ (fun acc => ?_) acc
   have e := ih [] acc
   rw [List.nil_append] at e
   rw [← e]
   congr 1
   have hne := splitB_ne 10 r
   cases hs : splitB 10 r with
   | nil => exact absurd hs hne
   | cons a t => rfl
  ·rw [if_neg h, if_neg h]
   have e := ih (cur ++ [c]) acc
   rw [← e]
   simp
theorem parse_lines (s : List UInt8) (hs : s.length ≤ 1024) : parseOf s = linesOf (docLines [] s) [] := by
 unfold parseOf
 rw [if_neg (by omega), ← lines_doc s [] []]
 congr 1
 have hne := splitB_ne 10 s
 cases h : splitB 10 s with
 | nil => exact absurd h hne
 | cons a t => rfl
end Go.Proofs.YthnpiimiimiijaaGreatDoor.Acl
end
