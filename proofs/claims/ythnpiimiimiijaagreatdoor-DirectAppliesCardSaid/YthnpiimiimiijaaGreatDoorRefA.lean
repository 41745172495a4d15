/- The document's directory: number, Less, find, keys, free. -/
import Derived.Test.YthnpiimiimiijaaGreatDoorRefKit
namespace Go.Proofs.YthnpiimiimiijaaGreatDoor.Dir
open Go Go.RowKit Go.Proofs Go.Proofs.YthnpiimiimiijaaGreatDoorW.PrintWords Go.Proofs.YthnpiimiimiijaaGreatDoorW.PrintLast Go.Proofs.YthnpiimiimiijaaGreatDoorW.PrintMore
set_option linter.unusedVariables false
set_option linter.unusedSimpArgs false
theorem number66 (n : Int) (w : World) : Calls Tryz.prog 66 #[.int .i64 n] w fun e w' => e = .returned (.bool (number n)) ∧ w' = w := by
 have hn : (decide (0 ≤ n) && decide (n ≤ 9007199254740991)) = number n := by unfold number maxN; rw [Bool.decide_and]
 go_enter Tryz.func66, Tryz.ntmps66
 go_wp2
 all_goals (go_ret; refine ⟨?_, rfl⟩; rw [← hn]; first | (simp; omega) | (simp_all; done) | (simp_all; omega))
theorem cmpB_at : ∀ (a b : List UInt8) (k : Nat), a.take k = b.take k → ∀ x y, a[k]? = some x → b[k]? = some y → x ≠ y → decide (Lib.compareBytes a b < 0) = decide ((x.toNat : Int) < (y.toNat : Int))
 | [], _, _, _, _, _, hx, _, _ => by simp at hx
 | _ :: _, [], _, _, _, _, _, hy, _ => by simp at hy
 | p :: a, q :: b, 0, _, x, y, hx, hy, hne => by
  simp at hx hy
  subst hx; subst hy
  unfold Lib.compareBytes
  by_cases h1 : p < q
  ·rw [if_pos h1]
   have := UInt8.lt_iff_toNat_lt.1 h1
   rw [decide_eq_true (by omega), decide_eq_true (by omega)]
  ·have h2 : q < p := by
    rw [UInt8.lt_iff_toNat_lt] at h1 ⊢
    have : p.toNat ≠ q.toNat := fun e => hne (UInt8.toNat_inj.1 e)
    omega
   rw [if_neg h1, if_pos h2]
   have := UInt8.lt_iff_toNat_lt.1 h2
   rw [decide_eq_false (by omega), decide_eq_false (by omega)]
 | p :: a, q :: b, k + 1, h, x, y, hx, hy, hne => by
  simp at h
  obtain ⟨rfl, h⟩ := h
  have := cmpB_at a b k h x y (by simpa using hx) (by simpa using hy) hne
  unfold Lib.compareBytes
  rw [if_neg (by rw [UInt8.lt_iff_toNat_lt]; omega), if_neg (by rw [UInt8.lt_iff_toNat_lt]; omega)]
  exact this
theorem encK_at (k : Key) {j : Nat} (hj : j < 32) : ∃ x : UInt8, k.1[j]? = some x ∧ (encK k)[j]? = some (.int .u8 (x.toNat : Int)) := by
 have hl : j < k.1.length := by rw [k.2]; exact hj
 refine ⟨k.1[j], List.getElem?_eq_getElem hl, ?_⟩
 show (k.1.map byteV)[j]? = _
 rw [List.getElem?_map, List.getElem?_eq_getElem hl]
 rfl
set_option maxHeartbeats 4000000 in
set_option maxRecDepth 100000 in
theorem less_ref (a b : Key) (w : World) : Calls Tryz.prog 67 #[.agg (encK a).toArray, .agg (encK b).toArray] w fun e w' => e = .returned (.bool (ltK a b)) ∧ Below w.heap.size w w' := by
 obtain ⟨W0, hW0⟩ : ∃ W0, W0 = (w.alloc (.cells (encK a).toArray 34)).alloc (.cells (encK b).toArray 34) := ⟨_, rfl⟩
 have hb0 : Below w.heap.size w W0 := by rw [hW0]; exact ((Below.refl _ w).alloc (Nat.le_refl _) _).alloc (by simp) _
 obtain ⟨p, hp⟩ : ∃ p, p = w.heap.size := ⟨_, rfl⟩
 have hsz : (w.alloc (.cells (encK a).toArray 34)).heap.size = p + 1 := by rw [hp]; simp
 have q1 : W0.heap[p]? = some (.cells (encK a).toArray 34 (0, 0)) := by rw [hW0, hp, Below.heap_alloc _ _ _ (by simp)]; exact heap_alloc_new w _
 have q2 : W0.heap[p + 1]? = some (.cells (encK b).toArray 34 (0, 0)) := by rw [hW0, hp]; have := heap_alloc_new (w.alloc (.cells (encK a).toArray 34)) (.cells (encK b).toArray 34); simpa using this
 have HQ1 := Aside0.mk (fun (W : World) (hb : Below W0.heap.size W0 W) => (hb.block _ (Array.getElem?_eq_some_iff.1 q1).1).trans q1)
 have HQ2 := Aside0.mk (fun (W : World) (hb : Below W0.heap.size W0 W) => (hb.block _ (Array.getElem?_eq_some_iff.1 q2).1).trans q2)
 have HB0 := Aside0.mk hb0
 obtain ⟨r, hr⟩ : ∃ r, r = ltK a b := ⟨_, rfl⟩
 have HR := Aside0.mk hr
 rw [← hr]
 obtain ⟨XA, hXA⟩ : ∃ XA, XA = (encK a).toArray := ⟨_, rfl⟩
 obtain ⟨XB, hXB⟩ : ∃ XB, XB = (encK b).toArray := ⟨_, rfl⟩
 rw [← hXA] at hW0 hsz ⊢
 rw [← hXB] at hW0 ⊢
 clear hb0 q1 q2 hr hXA hXB
 go_enter Tryz.func67, Tryz.ntmps67
 go_upto_region 1 with fail
 rw [← hW0]
 try rw [hsz]
 try rw [← hp]
 have HEQ := Aside0.mk (And.intro hW0 (And.intro hp hsz))
 clear hW0 hp hsz
 go_upto_region 2 with fail
 go_loopg [5] 32 (fun kx s5 wr => ∃ kk : Nat, s5 = .int .i64 kk ∧ kk + kx = 32 ∧ Aside0 (Below W0.heap.size W0 wr) ∧ Aside0 (a.1.take kk = b.1.take kk))
 case atStart => exact ⟨0, rfl, by omega, ⟨Below.refl _ _⟩, ⟨rfl⟩⟩
 case round =>
  obtain ⟨kk, rfl, hkk, BW, HT⟩ := hrel
  by_cases hlt : kk < 32
  ·have hltz : (kk : Int) < 32 := by omega
   obtain ⟨x, hx1, hx2⟩ := encK_at a hlt
   obtain ⟨y, hy1, hy2⟩ := encK_at b hlt
   have c1 : wr.cell? ⟨p, kk, none⟩ = some (.int .u8 (x.toNat : Int)) := by rw [cell_of_heap (HQ1.out wr BW.out)]; exact hx2
   have c2 : wr.cell? ⟨p + 1, kk, none⟩ = some (.int .u8 (y.toNat : Int)) := by rw [cell_of_heap (HQ2.out wr BW.out)]; exact hy2
   have HX := Aside0.mk (And.intro hx1 hy1)
   clear hx1 hx2 hy1 hy2
   obtain ⟨ko, rfl⟩ : ∃ ko, gk = ko + 1 := ⟨gk - 1, by omega⟩
   by_cases hxy : x = y
   ·subst hxy
    go_wp2_with fail
    go_quiet (fail)
    have HH := Aside0.mk (show Below W0.heap.size W0 (wr.drewN nq) from bdn BW.out nq)
    go_wp2_with fail
    go_roundg ko
    case measure => omega
    case rel => exact ⟨kk + 1, by go_num, by omega, ⟨HH.out⟩, ⟨by rw [List.take_add_one, List.take_add_one, HT.out, HX.out.1, HX.out.2]⟩⟩
   ·have hne : ((x.toNat : Int) == (y.toNat : Int)) = false := beq_eq_false_iff_ne.2 (fun e => hxy (UInt8.toNat_inj.1 (by omega)))
    have hne2 : ((x.toNat : Int) != (y.toNat : Int)) = true := by rw [bne, hne]; rfl
    go_wp2_with fail
    go_quiet (fail)
    have H1 := Aside0.mk (bdn BW.out nq)
    go_wp2_with fail
    go_quiet (fail)
    have HH := Aside0.mk (bdn H1.out nq)
    go_wp2_with fail
    go_ret
    have e : ltK a b = decide (x.toNat < y.toNat) := (cmpB_at a.1 b.1 kk HT.out x y HX.out.1 HX.out.2 hxy).trans (by simp)
    exact ⟨by rw [HR.out, e]; rfl, below_step HB0.out HH.out⟩
  ·have hltz : ¬ (kk : Int) < 32 := by omega
   have : kk = 32 := by omega
   subst this
   go_wp2_with fail
   go_ret
   refine ⟨?_, below_step HB0.out BW.out⟩
   have hab : a = b := Subtype.ext (by have := HT.out; rwa [List.take_of_length_le (by rw [a.2]; exact Nat.le_refl _), List.take_of_length_le (by rw [b.2]; exact Nat.le_refl _)] at this)
   rw [HR.out, hab, ltK_irrefl]
   rfl
def idxF : List Dev → Int → Int → Int
 | [], _, _ => -1
 | d :: l, n, k => if d.node = n then k else idxF l n (k + 1)
theorem idxF_next {l : List Dev} {k : Nat} {d : Dev} {n j : Int} (h : l[k]? = some d) : idxF (l.drop k) n j = if d.node = n then j else idxF (l.drop (k + 1)) n (j + 1) := by
 obtain ⟨hl, e⟩ := List.getElem?_eq_some_iff.1 h
 rw [List.drop_eq_getElem_cons hl, e]
 rfl
set_option maxHeartbeats 4000000 in
set_option maxRecDepth 100000 in
theorem find_ref (B : Book) (A1 : Option Addr) (c1 : Nat) (A2 : Option Addr) (c2 : Nat) (n : Int) (w : World) (h : SrcB w B A1 A2) :
  Calls Tryz.prog 92 #[.agg (bookCells B A1 c1 A2 c2).toArray, .int .i64 n] w fun e w' => e = .returned (.int .i64 (idxF B.devs n 0)) ∧ Below w.heap.size w w' := by
 have hI := InB.start (c1 := c1) (c2 := c2) h
 obtain ⟨W0, hW0⟩ : ∃ W0, W0 = w.alloc (.cells (bookCells B A1 c1 A2 c2).toArray 43) := ⟨_, rfl⟩
 obtain ⟨p, hp⟩ : ∃ p, p = w.heap.size := ⟨_, rfl⟩
 rw [← hW0, ← hp] at hI
 obtain ⟨r, hr⟩ : ∃ r, r = idxF B.devs n 0 := ⟨_, rfl⟩
 rw [← hr]
 have HI := Aside0.mk hI
 have HR := Aside0.mk hr
 clear hI hr h
 go_enter Tryz.func92, Tryz.ntmps92
 go_upto_region 1 with fail
 rw [← hW0, ← hp]
 have HEQ := Aside0.mk (And.intro hW0 hp)
 clear hW0 hp
 go_upto_region 2 with fail
 go_loopg [5] B.devs.length (fun kx s5 wr => ∃ kk : Nat, s5 = .int .i64 kk ∧ kk + kx = B.devs.length ∧ Aside0 (InB w wr p B A1 c1 A2 c2) ∧ Aside0 (r = idxF (B.devs.drop kk) n kk))
 case atStart => exact ⟨0, rfl, by omega, ⟨HI.out⟩, ⟨HR.out⟩⟩
 case round =>
  obtain ⟨kk, rfl, hkk, BW, HT⟩ := hrel
  obtain ⟨-, -, k2, -, -⟩ := BW.out.cells
  have hfew := BW.out.src.few
  by_cases hlt : kk < B.devs.length
  ·have hltz : (kk : Int) < (B.devs.length : Int) := by omega
   obtain ⟨d, hd⟩ : ∃ d, B.devs[kk]? = some d := ⟨_, List.getElem?_eq_getElem hlt⟩
   obtain ⟨g, o, rfl, hc⟩ := BW.out.src.devc hd
   have c0 : wr.cell? ⟨g, o + kk * 35, none⟩ = some (.int .i64 d.node) := hc wr (Below.refl _ _) 0 _ rfl
   have HN := Aside0.mk (HT.out.trans (idxF_next hd))
   clear hc hd
   obtain ⟨dn, hdn⟩ : ∃ dn, dn = d.node := ⟨_, rfl⟩
   rw [← hdn] at c0 HN
   clear hdn
   by_cases he : dn = n
   ·subst he
    go_wp2_with fail
    go_ret
    exact ⟨by rw [show r = kk from HN.out.trans (by simp)]; rfl, BW.out.fr⟩
   ·have hne : (dn == n) = false := beq_eq_false_iff_ne.2 he
    have HE := Aside0.mk he
    clear he
    obtain ⟨ko, rfl⟩ : ∃ ko, gk = ko + 1 := ⟨gk - 1, by omega⟩
    go_wp2_with fail
    go_roundg ko
    case measure => omega
    case rel => exact ⟨kk + 1, by go_num, by omega, ⟨BW.out⟩, ⟨by rw [HN.out, if_neg HE.out]; rfl⟩⟩
  ·have hltz : ¬ (kk : Int) < (B.devs.length : Int) := by omega
   have : kk = B.devs.length := by omega
   subst this
   go_wp2_with fail
   go_ret
   exact ⟨by rw [HT.out, List.drop_length]; rfl, BW.out.fr⟩
/-- The document's list of all keys. -/
def keysR (B : Book) : List Key := B.devs.map (·.key) ++ B.spent
set_option maxHeartbeats 4000000 in
set_option maxRecDepth 100000 in
theorem keys_ref (B : Book) (A1 : Option Addr) (c1 : Nat) (A2 : Option Addr) (c2 : Nat) (w : World) (h : SrcB w B A1 A2) (hs1 : B.devs.length ≤ 100000000000) (hs2 : B.spent.length ≤ 100000000000) :
  Calls Tryz.prog 68 #[.agg (bookCells B A1 c1 A2 c2).toArray] w fun e w' => ∃ A c, e = .returned (.slice A (keysR B).length c) ∧ OwnK w' w.heap.size A c (keysR B) ∧ Below w.heap.size w w' := by
 have hI := InB.start (c1 := c1) (c2 := c2) h
 obtain ⟨W0, hW0⟩ : ∃ W0, W0 = w.alloc (.cells (bookCells B A1 c1 A2 c2).toArray 43) := ⟨_, rfl⟩
 obtain ⟨p, hp⟩ : ∃ p, p = w.heap.size := ⟨_, rfl⟩
 rw [← hW0, ← hp] at hI
 have HI := Aside0.mk hI
 have HS := Aside0.mk (And.intro hs1 hs2)
 clear hI h hs1 hs2
 go_enter Tryz.func68, Tryz.ntmps68
 go_upto_region 1 with fail
 rw [← hW0, ← hp]
 have HEQ := Aside0.mk (And.intro hW0 hp)
 clear hW0 hp
 go_upto_region 3 with fail
 go_loopg [3, 4] B.devs.length (fun kx s3 s4 wr => ∃ (kk : Nat) (A : Option Addr) (c : Nat) (l : List Key), s4 = .int .i64 kk ∧ s3 = .slice A l.length c ∧ kk + kx = B.devs.length ∧ Aside0 (InB w wr p B A1 c1 A2 c2) ∧ Aside0 (OwnK wr W0.heap.size A c l) ∧ Aside0 (l = (B.devs.take kk).map (·.key)) ∧ Aside0 (Below W0.heap.size W0 wr))
 case atStart => exact ⟨0, none, 0, [], rfl, rfl, by omega, ⟨HI.out⟩, ⟨ownK_nil _ _⟩, ⟨rfl⟩, ⟨Below.refl _ _⟩⟩
 case round =>
  obtain ⟨kk, A, c, l, rfl, rfl, hkk, BW, HO, HL, HB⟩ := hrel
  obtain ⟨-, -, k2, k3, -⟩ := BW.out.cells
  have hs1 := HS.out.1
  by_cases hlt : kk < B.devs.length
  ·have hltz : (kk : Int) < (B.devs.length : Int) := by omega
   obtain ⟨d, hd⟩ : ∃ d, B.devs[kk]? = some d := ⟨_, List.getElem?_eq_getElem hlt⟩
   obtain ⟨g, o, rfl, hc⟩ := BW.out.src.devc hd
   have L1 := Aside0.mk (run_loadAtK Tryz.prog wr 34 32 Tryz.isAgg34 Tryz.sizeOf34 g (o + kk * 35 + 1) (encK d.key) (encK_len _) (fun j v hj => by rw [Nat.add_assoc]; exact hc wr (Below.refl _ _) (1 + j) v (keyOfD d j v hj)))
   have HLL := Aside0.mk (show l.length = kk by rw [HL.out, List.length_map, List.length_take]; omega)
   have HD := Aside0.mk hd
   obtain ⟨k, hk⟩ : ∃ k, k = d.key := ⟨_, rfl⟩
   have HK := Aside0.mk hk
   rw [← hk] at L1
   clear hc hd hk k3
   obtain ⟨XA, hXA⟩ : ∃ XA, XA = (encK k).toArray := ⟨_, rfl⟩
   have HXA := Aside0.mk hXA
   rw [← hXA] at L1
   clear hXA
   obtain ⟨ko, rfl⟩ : ∃ ko, gk = ko + 1 := ⟨gk - 1, by omega⟩
   go_wp2_with (first | ((with_reducible refine at_load 34 (.tmp 17) ?_); refine wpList_loadK rfl 34 (.tmp 17) rfl _ rfl _ L1.out ?_) | ((with_reducible refine at_bslice 41 (.tmp 18) ?_); refine wpList_pushK rfl rfl (.tmp 18) (.tmp 12) (.tmp 19) rfl rfl k (by rw [← HXA.out]; rfl) W0.heap.size A c _ l HO.out rfl rfl rfl (by rw [HLL.out]; omega) HB.out.size ?_; intro A' c' w5 h1 h2 h3))
   have HO2 := Aside0.mk h1
   have HB2 := Aside0.mk (And.intro h2 h3)
   clear h1 h2 h3
   go_wp2_with fail
   go_roundg ko
   case measure => omega
   case rel => exact ⟨kk + 1, A', c', l ++ [k], by go_num, by rw [List.length_append]; rfl, by omega, ⟨BW.out.base HB.out HB2.out.1 HI.out⟩, ⟨HO2.out⟩, ⟨by rw [HL.out, HK.out, List.take_add_one, HD.out]; simp⟩, ⟨HB.out.trans HB2.out.1⟩⟩
  ·have hltz : ¬ (kk : Int) < (B.devs.length : Int) := by omega
   have : kk = B.devs.length := by omega
   subst this
   have HE := Aside0.mk (show l ++ B.spent = keysR B by rw [HL.out, List.take_length]; rfl)
   have HLL := Aside0.mk (show l.length ≤ 100000000000 by rw [HL.out, List.length_map, List.length_take]; omega)
   go_wp2_with (at_builtin; refine wpList_appK rfl (.tmp 21) (.tmp 23) rfl W0.heap.size A c l rfl HO.out A2 c2 B.spent rfl BW.out.src.spent ?hl1 HB.out.size ?_)
   case hl1 => have h1 := HLL.out; have h2 := HS.out.2; omega
   intro A' c' w5 h1 h2 h3
   have HO2 := Aside0.mk h1
   have HB2 := Aside0.mk h2
   clear h1 h2 h3
   go_wp2_with fail
   go_ret
   rw [← HE.out]
   exact ⟨A', c', by first | rfl | (rw [List.length_append]; rfl), own_weaken HO2.out HI.out.fr.size, HI.out.fr.trans ((HB.out.trans HB2.out).mono HI.out.fr.size)⟩
/-- Whether a key is one that may be taken. -/
def freeR (B : Book) (k : Key) : Bool := decide (k ∉ keysR B ∧ k ≠ key0)
set_option maxHeartbeats 4000000 in
set_option maxRecDepth 100000 in
theorem free_ref (B : Book) (A1 : Option Addr) (c1 : Nat) (A2 : Option Addr) (c2 : Nat) (k : Key) (w : World) (h : SrcB w B A1 A2) (hs1 : B.devs.length ≤ 100000000000) (hs2 : B.spent.length ≤ 100000000000) :
  Calls Tryz.prog 137 #[.agg (bookCells B A1 c1 A2 c2).toArray, .agg (encK k).toArray] w fun e w' => e = .returned (.bool (freeR B k)) ∧ Below w.heap.size w w' := by
 have hI0 := InB.start (c1 := c1) (c2 := c2) h
 obtain ⟨W0, hW0⟩ : ∃ W0, W0 = (w.alloc (.cells (bookCells B A1 c1 A2 c2).toArray 43)).alloc (.cells (encK k).toArray 34) := ⟨_, rfl⟩
 obtain ⟨p, hp⟩ : ∃ p, p = w.heap.size := ⟨_, rfl⟩
 have hsz : (w.alloc (.cells (bookCells B A1 c1 A2 c2).toArray 43)).heap.size = p + 1 := by rw [hp]; simp
 have hI : InB w W0 p B A1 c1 A2 c2 := by rw [hW0, hp]; exact hI0.later ((Below.refl _ _).alloc (Nat.le_refl _) _)
 have q2 : W0.heap[p + 1]? = some (.cells (encK k).toArray 34 (0, 0)) := by rw [hW0, ← hsz]; exact heap_alloc_new _ _
 have HI := Aside0.mk hI
 have HQ := Aside0.mk (fun (W : World) (hb : Below W0.heap.size W0 W) => run_loadAtK Tryz.prog W 34 32 Tryz.isAgg34 Tryz.sizeOf34 (p + 1) 0 (encK k) (encK_len _) (cells_of_heap ((hb.block _ (Array.getElem?_eq_some_iff.1 q2).1).trans q2)))
 have HKR := Aside0.mk (fun (W : World) (hb : Below W0.heap.size W0 W) => keys_ref B A1 c1 A2 c2 W (hI.later hb).src hs1 hs2)
 have HLD := Aside0.mk hI.load
 have HS := Aside0.mk (show (keysR B).length ≤ 200000000000 by unfold keysR; simp; omega)
 have HE := Aside0.mk (fun (y : Key) => And.intro (eqlK y k) (And.intro (neqK k y) (fun op a b w => guardK op a b y k w)))
 have HG2 := Aside0.mk (fun op a b w => guardK op a b k key0 w)
 obtain ⟨X, hX⟩ : ∃ X, X = (encK k).toArray := ⟨_, rfl⟩
 obtain ⟨BA, hBA⟩ : ∃ BA, BA = (bookCells B A1 c1 A2 c2).toArray := ⟨_, rfl⟩
 rw [← hX] at HQ HE HG2 hW0 ⊢
 rw [← hBA] at hW0 hsz HKR HLD ⊢
 obtain ⟨r, hr⟩ : ∃ r, r = freeR B k := ⟨_, rfl⟩
 rw [← hr]
 have HR := Aside0.mk hr
 clear hI0 hI h hs1 hs2 q2 hX hBA hr
 go_enter Tryz.func137, Tryz.ntmps137
 go_upto_region 1 with fail
 rw [← hW0]
 try rw [hsz]
 try rw [← hp]
 have HEQ := Aside0.mk (And.intro hW0 (And.intro hp hsz))
 clear hW0 hp hsz
 go_wp2_with ((with_reducible refine at_load 43 (.tmp 2) ?_); refine wpList_loadK rfl 43 (.tmp 2) rfl _ rfl _ HLD.out ?_)
 refine (HKR.out W0 (Below.refl _ _)).mono ?_
 rintro e w1 ⟨A, c, rfl, ho, hb1⟩
 have HO := Aside0.mk ho
 have HB1 := Aside0.mk hb1
 obtain ⟨l, hl⟩ : ∃ l, l = keysR B := ⟨_, rfl⟩
 have HLB := Aside0.mk hl
 rw [← hl] at HO ⊢
 rw [← hl] at HS
 clear ho hb1 hl
 go_upto_region 3 with fail
 go_loopg [6] l.length (fun kx s6 wr => ∃ kk : Nat, s6 = .int .i64 kk ∧ kk + kx = l.length ∧ Aside0 (Below w1.heap.size w1 wr) ∧ Aside0 (k ∉ l.take kk))
 case atStart => exact ⟨0, rfl, by omega, ⟨Below.refl _ _⟩, ⟨by simp⟩⟩
 case round =>
  obtain ⟨kk, rfl, hkk, BW, HN⟩ := hrel
  have hls := HS.out
  by_cases hlt : kk < l.length
  ·have hltz : (kk : Int) < (l.length : Int) := by omega
   obtain ⟨y, hy⟩ : ∃ y, l[kk]? = some y := ⟨_, List.getElem?_eq_getElem hlt⟩
   have HOW := Aside0.mk (HO.out.below BW.out)
   obtain ⟨g, rfl⟩ := owned_at HO.out (by omega)
   have L1 := Aside0.mk (fun (W : World) (hb : Below wr.heap.size wr W) => load_key HOW.out hb hy)
   have L2 := Aside0.mk (fun (W : World) (hb : Below wr.heap.size wr W) => HQ.out W (below_step (below_step HB1.out BW.out) hb))
   have he := (HE.out y).1
   have hg := (HE.out y).2.2
   have HY := Aside0.mk hy
   obtain ⟨Y, hY⟩ : ∃ Y, Y = (encK y).toArray := ⟨_, rfl⟩
   rw [← hY] at L1 he hg
   clear hy hY
   obtain ⟨ko, rfl⟩ : ∃ ko, gk = ko + 1 := ⟨gk - 1, by omega⟩
   by_cases hq : y = k
   ·rw [decide_eq_true hq] at he
    have HQQ := Aside0.mk hq
    clear hq
    go_wp2_with fail
    refine wp_region_quiet_lit (by kernel_rfl) (by kernel_rfl) ?_
    repeat (first | ((with_reducible refine at_ql 34 (.tmp 17) ?_); refine wpQuiet_loadK 34 (.tmp 17) rfl _ rfl _ (by kernel_rfl) (behind_drew L1.out) ?_; simp only [Act.put, List.setIfInBounds_toArray, List.set_cons_zero, List.set_cons_succ]) | ((with_reducible refine at_ql 34 (.tmp 3) ?_); refine wpQuiet_loadK 34 (.tmp 3) rfl _ rfl _ (by kernel_rfl) (behind_drew L2.out) ?_; simp only [Act.put, List.setIfInBounds_toArray, List.set_cons_zero, List.set_cons_succ]) | go_big_quiet_step (fail))
    refine wpQuiet_nil ?_
    rintro _ ⟨nq, rfl⟩
    have HH := Aside0.mk (bdn BW.out nq)
    go_wp2_with fail
    go_ret
    have e : r = false := by rw [HR.out]; unfold freeR; rw [decide_eq_false]; rintro ⟨h1, -⟩; rw [← HLB.out, ← HQQ.out] at h1; exact h1 (List.mem_of_getElem? HY.out)
    exact ⟨by rw [e]; rfl, below_step HI.out.fr (below_step HB1.out HH.out)⟩
   ·rw [decide_eq_false hq] at he
    have HQQ := Aside0.mk hq
    clear hq
    go_wp2_with fail
    refine wp_region_quiet_lit (by kernel_rfl) (by kernel_rfl) ?_
    repeat (first | ((with_reducible refine at_ql 34 (.tmp 17) ?_); refine wpQuiet_loadK 34 (.tmp 17) rfl _ rfl _ (by kernel_rfl) (behind_drew L1.out) ?_; simp only [Act.put, List.setIfInBounds_toArray, List.set_cons_zero, List.set_cons_succ]) | ((with_reducible refine at_ql 34 (.tmp 3) ?_); refine wpQuiet_loadK 34 (.tmp 3) rfl _ rfl _ (by kernel_rfl) (behind_drew L2.out) ?_; simp only [Act.put, List.setIfInBounds_toArray, List.set_cons_zero, List.set_cons_succ]) | go_big_quiet_step (fail))
    refine wpQuiet_nil ?_
    rintro _ ⟨nq, rfl⟩
    have HH := Aside0.mk (bdn BW.out nq)
    go_wp2_with fail
    go_roundg ko
    case measure => omega
    case rel => exact ⟨kk + 1, by go_num, by omega, ⟨HH.out⟩, ⟨by rw [List.take_add_one, HY.out]; intro h; rcases List.mem_append.1 h with h | h; exact HN.out h; simp at h; exact HQQ.out h.symm⟩⟩
  ·have hltz : ¬ (kk : Int) < (l.length : Int) := by omega
   have : kk = l.length := by omega
   subst this
   have L2 := Aside0.mk (HQ.out wr (below_step HB1.out BW.out))
   have he := (HE.out key0).2.1
   have hg := HG2.out
   rw [zeroKey_eq] at he hg
   simp only [zeroKey] at he hg
   by_cases hq : k = key0
   ·rw [decide_eq_true hq] at he
    have HQQ := Aside0.mk hq
    clear hq
    go_wp2_with ((with_reducible refine at_load 34 (.tmp 3) ?_); refine wpList_loadK rfl 34 (.tmp 3) rfl _ rfl _ L2.out ?_)
    go_ret
    have e : r = false := by rw [HR.out]; unfold freeR; rw [decide_eq_false]; rintro ⟨-, h1⟩; exact h1 HQQ.out
    exact ⟨by rw [e]; rfl, below_step HI.out.fr (below_step HB1.out BW.out)⟩
   ·rw [decide_eq_false hq] at he
    have HQQ := Aside0.mk hq
    clear hq
    go_wp2_with ((with_reducible refine at_load 34 (.tmp 3) ?_); refine wpList_loadK rfl 34 (.tmp 3) rfl _ rfl _ L2.out ?_)
    go_ret
    have e : r = true := by rw [HR.out]; unfold freeR; rw [decide_eq_true]; refine ⟨?_, HQQ.out⟩; have h1 := HN.out; rw [List.take_length] at h1; rw [← HLB.out]; exact h1
    exact ⟨by rw [e]; rfl, below_step HI.out.fr (below_step HB1.out BW.out)⟩
end Go.Proofs.YthnpiimiimiijaaGreatDoor.Dir
