/- slices.SortFunc at keys: what the shelf has on it, laid at this program by hand. -/
import Derived.Test.YtmgbaefgcdglpaaGreatDoorProg
import Derived.Shelf.SlSortCmp.NoneTotal
import Derived.Test.YtmgbaefgcdglpaaGreatDoorNc11
section
namespace Go.Proofs
open Go.Shelf
def Tryz.sortK_ren : Go.Shelf.Ren := ⟨fun | 0 => 0 | 1 => 1 | 2 => 2 | 6 => 77 | 14 => 126 | 15 => 116 | 20 => 170 | 21 => 171 | 22 => 172 | 23 => 173 | 24 => 174 | 25 => 175 | 26 => 176 | 27 => 177 | 28 => 165 | 29 => 166 | 46 => 198 | 47 => 193 | 48 => 194 | 49 => 199 | 50 => 200 | 57 => 213 | 60 => 237 | 61 => 238 | 62 => 239 | 63 => 240 | 64 => 241 | 65 => 242 | 66 => 243 | 67 => 244 | 68 => 245 | 69 => 246 | 70 => 247 | 71 => 248 | 72 => 249 | 73 => 250 | 74 => 251 | 75 => 256 | n => n, fun | 0 => 0 | 1 => 1 | 2 => 2 | 3 => 3 | 4 => 4 | 5 => 5 | 6 => 6 | 7 => 7 | 8 => 8 | 9 => 9 | 10 => 10 | 11 => 11 | 12 => 12 | 13 => 13 | 14 => 14 | 15 => 15 | 16 => 16 | 17 => 17 | 18 => 18 | 19 => 19 | 20 => 20 | 21 => 21 | 22 => 23 | 24 => 28 | 25 => 114 | 27 => 53 | 29 => 65 | 38 => 158 | 39 => 159 | 42 => 83 | 45 => 206 | 46 => 207 | 50 => 86 | 52 => 213 | 53 => 214 | 54 => 215 | 55 => 216 | 66 => 232 | 67 => 233 | 68 => 234 | 70 => 236 | 76 => 246 | 77 => 155 | 81 => 277 | 82 => 278 | 83 => 279 | 84 => 280 | 85 => 281 | 86 => 282 | 87 => 140 | 88 => 283 | 89 => 284 | 90 => 285 | 91 => 269 | 92 => 286 | 93 => 287 | 94 => 288 | 95 => 289 | 96 => 290 | n => n, fun n => n⟩
theorem Tryz.sortK : Go.Proofs.SlLaysF0.n6 Tryz.prog Tryz.sortK_ren := {
 mixed := by kernel_rfl
 f6 := ⟨"slices.SortFunc[[]causeway/api.Key,causeway/api.Key]", by decide, Tryz.func77.trans (congrArg some (by kernel_rfl))⟩
 f14 := ⟨"slices.pdqsortCmpFunc[causeway/api.Key]", by decide, Tryz.func126.trans (congrArg some (by kernel_rfl))⟩
 f15 := Tryz.func116.trans (congrArg some (by kernel_rfl))
 f20 := ⟨"slices.insertionSortCmpFunc[causeway/api.Key]", by decide, Tryz.func170.trans (congrArg some (by kernel_rfl))⟩
 f21 := ⟨"slices.heapSortCmpFunc[causeway/api.Key]", by decide, Tryz.func171.trans (congrArg some (by kernel_rfl))⟩
 f22 := ⟨"slices.breakPatternsCmpFunc[causeway/api.Key]", by decide, Tryz.func172.trans (congrArg some (by kernel_rfl))⟩
 f23 := ⟨"slices.choosePivotCmpFunc[causeway/api.Key]", by decide, Tryz.func173.trans (congrArg some (by kernel_rfl))⟩
 f24 := ⟨"slices.reverseRangeCmpFunc[causeway/api.Key]", by decide, Tryz.func174.trans (congrArg some (by kernel_rfl))⟩
 f25 := ⟨"slices.partialInsertionSortCmpFunc[causeway/api.Key]", by decide, Tryz.func175.trans (congrArg some (by kernel_rfl))⟩
 f26 := ⟨"slices.partitionEqualCmpFunc[causeway/api.Key]", by decide, Tryz.func176.trans (congrArg some (by kernel_rfl))⟩
 f27 := ⟨"slices.partitionCmpFunc[causeway/api.Key]", by decide, Tryz.func177.trans (congrArg some (by kernel_rfl))⟩
 f28 := Tryz.func165.trans (congrArg some (by kernel_rfl))
 f29 := Tryz.func166.trans (congrArg some (by kernel_rfl))
 f46 := ⟨"slices.siftDownCmpFunc[causeway/api.Key]", by decide, Tryz.func198.trans (congrArg some (by kernel_rfl))⟩
 f47 := Tryz.func193.trans (congrArg some (by kernel_rfl))
 f48 := Tryz.func194.trans (congrArg some (by kernel_rfl))
 f49 := ⟨"slices.medianAdjacentCmpFunc[causeway/api.Key]", by decide, Tryz.func199.trans (congrArg some (by kernel_rfl))⟩
 f50 := ⟨"slices.medianCmpFunc[causeway/api.Key]", by decide, Tryz.func200.trans (congrArg some (by kernel_rfl))⟩
 f57 := ⟨"slices.order2CmpFunc[causeway/api.Key]", by decide, Tryz.func213.trans (congrArg some (by kernel_rfl))⟩
 t0 := Tryz.underlying0
 a0 := Tryz.isAgg0
 z0 := Tryz.sizeOf0
 v0 := Tryz.zeroValue0
 t3 := Tryz.underlying3
 a3 := Tryz.isAgg3
 z3 := Tryz.sizeOf3
 v3 := Tryz.zeroValue3
 t4 := Tryz.underlying4
 a4 := Tryz.isAgg4
 z4 := Tryz.sizeOf4
 v4 := Tryz.zeroValue4
 t5 := Tryz.underlying5
 a5 := Tryz.isAgg5
 z5 := Tryz.sizeOf5
 v5 := Tryz.zeroValue5
 t9 := Tryz.underlying9
 a9 := Tryz.isAgg9
 z9 := Tryz.sizeOf9
 v9 := Tryz.zeroValue9
 t22 := Tryz.underlying23
 a22 := Tryz.isAgg23
 z22 := Tryz.sizeOf23
 v22 := Tryz.zeroValue23
 t25 := Tryz.underlying114
 a25 := Tryz.isAgg114
 z25 := Tryz.sizeOf114
 v25 := Tryz.zeroValue114
 t39 := Tryz.underlying159
 a39 := Tryz.isAgg159
 z39 := Tryz.sizeOf159
 v39 := Tryz.zeroValue159
 t45 := Tryz.underlying206
 a45 := Tryz.isAgg206
 z45 := Tryz.sizeOf206
 v45 := Tryz.zeroValue206
 t46 := Tryz.underlying207
 a46 := Tryz.isAgg207
 z46 := Tryz.sizeOf207
 v46 := Tryz.zeroValue207
 t50 := Tryz.underlying86
 a50 := Tryz.isAgg86
 z50 := Tryz.sizeOf86
 v50 := Tryz.zeroValue86
 t53 := Tryz.underlying214
 a53 := Tryz.isAgg214
 z53 := Tryz.sizeOf214
 v53 := Tryz.zeroValue214
 t55 := Tryz.underlying216
 a55 := Tryz.isAgg216
 z55 := Tryz.sizeOf216
 v55 := Tryz.zeroValue216
 t66 := Tryz.underlying232
 a66 := Tryz.isAgg232
 z66 := Tryz.sizeOf232
 v66 := Tryz.zeroValue232
 t70 := Tryz.underlying236
 a70 := Tryz.isAgg236
 z70 := Tryz.sizeOf236
 v70 := Tryz.zeroValue236
 t76 := Tryz.underlying246
 a76 := Tryz.isAgg246
 z76 := Tryz.sizeOf246
 v76 := Tryz.zeroValue246
 t77 := Tryz.underlying155
 a77 := Tryz.isAgg155
 z77 := Tryz.sizeOf155
 v77 := Tryz.zeroValue155
}
end Go.Proofs
/- slices.SortFunc at keys: the row holds the same keys, sorted. -/
namespace Go.Proofs.YtmgbaefgcdglpaaGreatDoor.Dir
open Go Go.RowKit Go.Proofs Go.Proofs.YtmgbaefgcdglpaaGreatDoorW.PrintWords Go.Proofs.YtmgbaefgcdglpaaGreatDoorW.PrintLast Go.Proofs.YtmgbaefgcdglpaaGreatDoorW.PrintMore
set_option linter.unusedVariables false
set_option linter.unusedSimpArgs false
theorem ltOf_cmp (x y : Key) : ltOf cmpK x y = ltK x y := rfl
theorem ltK_ntrans {x y z : Key} (h1 : ltK x y = false) (h2 : ltK y z = false) : ltK x z = false := by
 cases h : ltK x z
 ·rfl
 ·rcases ltK_tri x y with a | a | a
  ·rw [h1] at a; cases a
  ·subst a; rw [h2] at h; cases h
  ·have := ltK_trans a h
   rw [h2] at this; cases this
theorem swoK : Sort.SWO (ltOf cmpK) where
 irrefl := ltK_irrefl
 trans _ _ _ := ltK_trans
 ntrans _ _ _ := ltK_ntrans
theorem totK (x y : Key) (h1 : ltOf cmpK x y = false) (h2 : ltOf cmpK y x = false) : x = y := by
 rcases ltK_tri x y with a | a | a
 ·rw [ltOf_cmp, a] at h1; cases h1
 ·exact a
 ·rw [ltOf_cmp, a] at h2; cases h2
def sortL (l : List Key) : List Key := l.mergeSort fun x y => !ltK y x
theorem sortL_perm (l : List Key) : (sortL l).Perm l := List.mergeSort_perm l _
theorem sortL_len (l : List Key) : (sortL l).length = l.length := (sortL_perm l).length_eq
theorem sortL_sorted (l : List Key) : (sortL l).Pairwise (fun x y => ltK y x = false) := by
 have := List.pairwise_mergeSort (le := fun x y => !ltK y x) (fun a b c h1 h2 => by
  simp only [Bool.not_eq_true'] at h1 h2 ⊢
  exact ltK_ntrans h2 h1) (fun a b => by
  rcases ltK_tri a b with h | h | h
  ·rw [ltK_asymm h]; rfl
  ·subst h; rw [ltK_irrefl]; rfl
  ·rw [ltK_asymm h]; simp) l
 exact this.imp fun h => by simpa using h
theorem flatK_arr (l : List Key) : Sort.flatK encK 32 l.toArray = (flatK l).toArray := by
 have hl : (flatK l).length = l.length * 32 := flatK_len l
 refine Array.ext (by simp [hl]) fun t h1 h2 => ?_
 have ht : t < l.length * 32 := by simpa using h1
 have hj : t / 32 < l.length := by omega
 have e := flatMap_at encK 32 encK_len l (t / 32) l[t / 32] (List.getElem?_eq_getElem hj) (t % 32) (encK l[t / 32])[t % 32]! (by
  rw [getElem!_pos _ _ (by rw [encK_len]; omega)]
  exact List.getElem?_eq_getElem _)
 rw [show t / 32 * 32 + t % 32 = t by omega] at e
 have e2 : (flatK l)[t]? = some (encK l[t / 32])[t % 32]! := e
 have e3 : (flatK l)[t]'(by rw [hl]; exact ht) = (encK l[t / 32])[t % 32]! := by
  have := List.getElem?_eq_getElem (l := flatK l) (i := t) (by rw [hl]; exact ht)
  rw [this] at e2
  exact Option.some.inj e2
 have e4 := Sort.get_flatK encK 32 l.toArray t (by simpa using ht)
 rw [getElem!_pos (Sort.flatK encK 32 l.toArray) t h1] at e4
 rw [e4]
 simp only [List.getElem_toArray]
 rw [e3, getElem!_pos l.toArray (t / 32) (by simpa using hj)]
 simp
theorem cmpLays (blk off size : Nat) (w : World) : CmpLays Tryz.prog 78 #[] encK 32 cmpK blk off size w := fun m os dk _ x y => by
 refine (compare_any x y _).mono ?_
 rintro e w' ⟨he, n, hw⟩
 refine ⟨he, n, #[.cells (encK x).toArray 28, .cells (encK y).toArray 28], ?_⟩
 rw [hw, Sort.alloc_eq_grow, Sort.alloc_eq_grow, Sort.grow_grow]
 rfl
theorem sort_any (l : List Key) (A : Option Addr) (c base : Nat) (w : World) (h : w.ownsRow base 28 32 (.slice A l.length c) l.length (flatK l)) (hl : l.length ≤ 100) :
  Calls Tryz.prog 77 #[.slice A l.length c, .func (.func 78) #[] #[]] w fun e w' => e = .returned (.tuple #[]) ∧ w'.ownsRow base 28 32 (.slice A l.length c) l.length (flatK (sortL l)) ∧ w.grownBy w' (Value.slice A l.length c).ownBlock := by
 rcases h.2 with ⟨e, e0⟩ | ⟨g, cap, cur, e, hb, hg, hn, hm, hs, hx⟩
 ·injection e with e1 e2 e3
  have hnil : l = [] := List.length_eq_zero_iff.1 e0
  subst hnil e1
  refine (AnyF.slices_SortFunc_none Tryz.sortK none c _ w).mono ?_
  rintro e w' ⟨he, rfl⟩
  exact ⟨he, by rw [show sortL [] = [] from List.mergeSort_nil]; exact h, grownBy_refl _ _⟩
 ·injection e with e1 e2 e3
  subst e1 e3
  have hgl := (Array.getElem?_eq_some_iff.1 hg).1
  have hH : Sort.HoldsK encK 32 w g 0 l.toArray := by
   unfold Sort.HoldsK
   rw [flatK_arr]
   intro j hj
   have hj' : j < (flatK l).length := by simpa using hj
   rw [Nat.zero_add]
   constructor
   ·rw [cell_of_heap hg]
    have h1 : cur.toList[j]? = (flatK l)[j]? := by
     rw [← hx, List.getElem?_take_of_lt (by rw [flatK_len] at hj'; exact hj')]
    have h2 : cur.toList[j]? = some ((flatK l)[j]'hj') := by rw [h1, List.getElem?_eq_getElem hj']
    simp only [Array.getElem?_toList] at h2 ⊢
    rw [h2]
    simp [hj']
   ·unfold World.frozen?
    simp [hg]
  have eg : ∀ args w, (callFunc 78 args).run Tryz.prog w = .ok (.enter 78 args) w := enters_of Tryz.func78 (by kernel_rfl) rfl
  have hcon := AnyQ.slices_SortFunc_total Tryz.sortK 32 Tryz.isAgg28 Tryz.sizeOf28 encK encK_len encK_one cmpK swoK 78 #[] g 0 c l.toArray w eg (cmpLays g 0 l.toArray.size w) hH hgl (by simp; omega) totK
  refine Calls.mono (show Calls Tryz.prog 77 #[.slice (some ⟨g, 0, none⟩) l.length c, .func (.func 78) #[] #[]] w _ from hcon) ?_
  rintro e w' ⟨he, n, os, hw⟩
  have hd : (l.toArray.toList.mergeSort fun x y => !(ltOf cmpK) y x).toArray = (sortL l).toArray := rfl
  rw [hd] at hw
  unfold sortWorldK Sort.putRowK Sort.putRow Sort.mapBlock Sort.grow at hw
  rw [flatK_arr] at hw
  have hsz : (flatK (sortL l)).length = l.length * 32 := by rw [flatK_len, sortL_len]
  have hblk : ∀ k, k < w.heap.size → w'.heap[k]? = (w.heap[k]?).map (if g = k then Sort.onCells (Sort.putCells id 0 (flatK (sortL l)).toArray) else id) := fun k hk => by
   rw [hw]
   show (Array.modify w.heap g _ ++ os)[k]? = _
   rw [Array.getElem?_append_left (by simpa using hk), Array.getElem?_modify]
   by_cases e : g = k
   ·simp [e]
   ·simp [e]
  refine ⟨he, ⟨hsz, .inr ⟨g, c, Sort.putCells id 0 (flatK (sortL l)).toArray cur, rfl, hb, ?_, hn, hm, ?_, ?_⟩⟩, ⟨by rw [hw]; rfl, by rw [hw]; rfl, by rw [hw]; rfl, by rw [hw]; simp [Sort.ahead], fun k hk hne => ?_⟩⟩
  ·rw [hblk g hgl, hg, if_pos rfl]
   rfl
  ·unfold Sort.putCells
   simpa using hs
  ·refine List.ext_getElem? fun j => ?_
   by_cases hj : j < l.length * 32
   ·rw [List.getElem?_take_of_lt hj]
    have hjc : j < cur.size := by
     rw [hs]
     exact Nat.lt_of_lt_of_le hj (Nat.mul_le_mul_right _ hn)
    unfold Sort.putCells
    rw [Array.getElem?_toList, Array.getElem?_mapIdx, Array.getElem?_eq_getElem hjc]
    simp only [Option.map_some, Nat.zero_le, true_and, Nat.zero_add, List.size_toArray, hsz, hj, if_true, Nat.sub_zero, id]
    rw [List.getElem?_eq_getElem (by rw [hsz]; exact hj), getElem!_pos _ _ (by simp [hsz, hj])]
    simp
   ·rw [List.getElem?_eq_none (by simp; omega), List.getElem?_eq_none (by rw [hsz]; omega)]
  ·rw [hblk k hk, if_neg (fun e => hne (by rw [e]; rfl))]
   simp
end Go.Proofs.YtmgbaefgcdglpaaGreatDoor.Dir
/- slices.IsSortedFunc and slices.Compact at keys. -/
namespace Go.Proofs.YtmgbaefgcdglpaaGreatDoor.Dir
open Go Go.RowKit Go.Proofs Go.Proofs.YtmgbaefgcdglpaaGreatDoorW.PrintWords Go.Proofs.YtmgbaefgcdglpaaGreatDoorW.PrintLast Go.Proofs.YtmgbaefgcdglpaaGreatDoorW.PrintMore
set_option linter.unusedVariables false
set_option linter.unusedSimpArgs false
def SortedL (l : List Key) : Prop := ∀ i x y, l[i]? = some x → l[i + 1]? = some y → ltK y x = false
def ApartL (l : List Key) : Prop := ∀ i x y, l[i]? = some x → l[i + 1]? = some y → y ≠ x
def SortedEnd (l : List Key) (e : Ending) : Prop := ∃ b : Bool, e = .returned (.bool b) ∧ (b = true ↔ SortedL l)
theorem less_call (x y : Key) (W : World) : Calls Tryz.prog 78 #[.agg (encK x).toArray, .agg (encK y).toArray] W fun e w' => e = .returned (.int .i64 (cmpK x y)) ∧ Below W.heap.size W w' := by
 refine (compare_any x y W).mono ?_
 rintro e w' ⟨rfl, n, rfl⟩
 refine ⟨rfl, ?_⟩
 have hb : Below W.heap.size W ((W.alloc (.cells (encK x).toArray 28)).alloc (.cells (encK y).toArray 28)) := ((Below.refl _ W).alloc (Nat.le_refl _) _).alloc (by simp) _
 exact ⟨hb.os, hb.tape, hb.output, hb.size, hb.block⟩
theorem src_key {w : World} {g o n : Nat} {l : List Key} (h : SrcAt w (some ⟨g, o, none⟩) n 32 (flatK l)) {j : Nat} {d : Key} (hj : l[j]? = some d) {W : World} (hb : Below w.heap.size w W) :
  (Instr.loadAt 28 (.pointer (some ⟨g, o + j * 32, none⟩))).run Tryz.prog W = .ok (.agg (encK d).toArray) W :=
 run_loadAtK Tryz.prog W 28 32 Tryz.isAgg28 Tryz.sizeOf28 g (o + j * 32) (encK d) (encK_len _) (fun i v hv => by rw [Nat.add_assoc]; exact src_cell h hb (flatMap_at encK 32 encK_len l j d hj i v hv))
theorem src_bare {w : World} {a : Addr} {n : Nat} {l : List Key} (h : SrcAt w (some a) n 32 (flatK l)) (hn : 0 < l.length) : ∃ g o, a = ⟨g, o, none⟩ := by
 have hv : (encK l[0])[0]? = some ((encK l[0])[0]'(by rw [encK_len]; omega)) := List.getElem?_eq_getElem _
 have := h.2.2 a rfl _ _ (flatMap_at encK 32 encK_len l 0 l[0] (List.getElem?_eq_getElem hn) 0 _ hv)
 obtain ⟨b, off, sp⟩ := a
 cases sp with
 | none => exact ⟨b, off, rfl⟩
 | some s =>
  have hn : w.cell? ((⟨b, off, some s⟩ : Addr).add (0 * 32 + 0)) = none := by
   unfold World.cell?
   split
   ·rfl
   ·rfl
  rw [hn] at this
  cases this
set_option maxHeartbeats 4000000 in
set_option maxRecDepth 100000 in
theorem sorted_any (l : List Key) (A : Option Addr) (c : Nat) (w : World) (h : SrcAt w A l.length 32 (flatK l)) (hl : l.length ≤ 4611686018427387904) :
  Calls Tryz.prog 79 #[.slice A l.length c, .func (.func 78) #[] #[]] w fun e w' => SortedEnd l e ∧ Below w.heap.size w w' := by
 have HW := Aside0.mk h
 have HL := Aside0.mk hl
 clear h
 have hl3 : wrap64 ((l.length : Int) - 1) = (l.length : Int) - 1 := IntWalk.wrap64_in _ ⟨by omega, by omega⟩
 go_enter Tryz.func79, Tryz.ntmps79
 go_wp2
 go_loopg [5] l.length (fun gg s5 wr => ∃ z : Int, s5 = .int .i64 z ∧ -1 ≤ z ∧ z < l.length ∧ z ≤ gg ∧ Aside0 (Below w.heap.size w wr) ∧ Aside0 (∀ (i : Nat) x y, z ≤ (i : Int) → l[i]? = some x → l[i + 1]? = some y → ltK y x = false))
 case atStart =>
  refine ⟨(l.length : Int) - 1, by first | rfl | rw [hl3] | go_num, by omega, by omega, by omega, ⟨Below.refl _ w⟩, ⟨fun i x y hi _ hy => ?_⟩⟩
  have := (List.getElem?_eq_some_iff.1 hy).1
  omega
 case round =>
  obtain ⟨z, rfl, hz1, hz2, hg, BW, AL⟩ := hrel
  have LL := HL.out
  clear hl3
  by_cases hpos : 0 < z
  ·obtain ⟨m, rfl⟩ : ∃ m : Nat, z = (m : Int) + 1 := ⟨(z - 1).toNat, by omega⟩
   obtain ⟨x, hx⟩ : ∃ x, l[m + 1]? = some x := ⟨_, List.getElem?_eq_getElem (by omega)⟩
   obtain ⟨y, hy⟩ : ∃ y, l[m]? = some y := ⟨_, List.getElem?_eq_getElem (by omega)⟩
   obtain ⟨a, hA⟩ : ∃ a, A = some a := by
    cases hA : A with
    | some a => exact ⟨a, rfl⟩
    | none => exact absurd (HW.out.2.1 hA) (by omega)
   subst hA
   obtain ⟨g, o, rfl⟩ := src_bare HW.out (by omega)
   have hl1 := fun (W : World) (hb : Below w.heap.size w W) => src_key HW.out hx hb
   have hl2 := fun (W : World) (hb : Below w.heap.size w W) => src_key HW.out hy hb
   have hless := less_call x y
   obtain ⟨XA, hXA⟩ : ∃ XA, XA = (encK x).toArray := ⟨_, rfl⟩
   obtain ⟨YA, hYA⟩ : ∃ YA, YA = (encK y).toArray := ⟨_, rfl⟩
   obtain ⟨q, hq⟩ : ∃ q, q = cmpK x y := ⟨_, rfl⟩
   rw [← hXA] at hl1 hless
   rw [← hYA] at hl2 hless
   rw [← hq] at hless
   have H1 := Aside0.mk hl1
   have H2 := Aside0.mk hl2
   have HLess := Aside0.mk hless
   have HX := Aside0.mk (And.intro hx (And.intro hy hq))
   have d1 : decide (0 < (m : Int) + 1) = true := decide_eq_true (by omega)
   clear hl1 hl2 hless hXA hYA hx hy hq
   go_wp2_with fail
   refine start_ (n := 12) (S := fun W => Below w.heap.size w W) (ds := []) #[false, false, false, false, false, false, false, false, false, false, false, false] (by kernel_rfl) rfl rfl BW.out.drew (fun hHeld => ?_)
   generalize World.drew _ = w5 at hHeld ⊢
   refine pure_ (i := 0) (N := (some 13)) (v := ?_) (a' := ?_) #[true, false, false, false, false, false, false, false, false, false, false, false] rfl rfl (by kernel_rfl) (fun _ _ _ h => h) (Or.inl ⟨by rfl, ?_⟩) ?_ ?_
   rotate_left
   ·intro w'
    go_simp
    with_reducible rfl
   rotate_left
   ·simp only [Act.put, List.setIfInBounds_toArray, List.set_cons_zero, List.set_cons_succ, i64_w, i32_w]
    rfl
   refine pure_ (i := 1) (N := (some 14)) (v := ?_) (a' := ?_) #[true, true, false, false, false, false, false, false, false, false, false, false] rfl rfl (by kernel_rfl) (fun _ _ _ h => h) (Or.inl ⟨by rfl, ?_⟩) ?_ ?_
   rotate_left
   ·intro w'
    go_simp
    with_reducible rfl
   rotate_left
   ·simp only [Act.put, List.setIfInBounds_toArray, List.set_cons_zero, List.set_cons_succ, i64_w, i32_w]
    rfl
   refine pure_ (i := 2) (N := (some 15)) (v := ?_) (a' := ?_) #[true, true, true, false, false, false, false, false, false, false, false, false] rfl rfl (by kernel_rfl) (fun _ _ _ h => h) (Or.inl ⟨by rfl, ?_⟩) ?_ ?_
   rotate_left
   ·intro w'
    go_simp
    with_reducible rfl
   rotate_left
   ·simp only [Act.put, List.setIfInBounds_toArray, List.set_cons_zero, List.set_cons_succ, i64_w, i32_w]
    rfl
   refine pure_ (i := 3) (N := (some 16)) (v := .pointer (some ⟨g, o + (m + 1) * 32, none⟩)) (a' := ?_) #[true, true, true, true, false, false, false, false, false, false, false, false] rfl rfl (by kernel_rfl) (fun _ _ _ h => h) (Or.inl ⟨by rfl, ?_⟩) ?_ ?_
   ·intro w'
    go_simp
    intro h
    exfalso
    omega
   rotate_left
   ·simp only [Act.put, List.setIfInBounds_toArray, List.set_cons_zero, List.set_cons_succ, i64_w, i32_w]
    rfl
   refine pure_ (i := 5) (N := (some 18)) (v := ?_) (a' := ?_) #[true, true, true, true, false, true, false, false, false, false, false, false] rfl rfl (by kernel_rfl) (fun _ _ _ h => h) (Or.inl ⟨by rfl, ?_⟩) ?_ ?_
   rotate_left
   ·intro w'
    go_simp
    with_reducible rfl
   rotate_left
   ·simp only [Act.put, List.setIfInBounds_toArray, List.set_cons_zero, List.set_cons_succ, i64_w, i32_w]
    rfl
   refine pure_ (i := 6) (N := (some 19)) (v := ?_) (a' := ?_) #[true, true, true, true, false, true, true, false, false, false, false, false] rfl rfl (by kernel_rfl) (fun _ _ _ h => h) (Or.inl ⟨by rfl, ?_⟩) ?_ ?_
   rotate_left
   ·intro w'
    go_simp
    with_reducible rfl
   rotate_left
   ·simp only [Act.put, List.setIfInBounds_toArray, List.set_cons_zero, List.set_cons_succ, i64_w, i32_w]
    rfl
   refine pure_ (i := 7) (N := (some 20)) (v := .int .i64 m) (a' := ?_) #[true, true, true, true, false, true, true, true, false, false, false, false] rfl rfl (by kernel_rfl) (fun _ _ _ h => h) (Or.inl ⟨by rfl, ?_⟩) ?_ ?_
   ·intro w'
    go_simp
    first | with_reducible rfl | (rw [IntWalk.i64_left, IntWalk.wrap64_in _ ⟨by omega, by omega⟩])
   rotate_left
   ·simp only [Act.put, List.setIfInBounds_toArray, List.set_cons_zero, List.set_cons_succ, i64_w, i32_w]
    rfl
   refine pure_ (i := 8) (N := (some 21)) (v := .pointer (some ⟨g, o + m * 32, none⟩)) (a' := ?_) #[true, true, true, true, false, true, true, true, true, false, false, false] rfl rfl (by kernel_rfl) (fun _ _ _ h => h) (Or.inl ⟨by rfl, ?_⟩) ?_ ?_
   ·intro w'
    go_simp
    intro h
    exfalso
    omega
   rotate_left
   ·simp only [Act.put, List.setIfInBounds_toArray, List.set_cons_zero, List.set_cons_succ, i64_w, i32_w]
    rfl
   refine take_ (i := 4) (N := (some 17)) (v := _) (a' := ?_) #[true, true, true, true, true, true, true, true, true, false, false, false] rfl rfl (by kernel_rfl) (fun _ _ _ h => h) (Or.inl ⟨by rfl, fun w' hs => yields_load 28 (.tmp 16) _ rfl _ _ rfl _ (H1.out w' hs)⟩) hHeld ?_ ?_
   rotate_left
   ·simp only [Act.put, List.setIfInBounds_toArray, List.set_cons_zero, List.set_cons_succ, i64_w, i32_w]
    rfl
   refine take_ (i := 9) (N := (some 22)) (v := _) (a' := ?_) #[true, true, true, true, true, true, true, true, true, true, false, false] rfl rfl (by kernel_rfl) (fun _ _ _ h => h) (Or.inl ⟨by rfl, fun w' hs => yields_load 28 (.tmp 21) _ rfl _ _ rfl _ (H2.out w' hs)⟩) hHeld ?_ ?_
   rotate_left
   ·simp only [Act.put, List.setIfInBounds_toArray, List.set_cons_zero, List.set_cons_succ, i64_w, i32_w]
    rfl
   refine one_ (i := 10) (N := (some 23)) #[true, true, true, true, true, true, true, true, true, true, true, false] rfl rfl (by kernel_rfl) (by decide) (fun K hK => ?_)
   refine goesv_ Tryz.func78 (by kernel_rfl) rfl #[.agg XA, .agg YA] (by rfl) rfl rfl (by rfl) (by (try simp only [List.map_toArray, List.map_cons, List.map_nil]); first | done | rfl) ?_
   refine (HLess.out _).mono ?_
   rintro e w5c ⟨rfl, hbn⟩
   refine ⟨_, rfl, ?_⟩
   have hS_ := below_step hHeld hbn
   clear hbn
   refine hK.out _ _ hS_ (fun hHeld => ?_)
   clear hK K
   refine norm_ (a' := ?_) ?_ ?_
   rotate_left
   ·show Act.put _ (some 23) _ = _
    simp only [Act.put, List.setIfInBounds_toArray, List.set_cons_zero, List.set_cons_succ, i64_w, i32_w]
    rfl
   refine pure_ (i := 11) (N := (some 24)) (v := ?_) (a' := ?_) #[true, true, true, true, true, true, true, true, true, true, true, true] rfl rfl (by kernel_rfl) (fun _ _ _ h => h) (Or.inl ⟨by rfl, ?_⟩) ?_ ?_
   rotate_left
   ·intro w'
    go_simp
    with_reducible rfl
   rotate_left
   ·simp only [Act.put, List.setIfInBounds_toArray, List.set_cons_zero, List.set_cons_succ, i64_w, i32_w]
    rfl
   refine done_ (by kernel_rfl) ?_
   have HH := Aside0.mk hHeld
   clear hHeld
   by_cases hlt : q < 0
   ·go_wp2_with fail
    go_ret
    refine ⟨⟨false, rfl, ⟨fun h => by (cases h), fun h => ?_⟩⟩, HH.out⟩
    obtain ⟨e1, e2, e3⟩ := HX.out
    have := h m y x e2 e1
    have h4 : ltK x y = true := decide_eq_true (by rw [← e3]; exact hlt)
    rw [h4] at this
    cases this
   ·go_wp2_with fail
    obtain ⟨k2, rfl⟩ : ∃ k2, gk = k2 + 1 := ⟨gk - 1, by omega⟩
    go_roundg k2
    case measure => omega
    case rel =>
     refine ⟨(m : Int), by first | rfl | go_num | (rw [show wrap64 ((m : Int) + 1 - 1) = (m : Int) by rw [IntWalk.wrap64_in _ ⟨by omega, by omega⟩]; omega]), by omega, by omega, by omega, ⟨HH.out⟩, ⟨fun i x' y' hi hx' hy' => ?_⟩⟩
     obtain ⟨e1, e2, e3⟩ := HX.out
     by_cases e : i = m
     ·subst e
      rw [e2] at hx'
      rw [e1] at hy'
      cases hx'; cases hy'
      exact decide_eq_false (by rw [← e3]; omega)
     ·exact AL.out i x' y' (by omega) hx' hy'
  ·have d1 : decide (0 < z) = false := decide_eq_false (by omega)
   go_wp2_with fail
   go_ret
   exact ⟨⟨true, rfl, ⟨fun _ i x y hx hy => AL.out i x y (by omega) hx hy, fun _ => rfl⟩⟩, BW.out⟩
end Go.Proofs.YtmgbaefgcdglpaaGreatDoor.Dir
/- slices.Compact at keys: shorter just if a key is that ahead of it. -/
namespace Go.Proofs.YtmgbaefgcdglpaaGreatDoor.Dir
open Go Go.RowKit Go.Proofs Go.Proofs.YtmgbaefgcdglpaaGreatDoorW.PrintWords Go.Proofs.YtmgbaefgcdglpaaGreatDoorW.PrintLast Go.Proofs.YtmgbaefgcdglpaaGreatDoorW.PrintMore
set_option linter.unusedVariables false
set_option linter.unusedSimpArgs false
theorem put_key {w : World} {base g n c : Nat} {l : List Key} (h : w.ownsRow base 28 32 (.slice (some ⟨g, 0, none⟩) n c) n (flatK l)) (hn : n = l.length) (i : Nat) (d d' : Key) (hd : l[i]? = some d) :
  ∃ w', (Instr.storeAt 28 (.pointer (some ⟨g, i * 32, none⟩)) (.agg (encK d').toArray)).run Tryz.prog w = .ok () w' ∧ w'.ownsRow base 28 32 (.slice (some ⟨g, 0, none⟩) n c) n (flatK (l.set i d')) ∧ w.grownBy w' (some g) := by
 obtain ⟨cur, o1, o2, o3, o4, o5, o6, o7⟩ := owns_open h
 have hlt := (List.getElem?_eq_some_iff.1 hd).1
 have hi : i * 32 + 32 ≤ n * 32 := by rw [hn]; omega
 have hc : n * 32 ≤ c * 32 := Nat.mul_le_mul_right _ o3
 have hst := run_storeAtK Tryz.prog w 28 32 Tryz.sizeOf28 g (i * 32) (encK d') (encK_len _) (encK_one _) cur 28 o2 (by omega)
 have hflat : flatK (l.set i d') = splice (flatK l) (i * 32 + 0) (encK d') := flat_set encK 32 encK_len l i d d' hd 0 (encK d') (by rw [encK_len]; omega) (splice_all _ _ (by rw [encK_len, encK_len])).symm
 have hcur : cur = flatK l ++ cur.drop (n * 32) := by rw [← o6, List.take_append_drop]
 have hsp : splice cur (i * 32) (encK d') = flatK (l.set i d') ++ cur.drop (n * 32) := by
  conv => lhs; rw [hcur]
  rw [splice_front _ _ _ _ (by rw [o7, encK_len]; omega), hflat, Nat.add_zero]
 refine ⟨w.setRow g (splice cur (i * 32) (encK d')).toArray, hst, ?_, grownBy_setRow w g _⟩
 refine owns_shut o1 (setRow_heap w g cur.toArray _ 28 (0, 0) o2) o3 o4 (by rw [length_splice _ _ _ (by rw [encK_len]; omega), o5]) ?_
 rw [hsp, List.take_append_of_le_length (by rw [flatK_len, List.length_set, ← hn]; exact Nat.le_refl _), List.take_of_length_le (by rw [flatK_len, List.length_set, ← hn]; exact Nat.le_refl _)]
theorem clear_keys {w : World} {base g n c : Nat} {l : List Key} (h : w.ownsRow base 28 32 (.slice (some ⟨g, 0, none⟩) n c) n (flatK l)) (i : Nat) (hi : i < n) (c' : Nat) :
  ∃ w', (∀ ty, (Builtin.clear_ #[23] ty #[.slice (some ⟨g, i * 32, none⟩) (n - i) c']).run Tryz.prog w = .ok (.tuple #[]) w') ∧ w.grownBy w' (some g) := by
 obtain ⟨cur, o1, o2, o3, o4, o5, o6, o7⟩ := owns_open h
 have hc : n * 32 ≤ c * 32 := Nat.mul_le_mul_right _ o3
 have hz : ∀ w, (zeroValue 28).run Tryz.prog w = .ok (.agg zeroKey) w := Tryz.zeroValue28
 have hzs : zeroKey.size = 32 := by rfl
 have hz1 : ∀ v ∈ (Builtin.zeroCells zeroKey (n - i)).toList, v.oneCell' = true := by
  intro v hv
  simp only [Builtin.zeroCells, Array.toList_map, List.mem_map] at hv
  obtain ⟨j, hj, rfl⟩ := hv
  have hall : ∀ j, j < 32 → (zeroKey[j]!).oneCell' = true := by decide
  exact hall _ (by rw [hzs]; exact Nat.mod_lt _ (by decide))
 have hzl : (Builtin.zeroCells zeroKey (n - i)).toList.length = (n - i) * 32 := by
  simp [Builtin.zeroCells, hzs]
 have hst := run_storeCells_at Tryz.prog g (i * 32) 28 (Builtin.zeroCells zeroKey (n - i)).toList 0 cur.toArray w o2 (by rw [hzl]; simp; omega) hz1
 obtain ⟨W', hW, hg⟩ : ∃ W', Sem.run Tryz.prog (storeCells ⟨g, i * 32, none⟩ (Builtin.zeroCells zeroKey (n - i)).toList) w = .ok () W' ∧ w.grownBy W' (some g) := ⟨_, hst, grownBy_setRow w g _⟩
 refine ⟨W', fun ty => ?_, hg⟩
 obtain ⟨m, hm⟩ : ∃ m, n - i = m + 1 := ⟨n - i - 1, by omega⟩
 rw [hm] at hW ⊢
 simp [Builtin.clear_, run_underlying Tryz.underlying23, hz, Value.cells, hW]
def CompactEnd (l : List Key) (A : Option Addr) (c : Nat) (e : Ending) : Prop :=
 (e = .returned (.slice A l.length c) ∧ ApartL l) ∨ (∃ m c', m < l.length ∧ ¬ ApartL l ∧ e = .returned (.slice A m c'))
set_option maxHeartbeats 4000000 in
set_option maxRecDepth 100000 in
theorem compact_any (l : List Key) (A : Option Addr) (c base : Nat) (w : World) (h : w.ownsRow base 28 32 (.slice A l.length c) l.length (flatK l)) (hl : l.length ≤ 100) :
  Calls Tryz.prog 80 #[.slice A l.length c] w fun e w' => CompactEnd l A c e ∧ w.grownBy w' (Value.slice A l.length c).ownBlock := by
 have HW := Aside0.mk h
 have HL := Aside0.mk hl
 clear h
 by_cases h2 : l.length < 2
 ·have d1 : decide ((l.length : Int) < 2) = true := decide_eq_true (by omega)
  go_enter Tryz.func80, Tryz.ntmps80
  go_wp2
  go_ret
  exact ⟨.inl ⟨rfl, fun i x y hx hy => by have := (List.getElem?_eq_some_iff.1 hy).1; omega⟩, grownBy_refl _ _⟩
 obtain ⟨g, rfl⟩ : ∃ g, A = some ⟨g, 0, none⟩ := owned_at HW.out (by omega)
 have hcc : l.length ≤ c := by obtain ⟨cur, o1, o2, o3, o4⟩ := owns_open HW.out; exact o3
 go_enter Tryz.func80, Tryz.ntmps80
 go_wp2
 go_loopg [3] l.length (fun gg s3 wr => ∃ m : Nat, s3 = .int .i64 ((m : Int) + 1) ∧ m + 1 ≤ l.length ∧ l.length - m ≤ gg ∧ Aside0 (Below w.heap.size w wr) ∧ Aside0 (∀ i x y, i < m → l[i]? = some x → l[i + 1]? = some y → y ≠ x))
 case atStart => exact ⟨0, rfl, by omega, by omega, ⟨Below.refl _ w⟩, ⟨fun i x y hi => absurd hi (Nat.not_lt_zero _)⟩⟩
 case round =>
  obtain ⟨m, rfl, hm, hg, BW, AL⟩ := hrel
  by_cases hlt : m + 1 < l.length
  ·obtain ⟨x, hx⟩ : ∃ x, l[m + 1]? = some x := ⟨_, List.getElem?_eq_getElem (by omega)⟩
   obtain ⟨y, hy⟩ : ∃ y, l[m]? = some y := ⟨_, List.getElem?_eq_getElem (by omega)⟩
   have HWr := pw_own_below HW.out BW.out
   have hl1 := fun (W : World) (hb : Below wr.heap.size wr W) => load_key HWr hb hx
   have hl2 := fun (W : World) (hb : Below wr.heap.size wr W) => load_key HWr hb hy
   have he := eqlK x y
   have hgd := fun op a b w => guardK op a b x y w
   obtain ⟨XA, hXA⟩ : ∃ XA, XA = (encK x).toArray := ⟨_, rfl⟩
   obtain ⟨YA, hYA⟩ : ∃ YA, YA = (encK y).toArray := ⟨_, rfl⟩
   rw [← hXA] at hl1 he hgd
   rw [← hYA] at hl2 he hgd
   have H1 := Aside0.mk hl1
   have H2 := Aside0.mk hl2
   have HX := Aside0.mk (And.intro hx hy)
   have HWR := Aside0.mk HWr
   have d1 : ((m : Int) + 1 < (l.length : Int)) = True := eq_true (by omega)
   clear hl1 hl2 hXA hYA hx hy HWr
   go_wp2_with fail
   refine start_ (n := 10) (S := fun W => Below wr.heap.size wr W) (ds := []) #[false, false, false, false, false, false, false, false, false, false] (by kernel_rfl) rfl rfl (Below.refl _ wr).drew (fun hHeld => ?_)
   generalize World.drew _ = w5 at hHeld ⊢
   refine pure_ (i := 0) (N := (some 16)) (v := ?_) (a' := ?_) #[true, false, false, false, false, false, false, false, false, false] rfl rfl (by kernel_rfl) (fun _ _ _ h => h) (Or.inl ⟨by rfl, ?_⟩) ?_ ?_
   rotate_left
   ·intro w'
    go_simp
    with_reducible rfl
   rotate_left
   ·simp only [Act.put, List.setIfInBounds_toArray, List.set_cons_zero, List.set_cons_succ, i64_w, i32_w]
    rfl
   refine pure_ (i := 1) (N := (some 17)) (v := ?_) (a' := ?_) #[true, true, false, false, false, false, false, false, false, false] rfl rfl (by kernel_rfl) (fun _ _ _ h => h) (Or.inl ⟨by rfl, ?_⟩) ?_ ?_
   rotate_left
   ·intro w'
    go_simp
    with_reducible rfl
   rotate_left
   ·simp only [Act.put, List.setIfInBounds_toArray, List.set_cons_zero, List.set_cons_succ, i64_w, i32_w]
    rfl
   refine pure_ (i := 2) (N := (some 18)) (v := .pointer (some ⟨g, (m + 1) * 32, none⟩)) (a' := ?_) #[true, true, true, false, false, false, false, false, false, false] rfl rfl (by kernel_rfl) (fun _ _ _ h => h) (Or.inl ⟨by rfl, ?_⟩) ?_ ?_
   ·intro w'
    go_simp
    intro h
    exfalso
    omega
   rotate_left
   ·simp only [Act.put, List.setIfInBounds_toArray, List.set_cons_zero, List.set_cons_succ, i64_w, i32_w]
    rfl
   refine pure_ (i := 4) (N := (some 20)) (v := ?_) (a' := ?_) #[true, true, true, false, true, false, false, false, false, false] rfl rfl (by kernel_rfl) (fun _ _ _ h => h) (Or.inl ⟨by rfl, ?_⟩) ?_ ?_
   rotate_left
   ·intro w'
    go_simp
    with_reducible rfl
   rotate_left
   ·simp only [Act.put, List.setIfInBounds_toArray, List.set_cons_zero, List.set_cons_succ, i64_w, i32_w]
    rfl
   refine pure_ (i := 5) (N := (some 21)) (v := ?_) (a' := ?_) #[true, true, true, false, true, true, false, false, false, false] rfl rfl (by kernel_rfl) (fun _ _ _ h => h) (Or.inl ⟨by rfl, ?_⟩) ?_ ?_
   rotate_left
   ·intro w'
    go_simp
    with_reducible rfl
   rotate_left
   ·simp only [Act.put, List.setIfInBounds_toArray, List.set_cons_zero, List.set_cons_succ, i64_w, i32_w]
    rfl
   refine pure_ (i := 6) (N := (some 22)) (v := .int .i64 m) (a' := ?_) #[true, true, true, false, true, true, true, false, false, false] rfl rfl (by kernel_rfl) (fun _ _ _ h => h) (Or.inl ⟨by rfl, ?_⟩) ?_ ?_
   ·intro w'
    go_simp
    first | with_reducible rfl | (rw [IntWalk.i64_left, IntWalk.wrap64_in _ ⟨by omega, by omega⟩])
   rotate_left
   ·simp only [Act.put, List.setIfInBounds_toArray, List.set_cons_zero, List.set_cons_succ, i64_w, i32_w]
    rfl
   refine pure_ (i := 7) (N := (some 23)) (v := .pointer (some ⟨g, m * 32, none⟩)) (a' := ?_) #[true, true, true, false, true, true, true, true, false, false] rfl rfl (by kernel_rfl) (fun _ _ _ h => h) (Or.inl ⟨by rfl, ?_⟩) ?_ ?_
   ·intro w'
    go_simp
    intro h
    exfalso
    omega
   rotate_left
   ·simp only [Act.put, List.setIfInBounds_toArray, List.set_cons_zero, List.set_cons_succ, i64_w, i32_w]
    rfl
   refine take_ (i := 3) (N := (some 19)) (v := _) (a' := ?_) #[true, true, true, true, true, true, true, true, false, false] rfl rfl (by kernel_rfl) (fun _ _ _ h => h) (Or.inl ⟨by rfl, fun w' hs => yields_load 28 (.tmp 18) _ rfl _ _ rfl _ (H1.out w' hs)⟩) hHeld ?_ ?_
   rotate_left
   ·simp only [Act.put, List.setIfInBounds_toArray, List.set_cons_zero, List.set_cons_succ, i64_w, i32_w]
    rfl
   refine take_ (i := 8) (N := (some 24)) (v := _) (a' := ?_) #[true, true, true, true, true, true, true, true, true, false] rfl rfl (by kernel_rfl) (fun _ _ _ h => h) (Or.inl ⟨by rfl, fun w' hs => yields_load 28 (.tmp 23) _ rfl _ _ rfl _ (H2.out w' hs)⟩) hHeld ?_ ?_
   rotate_left
   ·simp only [Act.put, List.setIfInBounds_toArray, List.set_cons_zero, List.set_cons_succ, i64_w, i32_w]
    rfl
   refine pure_ (i := 9) (N := (some 25)) (v := ?_) (a' := ?_) #[true, true, true, true, true, true, true, true, true, true] rfl rfl (by kernel_rfl) (fun _ _ _ h => h) (Or.inl ⟨by rfl, ?_⟩) ?_ ?_
   rotate_left
   ·intro w'
    go_simp
    with_reducible rfl
   rotate_left
   ·simp only [Act.put, List.setIfInBounds_toArray, List.set_cons_zero, List.set_cons_succ, i64_w, i32_w]
    rfl
   refine done_ (by kernel_rfl) ?_
   have HH := Aside0.mk (below_step BW.out hHeld)
   clear hHeld
   by_cases hq : x = y
   ·have HQ := Aside0.mk hq
    rw [show decide (x = y) = true from decide_eq_true hq]
    clear hq he hgd
    have hNA : ¬ ApartL l := fun ha => ha m y x HX.out.2 HX.out.1 HQ.out
    have HNA := Aside0.mk hNA
    have hb1 : ((m : Int) + 1 ≤ (l.length : Int)) = True := eq_true (by omega)
    have hb2 : ((l.length : Int) ≤ (c : Int)) = True := eq_true (by omega)
    clear hNA
    go_upto_region 8 with fail
    have hb5 := HH.out
    clear d1 hb1 hb2
    go_upto_region 9 with fail
    have HG := Aside0.mk (show w.grownBy w5 (some g) from grownBy_wide (grownBy_below HH.out))
    have HO := Aside0.mk (pw_own_below HW.out HH.out)
    clear hb5
    go_loopg [3, 5] l.length (fun gg s3 s5 wr => ∃ (i n2 : Nat) (l' : List Key), s3 = .int .i64 i ∧ s5 = .int .i64 ((n2 : Int) + 1) ∧ i ≤ m + 1 + n2 ∧ m + 1 + n2 + 1 ≤ l.length ∧ l.length - n2 ≤ gg ∧ l'.length = l.length ∧ Aside0 (wr.ownsRow base 28 32 (.slice (some ⟨g, 0, none⟩) l.length c) l.length (flatK l')) ∧ Aside0 (w.grownBy wr (some g)))
    case atStart => exact ⟨m + 1, 0, l, by rw [show ((m + 1 : Nat) : Int) = (m : Int) + 1 by omega], rfl, by omega, by omega, by omega, rfl, ⟨HO.out⟩, ⟨HG.out⟩⟩
    case round =>
     obtain ⟨i, n2, l', rfl, rfl, hi, hn2, hg2, hl', OW, GR⟩ := hrel
     obtain ⟨wB, rfl⟩ : ∃ x, x = wr := ⟨wr, rfl⟩
     have hcut : ((l.length - (m + 1) : Nat) : Int) = (l.length : Int) - ((m : Int) + 1) := by omega
     by_cases hl2 : n2 + 1 < l.length - (m + 1)
     ·obtain ⟨x', hx'⟩ : ∃ x', l'[m + 1 + (n2 + 1)]? = some x' := ⟨_, List.getElem?_eq_getElem (by omega)⟩
      obtain ⟨y', hy'⟩ : ∃ y', l'[m + 1 + n2]? = some y' := ⟨_, List.getElem?_eq_getElem (by omega)⟩
      have hl3 : ∀ W, Below wB.heap.size wB W → (Instr.loadAt 28 (.pointer (some ⟨g, (m + 1) * 32 + (n2 + 1) * 32, none⟩))).run Tryz.prog W = .ok (.agg (encK x').toArray) W := fun W hb => by
       have := load_key OW.out hb hx'
       rwa [show (m + 1 + (n2 + 1)) * 32 = (m + 1) * 32 + (n2 + 1) * 32 by omega] at this
      have hl4 : ∀ W, Below wB.heap.size wB W → (Instr.loadAt 28 (.pointer (some ⟨g, (m + 1) * 32 + n2 * 32, none⟩))).run Tryz.prog W = .ok (.agg (encK y').toArray) W := fun W hb => by
       have := load_key OW.out hb hy'
       rwa [show (m + 1 + n2) * 32 = (m + 1) * 32 + n2 * 32 by omega] at this
      have he := neqK x' y'
      have hgd := fun op a b w => guardK op a b x' y' w
      obtain ⟨X2, hX2⟩ : ∃ X2, X2 = (encK x').toArray := ⟨_, rfl⟩
      obtain ⟨Y2, hY2⟩ : ∃ Y2, Y2 = (encK y').toArray := ⟨_, rfl⟩
      rw [← hX2] at hl3 he hgd
      rw [← hY2] at hl4 he hgd
      have H3 := Aside0.mk hl3
      have H4 := Aside0.mk hl4
      have HX2 := Aside0.mk hX2
      have hltz : ((n2 : Int) + 1 < ((l.length - (m + 1) : Nat) : Int)) = True := eq_true (by omega)
      clear hl3 hl4 hY2 hx' hy' hX2
      go_wp2_with fail
      refine start_ (n := 10) (S := fun W => Below wB.heap.size wB W) (ds := []) #[false, false, false, false, false, false, false, false, false, false] (by kernel_rfl) rfl rfl (Below.refl _ wB).drew (fun hHeld => ?_)
      generalize World.drew _ = w5 at hHeld ⊢
      refine pure_ (i := 0) (N := (some 35)) (v := ?_) (a' := ?_) #[true, false, false, false, false, false, false, false, false, false] rfl rfl (by kernel_rfl) (fun _ _ _ h => h) (Or.inl ⟨by rfl, ?_⟩) ?_ ?_
      rotate_left
      ·intro w'
       go_simp
       with_reducible rfl
      rotate_left
      ·simp only [Act.put, List.setIfInBounds_toArray, List.set_cons_zero, List.set_cons_succ, i64_w, i32_w]
       rfl
      refine pure_ (i := 1) (N := (some 36)) (v := ?_) (a' := ?_) #[true, true, false, false, false, false, false, false, false, false] rfl rfl (by kernel_rfl) (fun _ _ _ h => h) (Or.inl ⟨by rfl, ?_⟩) ?_ ?_
      rotate_left
      ·intro w'
       go_simp
       with_reducible rfl
      rotate_left
      ·simp only [Act.put, List.setIfInBounds_toArray, List.set_cons_zero, List.set_cons_succ, i64_w, i32_w]
       rfl
      refine pure_ (i := 2) (N := (some 37)) (v := .pointer (some ⟨g, (m + 1) * 32 + (n2 + 1) * 32, none⟩)) (a' := ?_) #[true, true, true, false, false, false, false, false, false, false] rfl rfl (by kernel_rfl) (fun _ _ _ h => h) (Or.inl ⟨by rfl, ?_⟩) ?_ ?_
      ·intro w'
       go_simp
       intro h
       exfalso
       omega
      rotate_left
      ·simp only [Act.put, List.setIfInBounds_toArray, List.set_cons_zero, List.set_cons_succ, i64_w, i32_w]
       rfl
      refine pure_ (i := 4) (N := (some 39)) (v := ?_) (a' := ?_) #[true, true, true, false, true, false, false, false, false, false] rfl rfl (by kernel_rfl) (fun _ _ _ h => h) (Or.inl ⟨by rfl, ?_⟩) ?_ ?_
      rotate_left
      ·intro w'
       go_simp
       with_reducible rfl
      rotate_left
      ·simp only [Act.put, List.setIfInBounds_toArray, List.set_cons_zero, List.set_cons_succ, i64_w, i32_w]
       rfl
      refine pure_ (i := 5) (N := (some 40)) (v := ?_) (a' := ?_) #[true, true, true, false, true, true, false, false, false, false] rfl rfl (by kernel_rfl) (fun _ _ _ h => h) (Or.inl ⟨by rfl, ?_⟩) ?_ ?_
      rotate_left
      ·intro w'
       go_simp
       with_reducible rfl
      rotate_left
      ·simp only [Act.put, List.setIfInBounds_toArray, List.set_cons_zero, List.set_cons_succ, i64_w, i32_w]
       rfl
      refine pure_ (i := 6) (N := (some 41)) (v := .int .i64 n2) (a' := ?_) #[true, true, true, false, true, true, true, false, false, false] rfl rfl (by kernel_rfl) (fun _ _ _ h => h) (Or.inl ⟨by rfl, ?_⟩) ?_ ?_
      ·intro w'
       go_simp
       first | with_reducible rfl | (rw [IntWalk.i64_left, IntWalk.wrap64_in _ ⟨by omega, by omega⟩])
      rotate_left
      ·simp only [Act.put, List.setIfInBounds_toArray, List.set_cons_zero, List.set_cons_succ, i64_w, i32_w]
       rfl
      refine pure_ (i := 7) (N := (some 42)) (v := .pointer (some ⟨g, (m + 1) * 32 + n2 * 32, none⟩)) (a' := ?_) #[true, true, true, false, true, true, true, true, false, false] rfl rfl (by kernel_rfl) (fun _ _ _ h => h) (Or.inl ⟨by rfl, ?_⟩) ?_ ?_
      ·intro w'
       go_simp
       intro h
       exfalso
       omega
      rotate_left
      ·simp only [Act.put, List.setIfInBounds_toArray, List.set_cons_zero, List.set_cons_succ, i64_w, i32_w]
       rfl
      refine take_ (i := 3) (N := (some 38)) (v := _) (a' := ?_) #[true, true, true, true, true, true, true, true, false, false] rfl rfl (by kernel_rfl) (fun _ _ _ h => h) (Or.inl ⟨by rfl, fun w' hs => yields_load 28 (.tmp 37) _ rfl _ _ rfl _ (H3.out w' hs)⟩) hHeld ?_ ?_
      rotate_left
      ·simp only [Act.put, List.setIfInBounds_toArray, List.set_cons_zero, List.set_cons_succ, i64_w, i32_w]
       rfl
      refine take_ (i := 8) (N := (some 43)) (v := _) (a' := ?_) #[true, true, true, true, true, true, true, true, true, false] rfl rfl (by kernel_rfl) (fun _ _ _ h => h) (Or.inl ⟨by rfl, fun w' hs => yields_load 28 (.tmp 42) _ rfl _ _ rfl _ (H4.out w' hs)⟩) hHeld ?_ ?_
      rotate_left
      ·simp only [Act.put, List.setIfInBounds_toArray, List.set_cons_zero, List.set_cons_succ, i64_w, i32_w]
       rfl
      refine pure_ (i := 9) (N := (some 44)) (v := ?_) (a' := ?_) #[true, true, true, true, true, true, true, true, true, true] rfl rfl (by kernel_rfl) (fun _ _ _ h => h) (Or.inl ⟨by rfl, ?_⟩) ?_ ?_
      rotate_left
      ·intro w'
       go_simp
       with_reducible rfl
      rotate_left
      ·simp only [Act.put, List.setIfInBounds_toArray, List.set_cons_zero, List.set_cons_succ, i64_w, i32_w]
       rfl
      refine done_ (by kernel_rfl) ?_
      have HB := Aside0.mk hHeld
      clear hHeld
      have HO5 := Aside0.mk (pw_own_below OW.out HB.out)
      by_cases hq2 : x' = y'
      ·rw [show (!decide (x' = y')) = false by simp [hq2]]
       clear hq2 he hgd
       go_wp2_with fail
       obtain ⟨k2, rfl⟩ : ∃ k2, gk = k2 + 1 := ⟨gk - 1, by omega⟩
       go_roundg k2
       case measure => omega
       case rel => exact ⟨i, n2 + 1, l', rfl, by go_num, by omega, by omega, by omega, hl', ⟨HO5.out⟩, ⟨grownBy_trans GR.out (grownBy_wide (grownBy_below HB.out))⟩⟩
      ·rw [show (!decide (x' = y')) = true by simp [hq2]]
       obtain ⟨old, hold⟩ : ∃ old, l'[i]? = some old := ⟨_, List.getElem?_eq_getElem (by omega)⟩
       obtain ⟨W', hst, ho', hg'⟩ := put_key HO5.out hl'.symm i old x' hold
       rw [← HX2.out] at hst
       have HST := Aside0.mk hst
       have HO6 := Aside0.mk (And.intro ho' hg')
       have H5 := Aside0.mk (H3.out _ HB.out)
       clear hq2 he hgd hst ho' hg' hold
       go_wp2_with (first | ((with_reducible refine at_load 28 (.tmp 49) ?_); refine wpList_loadK rfl 28 (.tmp 49) rfl _ rfl _ H5.out ?_) | ((with_reducible refine at_store 28 (.tmp 51) (.tmp 50) ?_); refine wpList_storeK rfl 28 (.tmp 51) (.tmp 50) rfl rfl _ _ rfl rfl _ HST.out ?_))
       obtain ⟨k2, rfl⟩ : ∃ k2, gk = k2 + 1 := ⟨gk - 1, by omega⟩
       go_roundg k2
       case measure => omega
       case rel => exact ⟨i + 1, n2 + 1, l'.set i x', by go_num, by go_num, by omega, by omega, by omega, by rw [List.length_set]; exact hl', ⟨HO6.out.1⟩, ⟨grownBy_trans GR.out (grownBy_trans (grownBy_wide (grownBy_below HB.out)) HO6.out.2)⟩⟩
     ·have hltz : ((n2 : Int) + 1 < ((l.length - (m + 1) : Nat) : Int)) = False := eq_false (by omega)
      obtain ⟨W', hcl, hg'⟩ := clear_keys OW.out i (by omega) (c - i)
      have HG' := Aside0.mk hg'
      have hile : i < l.length := by omega
      clear hg'
      go_wp2_with fail
      go_ret
      exact ⟨.inr ⟨i, _, hile, HNA.out, rfl⟩, grownBy_trans GR.out HG'.out⟩
   ·have HQ := Aside0.mk hq
    rw [show decide (x = y) = false from decide_eq_false hq]
    clear hq he hgd
    go_wp2_with fail
    obtain ⟨k2, rfl⟩ : ∃ k2, gk = k2 + 1 := ⟨gk - 1, by omega⟩
    go_roundg k2
    case measure => omega
    case rel =>
     refine ⟨m + 1, by go_num, by omega, by omega, ⟨HH.out⟩, ⟨fun i x' y' hi hx' hy' => ?_⟩⟩
     by_cases e : i = m
     ·subst e
      obtain ⟨e1, e2⟩ := HX.out
      rw [e2] at hx'
      rw [e1] at hy'
      cases hx'; cases hy'
      exact HQ.out
     ·exact AL.out i x' y' (by omega) hx' hy'
  ·have d1 : ((m : Int) + 1 < (l.length : Int)) = False := eq_false (by omega)
   go_wp2_with fail
   go_ret
   refine ⟨.inl ⟨rfl, fun i x y hx hy => ?_⟩, grownBy_wide (grownBy_below BW.out)⟩
   have := (List.getElem?_eq_some_iff.1 hy).1
   exact AL.out i x y (by omega) hx hy
end Go.Proofs.YtmgbaefgcdglpaaGreatDoor.Dir
end
