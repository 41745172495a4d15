/- The law DirectParses. What the rows' arguments read as: rows of asks; the listed variables; the wrap. What arguments read as: books, and rows of ops. What arguments read as: keys by value, rows of bytes. -/
import Derived.Test.YthnpiimiimiijaaGreatDoorKp26
import Derived.Test.YthnpiimiimiijaaGreatDoorTie
import Derived.Test.YthnpiimiimiijaaGreatDoorKp9
import Derived.Test.YthnpiimiimiijaaGreatDoorKp14
import Derived.ProofKit
import Derived.OpenShut
import Derived.LaidMore
import Derived.Lay
import Derived.SevenTiedAt
import Derived.Stop.Joined
import Derived.WalkKit
import Derived.ChangeOld
import Derived.SizedLaws
import Derived.Deep.SlicePairs
import Derived.WideKeyArr2
import Derived.HandedShaped
import Derived.Test.YthnpiimiimiijaaGreatDoorKp20
section
namespace Go.Proofs.YthnpiimiimiijaaGreatDoor.Dir
open Go Go.RowKit Go.Proofs Go.Proofs.YthnpiimiimiijaaGreatDoorW.PrintWords Go.Proofs.YthnpiimiimiijaaGreatDoorW.PrintLast Go.Proofs.YthnpiimiimiijaaGreatDoorW.PrintMore
set_option linter.unusedVariables false
set_option linter.unusedSimpArgs false
theorem said_two {l : List UInt8} {x y : Except Int Book} (hx : bookSaid l x) (hy : bookSaid l y) : x = y := by
 unfold bookSaid at hx hy
 split at hx
 ·rename_i c h
  rw [h] at hy
  exact hx.trans hy.symm
 ·rename_i B r h
  rw [h] at hy
  rcases hx with ⟨a1, a2, rfl⟩ | ⟨a1, rfl⟩ <;> rcases hy with ⟨b1, b2, rfl⟩ | ⟨b1, rfl⟩
  ·rfl
  ·exact absurd ⟨a1, a2⟩ b1
  ·exact absurd ⟨b1, b2⟩ a1
  ·rfl
theorem said_may {l : List UInt8} {B : Book} (h : bookSaid l (.ok B)) : MayB B := by
 unfold bookSaid at h
 split at h
 ·cases h
 ·rcases h with ⟨-, a2, e⟩ | ⟨-, e⟩
  ·cases e; exact a2
  ·cases e
/-- What Parse says of bytes: an error; a book. -/
def PSaid (l : List UInt8) (B : Book) (ev : Int) : Prop := (ev ≠ 0 ∧ bookSaid l (.error ev) ∧ B = book0) ∨ (ev = 0 ∧ bookSaid l (.ok B))
theorem PSaid.two {l : List UInt8} {B B' : Book} {ev ev' : Int} (h : PSaid l B ev) (k : PSaid l B' ev') : B' = B ∧ ev' = ev := by
 rcases h with ⟨a, b, rfl⟩ | ⟨rfl, b⟩ <;> rcases k with ⟨a', b', rfl⟩ | ⟨rfl, b'⟩
 ·cases said_two b b'; exact ⟨rfl, rfl⟩
 ·cases said_two b b'
 ·cases said_two b b'
 ·cases said_two b b'; exact ⟨rfl, rfl⟩
theorem PSaid.few {l : List UInt8} {B : Book} {ev : Int} (h : PSaid l B ev) : B.devs.length ≤ 8 ∧ B.spent.length ≤ 64 := by
 rcases h with ⟨a, b, rfl⟩ | ⟨rfl, b⟩
 ·exact ⟨by simp [book0], by simp [book0]⟩
 ·have := (said_may b).1.few
  exact ⟨this.1, this.2⟩
theorem ParseEnd.psaid {w w' : World} {l : List UInt8} {e : Ending} (h : ParseEnd w w' l e) : ∃ B ev A1 c1 A2 c2, PSaid l B ev ∧ e = .returned (.tuple #[.agg (bookCells B A1 c1 A2 c2).toArray, .int .i64 ev]) ∧ OwnD w' w.heap.size A1 c1 B.devs ∧ OwnK w' w.heap.size A2 c2 B.spent := by
 rcases h with ⟨c, hc, hs, rfl⟩ | ⟨B, A1, c1, A2, c2, hs, rfl, h1, h2⟩
 ·exact ⟨book0, c, none, 0, none, 0, .inl ⟨hc, hs, rfl⟩, rfl, ownD_nil _ _, ownK_nil _ _⟩
 ·exact ⟨B, 0, A1, c1, A2, c2, .inr ⟨rfl, hs⟩, rfl, h1, h2⟩
theorem ParseEnd.again {w w' : World} {l : List UInt8} {e : Ending} {B : Book} {ev : Int} (s : PSaid l B ev) (h : ParseEnd w w' l e) : ∃ A1 c1 A2 c2, e = .returned (.tuple #[.agg (bookCells B A1 c1 A2 c2).toArray, .int .i64 ev]) ∧ OwnD w' w.heap.size A1 c1 B.devs ∧ OwnK w' w.heap.size A2 c2 B.spent := by
 obtain ⟨B', ev', A1, c1, A2, c2, s', rfl, h1, h2⟩ := h.psaid
 obtain ⟨rfl, rfl⟩ := s.two s'
 exact ⟨A1, c1, A2, c2, rfl, h1, h2⟩
theorem ButW.setCell {g0 : Nat} {W W' : World} (h : ButW g0 W W') (j : Nat) (u : Value) : ButW g0 W (W'.setCell ⟨g0, j, none⟩ u) :=
 ⟨by simpa using h.size, fun g hg hn => (Below.heap_setCell _ _ _ _ (fun e => by first | exact hn e | exact hn e.symm)).trans (h.block g hg hn)⟩
theorem src_of_own {w : World} {base : Nat} {B : Book} {A1 A2 : Option Addr} {c1 c2 : Nat} (h1 : OwnD w base A1 c1 B.devs) (h2 : OwnK w base A2 c2 B.spent) (hf : B.devs.length ≤ 8 ∧ B.spent.length ≤ 64) : SrcB w B A1 A2 := ⟨h1.src, h2.src, by omega, by omega⟩
/-- The bytes that are written over. -/
def Over (w W : World) (top n : Nat) (X : Option Addr) : Prop := n = 0 ∨ ∃ g cur, X = some ⟨g, 0, none⟩ ∧ W.heap[g]? = some (.cells cur 5 (0, 0)) ∧ n ≤ cur.size ∧ w.heap.size ≤ g ∧ g < top
theorem over_own {w W : World} {X : Option Addr} {c : Nat} {l : List UInt8} (h : OwnB W w.heap.size X c l) : Over w W W.heap.size l.length X := by
 rcases h.2 with ⟨-, h⟩ | ⟨g, cap, cur, h1, h2, h3, h4, h5, h6, h7⟩
 ·exact .inl h
 ·cases h1
  exact .inr ⟨g, cur, rfl, h3, by omega, h2, (Array.getElem?_eq_some_iff.1 h3).1⟩
theorem Over.below {w W W' : World} {top n : Nat} {X : Option Addr} (h : Over w W top n X) (hb : Below W.heap.size W W') : Over w W' top n X := by
 rcases h with h | ⟨g, cur, h1, h2, h3⟩
 ·exact .inl h
 ·exact .inr ⟨g, cur, h1, room_at h2 hb, h3⟩
set_option maxHeartbeats 8000000 in
set_option maxRecDepth 100000 in
theorem parses_law (l : List UInt8) (n : Nat) (hn : n = l.length) (A : Option Addr) (c : Nat) (w : World) (h : SrcAt w A l.length 1 (l.map byteV)) (hl : l.length ≤ 140737488351232) (hx : PA.LaidW w) :
  Calls Tryz.prog 10 #[.slice A n c] w fun e w' => e = .returned (.bool true) ∧ Below w.heap.size w w' := by
 have H := Aside0.mk h
 have HN := Aside0.mk hn
 have HL := Aside0.mk hl
 have HX := Aside0.mk hx
 clear h hl hx hn
 go_enter Tryz.func10, Tryz.ntmps10
 go_wp2_with fail
 refine (copyb l n HN.out A c w H.out (by have := HL.out; omega)).mono ?_
 rintro e w1 ⟨X, cx, rfl, ho, hb⟩
 have HB1 := Aside0.mk hb
 have HO1 := Aside0.mk (over_own ho)
 have HS1 := Aside0.mk ho.src
 clear hb ho
 rw [← HN.out]
 obtain ⟨top, htop⟩ : ∃ top, top = w1.heap.size := ⟨_, rfl⟩
 rw [← htop] at HO1
 have HT := Aside0.mk (And.intro htop HB1.out.size)
 clear htop
 go_upto_region 2 with fail
 go_wp2_with fail
 refine (parse35 l n HN.out X cx w1 HS1.out (by have := HL.out; omega) (HX.out.below HB1.out)).mono ?_
 rintro e w2 ⟨he, hb⟩
 obtain ⟨B, ev, A1, c1, A2, c2, hs, rfl, h1, h2⟩ := he.psaid
 have HSD := Aside0.mk hs
 obtain ⟨W3, hW3⟩ : ∃ W3, W3 = w2.alloc (.cells (bookCells B A1 c1 A2 c2).toArray 43) := ⟨_, rfl⟩
 obtain ⟨p, hp⟩ : ∃ p, p = w2.heap.size := ⟨_, rfl⟩
 have hbw := (Below.refl w2.heap.size w2).alloc (Nat.le_refl _) (.cells (bookCells B A1 c1 A2 c2).toArray 43)
 rw [← hW3] at hbw
 have HB3 := Aside0.mk (below_step hb hbw)
 have HP3 := Aside0.mk (show W3.heap[p]? = some (.cells (bookCells B A1 c1 A2 c2).toArray 43 (0, 0)) by rw [hW3, hp]; exact heap_alloc_new w2 _)
 have HPT := Aside0.mk (show top ≤ p by rw [HT.out.1, hp]; exact hb.size)
 have HA := Aside0.mk (show (∀ a, A1 = some a → top ≤ a.block) ∧ (∀ a, A2 = some a → top ≤ a.block) from ⟨fun a ha => by rw [HT.out.1]; exact own_at_base h1 a ha, fun a ha => by rw [HT.out.1]; exact own_at_base h2 a ha⟩)
 have HSA := Aside0.mk ((src_of_own h1 h2 hs.few).later hbw)
 have st := Aside0.mk (fun (c : Array Value) (hc : c.size = 5) => run_storeNew Tryz.prog w2 43 5 size43 c (bookCells B A1 c1 A2 c2).toArray hc rfl (by simpa using book_one B A1 A2 c1 c2))
 have HLA := Aside0.mk (fun (W : World) (hW : W.heap[p]? = some (.cells (bookCells B A1 c1 A2 c2).toArray 43 (0, 0))) => run_loadAtK Tryz.prog W 43 5 Tryz.isAgg43 Tryz.sizeOf43 p 0 (bookCells B A1 c1 A2 c2) rfl (cells_of_heap hW))
 have HSE := Aside0.mk (fun (A3 : Option Addr) (c3 : Nat) (A4 : Option Addr) (c4 : Nat) (W : World) (ha : SrcB W B A1 A2) (hb : SrcB W B A3 A4) => same_eq B A1 c1 A2 c2 A3 c3 A4 c4 W ha hb)
 obtain ⟨BA, hBA⟩ : ∃ BA, BA = (bookCells B A1 c1 A2 c2).toArray := ⟨_, rfl⟩
 rw [← hBA] at hW3 st HLA HP3 HSE ⊢
 have HBA := Aside0.mk hBA
 clear he hb hs h1 h2 hbw hBA
 go_upto_region 3 with ((with_reducible refine at_store 43 (.tmp 4) (.tmp 14) ?_); refine wpList_storeK rfl 43 (.tmp 4) (.tmp 14) rfl rfl _ _ rfl rfl _ (st.out _ rfl) ?_)
 rw [← hW3, ← hp]
 clear hW3 hp st
 have HB30 := Aside0.mk (below_step HB1.out HB3.out)
 go_wp2_with fail
 refine (parse36 l n HN.out A c W3 (H.out.grown HB30.out) (by have := HL.out; omega)).mono ?_
 rintro e w4 ⟨he, hb⟩
 obtain ⟨A3, c3, A4, c4, rfl, h1, h2⟩ := he.again HSD.out
 obtain ⟨W5, hW5⟩ : ∃ W5, W5 = w4.alloc (.cells (bookCells B A3 c3 A4 c4).toArray 43) := ⟨_, rfl⟩
 obtain ⟨r, hr⟩ : ∃ r, r = w4.heap.size := ⟨_, rfl⟩
 have hbw := (Below.refl w4.heap.size w4).alloc (Nat.le_refl _) (.cells (bookCells B A3 c3 A4 c4).toArray 43)
 rw [← hW5] at hbw
 have HB5 := Aside0.mk (below_step hb hbw)
 have HR5 := Aside0.mk (show W5.heap[r]? = some (.cells (bookCells B A3 c3 A4 c4).toArray 43 (0, 0)) by rw [hW5, hr]; exact heap_alloc_new w4 _)
 have hsz3 : top ≤ W3.heap.size := by rw [HT.out.1]; exact HB3.out.size
 have HRT := Aside0.mk (show top ≤ r by rw [hr]; exact Nat.le_trans hsz3 hb.size)
 have HC := Aside0.mk (show (∀ a, A3 = some a → top ≤ a.block) ∧ (∀ a, A4 = some a → top ≤ a.block) from ⟨fun a ha => Nat.le_trans hsz3 (own_at_base h1 a ha), fun a ha => Nat.le_trans hsz3 (own_at_base h2 a ha)⟩)
 have HSC := Aside0.mk ((src_of_own h1 h2 HSD.out.few).later hbw)
 have st := Aside0.mk (fun (c : Array Value) (hc : c.size = 5) => run_storeNew Tryz.prog w4 43 5 size43 c (bookCells B A3 c3 A4 c4).toArray hc rfl (by simpa using book_one B A3 A4 c3 c4))
 have HLC := Aside0.mk (fun (W : World) (hW : W.heap[r]? = some (.cells (bookCells B A3 c3 A4 c4).toArray 43 (0, 0))) => run_loadAtK Tryz.prog W 43 5 Tryz.isAgg43 Tryz.sizeOf43 r 0 (bookCells B A3 c3 A4 c4) rfl (cells_of_heap hW))
 have HSF := Aside0.mk (fun (W : World) (ha : SrcB W B A1 A2) (hb : SrcB W B A3 A4) => HSE.out A3 c3 A4 c4 W ha hb)
 obtain ⟨CA, hCA⟩ : ∃ CA, CA = (bookCells B A3 c3 A4 c4).toArray := ⟨_, rfl⟩
 rw [← hCA] at hW5 st HLC HR5 HSF ⊢
 have HCA := Aside0.mk hCA
 clear he hb h1 h2 hbw hCA hsz3
 go_upto_region 4 with ((with_reducible refine at_store 43 (.tmp 6) (.tmp 19) ?_); refine wpList_storeK rfl 43 (.tmp 6) (.tmp 19) rfl rfl _ _ rfl rfl _ (st.out _ rfl) ?_)
 rw [← hW5, ← hr]
 clear hW5 hr st
 have HF5 := Aside0.mk (show W5.heap[p]? = some (.cells BA 43 (0, 0)) ∧ W5.heap[r]? = some (.cells CA 43 (0, 0)) ∧ SrcB W5 B A1 A2 ∧ SrcB W5 B A3 A4 ∧ Below w.heap.size w W5 ∧ Over w W5 top n X ∧ SrcAt W5 X l.length 1 (l.map byteV) from
  ⟨room_at HP3.out HB5.out, HR5.out, HSA.out.later HB5.out, HSC.out, below_step HB30.out HB5.out, by have := (HO1.out.below HB3.out).below HB5.out; rw [← HN.out] at this; exact this, (HS1.out.grown HB3.out).grown HB5.out⟩)
 have LA5 := Aside0.mk (HLA.out W5 HF5.out.1)
 have LC5 := Aside0.mk (HLC.out W5 HF5.out.2.1)
 have HSQ5 := Aside0.mk (HSF.out W5 HF5.out.2.2.1 HF5.out.2.2.2.1)
 have HEB := Aside0.mk (fun (W : World) (hb : Below W5.heap.size W5 W) => eqb_same l n HN.out X cx A c W (HF5.out.2.2.2.2.2.2.grown hb) ((H.out.grown (HF5.out.2.2.2.2.1)).grown hb) (by have := HL.out; omega))
 go_wp2_with (first | ((with_reducible refine at_load 43 (.tmp 4) ?_); refine wpList_loadW (by rfl) 43 (.tmp 4) rfl _ rfl _ (LA5.out) ?_) | ((with_reducible refine at_load 43 (.tmp 6) ?_); refine wpList_loadW (by rfl) 43 (.tmp 6) rfl _ rfl _ (LC5.out) ?_))
 refine HSQ5.out.mono ?_
 rintro e w6 ⟨rfl, hb6⟩
 have HEB6 := Aside0.mk (HEB.out w6 hb6)
 have hnn : (ev != ev) = false := by simp
 go_wp2_with fail
 refine HEB6.out.mono ?_
 rintro e w7 ⟨rfl, hb7⟩
 have HB7 := Aside0.mk (below_step hb6 hb7)
 clear hb6 hb7 hnn
 go_upto_region 6 with fail
 have hll := HL.out
 rw [← HN.out] at hll
 go_upto_region 7 with fail
 go_loopg [8] n (fun kx s8 wr => ∃ kk : Nat, s8 = .int .i64 kk ∧ kk + kx = n ∧ Aside0 (wr.heap[p]? = some (.cells BA 43 (0, 0)) ∧ wr.heap[r]? = some (.cells CA 43 (0, 0)) ∧ SrcB wr B A1 A2 ∧ SrcB wr B A3 A4 ∧ Below w.heap.size w wr ∧ Over w wr top n X))
 case atStart => exact ⟨0, rfl, by omega, ⟨room_at HF5.out.1 HB7.out, room_at HF5.out.2.1 HB7.out, HF5.out.2.2.1.later HB7.out, HF5.out.2.2.2.1.later HB7.out, below_step HF5.out.2.2.2.2.1 HB7.out, HF5.out.2.2.2.2.2.1.below HB7.out⟩⟩
 case round =>
  obtain ⟨kk, rfl, hkk, HU⟩ := hrel
  by_cases hlt : kk < n
  ·have hltz : (kk : Int) < (n : Int) := by omega
   have hov := HU.out.2.2.2.2.2
   rcases hov with h0 | ⟨g, cur, rfl, hg, hc, hlo, hhi⟩
   ·exact absurd h0 (by omega)
   obtain ⟨b, hb⟩ : ∃ b, cur[kk]? = some b := ⟨_, Array.getElem?_eq_getElem (by omega)⟩
   have kc : wr.cell? ⟨g, kk, none⟩ = some b := by rw [cell_of_heap hg]; simpa using hb
   have fc : wr.frozen? ⟨g, kk, none⟩ = false := frozen_of_heap hg
   have hbw := (ButW.refl g wr).setCell kk (.int .u8 7)
   have HNW := Aside0.mk (show (wr.setCell ⟨g, kk, none⟩ (.int .u8 7)).heap[p]? = some (.cells BA 43 (0, 0)) ∧ (wr.setCell ⟨g, kk, none⟩ (.int .u8 7)).heap[r]? = some (.cells CA 43 (0, 0)) ∧ SrcB (wr.setCell ⟨g, kk, none⟩ (.int .u8 7)) B A1 A2 ∧ SrcB (wr.setCell ⟨g, kk, none⟩ (.int .u8 7)) B A3 A4 ∧ Below w.heap.size w (wr.setCell ⟨g, kk, none⟩ (.int .u8 7)) ∧ Over w (wr.setCell ⟨g, kk, none⟩ (.int .u8 7)) top n (some ⟨g, 0, none⟩) from
    ⟨hbw.obj HU.out.1 (by have := HPT.out; omega), hbw.obj HU.out.2.1 (by have := HRT.out; omega), HU.out.2.2.1.but hbw (fun a ha => by have := HA.out.1 a ha; omega) (fun a ha => by have := HA.out.2 a ha; omega), HU.out.2.2.2.1.but hbw (fun a ha => by have := HC.out.1 a ha; omega) (fun a ha => by have := HC.out.2 a ha; omega),
     HU.out.2.2.2.2.1.setCell hlo _, .inr ⟨g, _, rfl, heap_setCell_same wr g kk _ _ _ hg, by simpa using hc, hlo, hhi⟩⟩)
   have HKK := Aside0.mk (And.intro hkk hlt)
   obtain ⟨ko, rfl⟩ : ∃ ko, gk = ko + 1 := ⟨gk - 1, by omega⟩
   clear hg hc hlo hhi hb hbw hkk
   go_wp2_with fail
   go_roundg ko
   case measure => have := HKK.out; omega
   case rel => exact ⟨kk + 1, by go_num, by have := HKK.out; omega, HNW⟩
  ·have hltz : ¬ (kk : Int) < (n : Int) := by omega
   have LA9 := Aside0.mk (HLA.out wr HU.out.1)
   have LC9 := Aside0.mk (HLC.out wr HU.out.2.1)
   have HSQ9 := Aside0.mk (HSF.out wr HU.out.2.2.1 HU.out.2.2.2.1)
   have HBW := Aside0.mk HU.out.2.2.2.2.1
   clear hlt hkk HU
   go_wp2_with (first | ((with_reducible refine at_load 43 (.tmp 4) ?_); refine wpList_loadW (by rfl) 43 (.tmp 4) rfl _ rfl _ (LA9.out) ?_) | ((with_reducible refine at_load 43 (.tmp 6) ?_); refine wpList_loadW (by rfl) 43 (.tmp 6) rfl _ rfl _ (LC9.out) ?_))
   refine HSQ9.out.mono ?_
   rintro e w8 ⟨rfl, hb8⟩
   have B8 := Aside0.mk (below_step HBW.out hb8)
   clear hb8 hltz
   go_wp2_with fail
   refine (works_any w8 (HX.out.below B8.out)).mono ?_
   rintro e w9 ⟨rfl, hb⟩
   have B9 := Aside0.mk (below_step B8.out hb)
   clear hb
   go_wp2_with fail
   go_ret
   exact ⟨rfl, B9.out⟩
end Go.Proofs.YthnpiimiimiijaaGreatDoor.Dir
end
section
namespace Go.Proofs.YthnpiimiimiijaaGreatDoor.PA
open Go.ChangeShapes Go.WideShapes Go.ChangeAt Go.RowKit Go.Deep
open Go.Proofs.YthnpiimiimiijaaGreatDoorW.PrintWords Go.Proofs.YthnpiimiimiijaaGreatDoorW.PrintLast Go.Proofs.YthnpiimiimiijaaGreatDoorW.PrintMore
set_option linter.unusedVariables false
set_option maxRecDepth 100000
instance : Inhabited Dir.AskV := ⟨⟨0, 0, 0, 0⟩⟩
theorem own : ownKnob Tryz.prog.godebug = none := by kernel_rfl
theorem laidOut : laidOutB Tryz.prog = true := by kernel_rfl
section
variable {H : Type} {enc : TypeId × Value → H} {W : World} {base : Nat} {sp : Nat → Bool} {held : Bool}
end
/-! #### the listed variables -/
theorem iface_of_trod {W : World} {base fuel : Nat} {sp : Nat → Bool} {t : TypeId} {ms : Array (String × TypeId)} {cs : List Value} {nm : String} {d : DataW Unit} {p : List MemPlace} (ht : Tryz.prog.underlying t = some (.interface ms))
  (h : DataW.trod (fun _ => ()) Tryz.prog W base sp false fuel t cs = some (.iface nm d, p)) : ∃ tp v, cs = [.iface tp v] := by
 cases fuel with
 | zero => simp [DataW.trod] at h
 | succ n =>
  unfold DataW.trod at h
  rw [ht] at h
  split at h <;> simp_all
theorem laidW_of {W : World} (hs : W.ShapedOpen Tryz.prog) (h : laidMetH Tryz.prog Rows.directLaterRow.laid W) : LaidW W := by
 rw [MakeChecks.laidMetH_plain _ _ _ (by kernel_rfl)] at h
 obtain ⟨ps, ⟨_, _, _, _, _, _, _, _, _, _, ⟨_, _, _, _, _, _, _, _, _, _, ⟨g3, t3, cs3, fu3, p3, q3, hg3, ht3, hv3, hd3, ⟨_, _, _, _, _, _, _, _, _, _, ⟨g5, t5, cs5, fu5, p5, q5, hg5, ht5, hv5, hd5, ⟨g6, t6, cs6, fu6, p6, q6, hg6, ht6, hv6, hd6, _⟩, _⟩, _⟩, _⟩, _⟩, _⟩, _, _⟩ := h
 have ty : ∀ (nm : String) (T g t : Nat), ((Tryz.prog.globalNamed nm).bind fun g => (Tryz.prog.globals[g]?).map (·.type)) = some T → Tryz.prog.globalNamed nm = some g → (Tryz.prog.globals[g]?).map (·.type) = some t → t = T := by
  intro nm T g t h1 h2 h3
  rw [h2, Option.bind_some, h3] at h1
  exact Option.some.inj h1
 obtain rfl := ty _ 261 _ _ (by kernel_rfl) hg3 ht3
 obtain rfl := ty _ 224 _ _ (by kernel_rfl) hg5 ht5
 obtain rfl := ty _ 224 _ _ (by kernel_rfl) hg6 ht6
 refine ⟨hs, ?_, ?_, ?_⟩
 ·have e : Rows.laid_internal_strconv_uint64pow10 = Lib.tabData (H := Unit) .u64 Lib.pow10Tab := by kernel_rfl
  rw [e] at hd3
  have := Lib.cells_of_tab Tryz.underlying261 (e := 183) (by kernel_rfl) (by kernel_rfl) (by kernel_rfl) hd3
  rw [hv3, ← this]
 ·obtain ⟨tp, v, e⟩ := iface_of_trod Tryz.underlying224 hd6
  refine ⟨tp, v, ?_⟩
  rw [hv6]
  congr 1
  rw [← e]
 ·obtain ⟨tp, v, e⟩ := iface_of_trod Tryz.underlying224 hd5
  refine ⟨tp, v, ?_⟩
  rw [hv5]
  congr 1
  rw [← e]
/-! #### the wrap -/
theorem returnsInHanded_both {H : Type} {enc : TypeId × Value → H} {a : Assume} {C : Checked} {os : Os} {f : FuncId} {fn : Func} {s : ChangeSpec} {conds : List PathCond} {apart fresh handsOn again : Bool} {X : World → Array Value → Prop}
  (hX : ∀ (w w' : World) (args : Array Value), w.heap = w'.heap → X w args → X w' args)
  (own : ownKnob C.prog.godebug = none) (started : os.Started) (noInit : C.prog.inits.idxOf? f = none) (hfn : C.prog.funcs[f]? = some fn)
  (witness : ∃ (w : World) (tape : Tape) (i : Input), w.os = os ∧ (w.forCall tape i).Shaped C.prog ∧ i.vars = [] ∧ Input.okWide C.prog (w.forCall tape i) .any w.heap.size f i ∧
   ((s.pre enc C.prog fn conds apart (w.forCall tape i).memory i.args ∧ X (w.forCall tape i).memory i.args) ∧ sizedMet enc C.prog fn (OpenSpec.ofChange s) apart (w.forCall tape i).memory i.args) ∧ a.holds C.prog (lone (Frame.enter C.prog f i.args .normal) [] (w.forCall tape i)))
  (contract : ∀ (W : World) (base : Nat) (args : Array Value) (ds gs : List (DataW H)) (before : List MemPlace),
   (∀ (j : Nat) t v, fn.params[j]? = some t → args[j]? = some v → Value.okWide C.prog W .any base t v) →
   DataW.Whole enc C.prog fn.params.toList s.vars apart W args.toList ds gs before →
   (DataW.weightsEach C.prog (fn.params.toList ++ s.plain.varTypes C.prog) (ds ++ gs)).all (· ≤ reachBytes) = true → X W args →
   W.ShapedOpen C.prog →
   Calls C.prog f args W fun e W' => ∃ v, e = .returned v ∧ s.post enc C.prog fn apart fresh handsOn again W args v W') :
  ReturnsInHanded a C os f .any (fun w args => (s.pre enc C.prog fn conds apart w args ∧ X w args) ∧ sizedMet enc C.prog fn (OpenSpec.ofChange s) apart w args) (s.post enc C.prog fn apart fresh handsOn again) := by
 refine returnsInHanded_of_calls own started noInit witness ?_
 intro w tape i _ hsh _ hok hpre hholds
 obtain ⟨_, _, _, fn', hfn', _, _, _, _, hval⟩ := hok
 have e : fn' = fn := Option.some.inj (hfn'.symm.trans hfn)
 subst e
 obtain ⟨⟨⟨ds, gs, before, hw, hc⟩, hx⟩, hz⟩ := hpre
 have hw' := DataW.Whole.of_heap (w' := w.forCall tape i) (by rfl) hw
 refine (contract (w.forCall tape i) w.heap.size i.args ds gs before hval hw' (hz.weights hw) (hX _ _ _ (by rfl) hx) hsh).mono fun e W' ⟨v, he, hp⟩ => ?_
 subst he
 exact ChangeSpec.post_blind hp
end Go.Proofs.YthnpiimiimiijaaGreatDoor.PA
end
section
namespace Go.Proofs.YthnpiimiimiijaaGreatDoor.PA
open Go.ChangeShapes Go.WideShapes Go.ChangeAt Go.RowKit Go.Deep
open Go.Proofs.YthnpiimiimiijaaGreatDoorW.PrintWords Go.Proofs.YthnpiimiimiijaaGreatDoorW.PrintLast Go.Proofs.YthnpiimiimiijaaGreatDoorW.PrintMore
set_option linter.unusedVariables false
set_option maxRecDepth 100000
theorem cells5 : Tryz.prog.cellsOf 5 = 1 := by kernel_rfl
instance : Inhabited Dir.Key := ⟨Dir.key0⟩
section
variable {H : Type} {enc : TypeId × Value → H} {W : World} {base : Nat} {sp : Nat → Bool} {held : Bool}
/-- A row of things, whose cells are known. -/
def RowOf {α : Type} (f : α → List Value) (Pr : α → Prop) (ts k by_ : Nat) (W : World) (cs : List Value) (x : DataW H × List MemPlace) : Prop :=
 ∃ (a : Option Addr) (len cap : Nat) (l : List α), cs = [.slice a len cap] ∧ l.length = len ∧ Dir.SrcAt W a len k (l.flatMap f) ∧ (∀ d ∈ l, Pr d) ∧ len ≤ maxLen ∧ ((∀ n ∈ x.1.weights Tryz.prog ts, n ≤ reachBytes) → len * by_ ≤ 140737488351232)
/-- A slice whose elements are cells that are known. -/
theorem rows_of_trod {α : Type} [Inhabited α] (f : α → List Value) (Pr : α → Prop) {ts te k by_ : Nat} (hk : ∀ x, (f x).length = k) (ht : Tryz.prog.underlying ts = some (.slice te)) (hc : Tryz.prog.cellsOf te = k) (hby : Tryz.prog.bytesOf te = by_)
  (hel : ∀ {n : Nat} {cs : List Value} {x : DataW H × List MemPlace}, DataW.trod enc Tryz.prog W base sp held n te cs = some x → ∃ d : α, cs = f d ∧ Pr d)
  {n : Nat} {cs : List Value} {x : DataW H × List MemPlace} (h : DataW.trod enc Tryz.prog W base sp held n ts cs = some x) :
  RowOf f Pr ts k by_ W cs x := by
 rcases DataW.trod_slice ht h with ⟨hcs, _⟩ | ⟨ad, len, cap, elems, rest, m, _, hcs, hxe, _, hlc, hcm, hle, hx, _, _⟩
 ·exact ⟨none, 0, 0, [], hcs, rfl, ⟨by simp, fun _ => rfl, fun a ha => (by cases ha)⟩, by simp, Nat.zero_le _, fun _ => by simp⟩
 ·obtain ⟨S, hS⟩ := choose_lt (α := α) (n := len) (p := fun i d => (∀ j u, (f d)[j]? = some u → W.cell? (ad.add (i * k + j)) = some u) ∧ Pr d) (fun i hi => by
   have hxi := hx i hi
   rw [List.getElem?_eq_getElem (by rw [hle]; exact hi), hc] at hxi
   obtain ⟨cs', h1, h2⟩ := Option.bind_eq_some_iff.1 hxi
   obtain ⟨d, rfl, hp⟩ := hel h2
   obtain ⟨_, _, hcell⟩ := World.cells?_some h1
   refine ⟨d, fun j u hj => ?_, hp⟩
   have hj5 : j < k := by rw [← hk d]; exact (List.getElem?_eq_some_iff.1 hj).1
   have := hcell j hj5
   rw [Deep.add_add] at this
   exact this.trans hj)
  have hlen : ((List.range len).map S).length = len := by simp
  have hflat : ∀ l : List α, (l.flatMap f).length = l.length * k := fun l => by
   induction l with
   | nil => simp
   | cons a l ih => rw [List.flatMap_cons, List.length_append, hk, ih, List.length_cons, Nat.add_mul]; omega
  refine ⟨some ad, len, cap, (List.range len).map S, hcs, hlen, ⟨by rw [hflat, hlen], fun e => (by cases e), fun a ha j u hj => ?_⟩, fun d hd => ?_, by omega, fun hw => ?_⟩
  ·cases ha
   have hjl : j < len * k := by have := (List.getElem?_eq_some_iff.1 hj).1; rwa [hflat, hlen] at this
   have hkp : 0 < k := by rcases Nat.eq_zero_or_pos k with e | e; (subst e; omega); exact e
   have hq : j / k < len := Nat.div_lt_of_lt_mul (by rw [Nat.mul_comm]; exact hjl)
   have hr : j % k < k := Nat.mod_lt _ hkp
   have e1 := (hS (j / k) hq).1 (j % k) ((f (S (j / k)))[j % k]'(by rw [hk]; exact hr)) (List.getElem?_eq_getElem _)
   have e2 : ((List.range len).map S)[j / k]? = some (S (j / k)) := by simp [hq]
   have e3 := Dir.flatMap_at f k hk _ (j / k) (S (j / k)) e2 (j % k) _ (List.getElem?_eq_getElem (by rw [hk]; exact hr))
   rw [Nat.div_add_mod' j k] at e1 e3
   rw [e1]
   rw [e3] at hj
   exact hj
  ·obtain ⟨i, hi, rfl⟩ := List.mem_map.1 hd
   exact (hS i (by simpa using hi)).2
  ·have h1 := hw ((elems.length + rest.length) * by_) (by rw [hxe]; simp [DataW.weights, ht, hby])
   have h2 : len * by_ ≤ (elems.length + rest.length) * by_ := Nat.mul_le_mul_right _ (by omega)
   exact Nat.le_trans h2 h1
end
end Go.Proofs.YthnpiimiimiijaaGreatDoor.PA
end
section
namespace Go.Proofs.YthnpiimiimiijaaGreatDoor.PA
open Go.ChangeShapes Go.WideShapes Go.ChangeAt Go.RowKit Go.Deep
open Go.Proofs.YthnpiimiimiijaaGreatDoorW.PrintWords Go.Proofs.YthnpiimiimiijaaGreatDoorW.PrintLast Go.Proofs.YthnpiimiimiijaaGreatDoorW.PrintMore
set_option linter.unusedVariables false
set_option maxRecDepth 100000
theorem bytes5 : Tryz.prog.bytesOf 5 = 1 := by kernel_rfl
section
variable {H : Type} {enc : TypeId × Value → H} {W : World} {base : Nat} {sp : Nat → Bool} {held : Bool}
theorem byte_of_trod {n : Nat} {cs : List Value} {x : DataW H × List MemPlace} (h : DataW.trod enc Tryz.prog W base sp held n 5 cs = some x) : ∃ b : UInt8, cs = [Dir.byteV b] := by
 obtain ⟨z, e, _, f⟩ := DataW.trod_int Tryz.underlying5 h
 have hz := bounds_u8 f
 refine ⟨UInt8.ofNat z.toNat, ?_⟩
 rw [e]
 unfold Dir.byteV
 rw [UInt8.toNat_ofNat_of_lt' (by show z.toNat < 256; omega), Int.toNat_of_nonneg hz.1]
theorem flat_byte (l : List UInt8) : l.flatMap (fun b => [Dir.byteV b]) = l.map Dir.byteV := by
 induction l with
 | nil => rfl
 | cons b l ih => rw [List.flatMap_cons, ih]; rfl
theorem bytes_of_trod {n : Nat} {cs : List Value} {x : DataW H × List MemPlace} (h : DataW.trod enc Tryz.prog W base sp held n 67 cs = some x) :
  ∃ (a : Option Addr) (len cap : Nat) (l : List UInt8), cs = [.slice a len cap] ∧ l.length = len ∧ Dir.SrcAt W a len 1 (l.map Dir.byteV) ∧ len ≤ maxLen ∧ ((∀ n ∈ x.1.weights Tryz.prog 67, n ≤ reachBytes) → len * 1 ≤ 140737488351232) := by
 obtain ⟨a, len, cap, l, h1, h2, h3, -, h4, h5⟩ := rows_of_trod (α := UInt8) (fun b => [Dir.byteV b]) (fun _ => True) (k := 1) (by_ := 1) (fun _ => rfl) Tryz.underlying67 cells5 bytes5 (fun h => by obtain ⟨d, hd⟩ := byte_of_trod h; exact ⟨d, hd, trivial⟩) h
 refine ⟨a, len, cap, l, h1, h2, ?_, h4, h5⟩
 rw [← flat_byte l]
 exact h3
end
end Go.Proofs.YthnpiimiimiijaaGreatDoor.PA
end
