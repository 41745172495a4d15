/- chapter: a book of two devices. Deltas in memory; the way through a difference. A list of peers without its first. Maps of peers, by number. Of a delta: check. What Apply does, plain. -/
import Derived.Test.YtmgbaefgcdglpaaGreatDoorNc25
import Derived.MapKept
import Derived.ChangeMaps3
import Derived.ChangeMaps4
import Derived.Test.YtmgbaefgcdglpaaGreatDoorNc19
import Derived.Test.YtmgbaefgcdglpaaGreatDoorNc20
import Derived.Test.YtmgbaefgcdglpaaGreatDoorNc17
section
namespace Go.Proofs.YtmgbaefgcdglpaaGreatDoor.Net
open Go Go.RowKit Go.Proofs Go.Proofs.YtmgbaefgcdglpaaGreatDoorW.PrintWords Go.Proofs.YtmgbaefgcdglpaaGreatDoorW.PrintLast Go.Proofs.YtmgbaefgcdglpaaGreatDoorW.PrintMore Go.Proofs.YtmgbaefgcdglpaaGreatDoor.Dir
set_option linter.unusedVariables false
set_option linter.unusedSimpArgs false
def keyU (b : UInt8) : Key := ⟨b :: List.replicate 31 0, by simp⟩
def chDev1 : Dev := ⟨1, keyU 1, 50, false⟩
def chDev2 : Dev := ⟨2, keyU 2, 60, false⟩
def chapB : Book := ⟨3, 0, [chDev1, chDev2], [], [97, 108, 108, 111, 119, 32, 49, 32, 62, 32, 50, 32, 56, 48, 45, 57, 48]⟩
theorem chapFlat : flatD chapB.devs = encD chDev1 ++ encD chDev2 := by unfold flatD chapB; simp
set_option maxRecDepth 100000 in
theorem buildK1 (b : UInt8) (w : World) : (Instr.build 28 #[(0, byteV b)]).run Tryz.prog w = .ok (.agg (encK (keyU b)).toArray) w := by
 have hz := Tryz.zeroValue28 w
 simp only [Instr.build, Sem.run_bind, hz, Result.andThen_ok, run_underlying Tryz.underlying28, Value.cells]
 simp [Tryz.sizeOf5, Instr.fill, Value.cells, go_sem]
 rfl
set_option maxRecDepth 100000 in
theorem buildD1 (w : World) : (Instr.build 85 #[(0, .int .i64 1), (1, .agg (encK (keyU 1)).toArray), (2, .int .i64 50)]).run Tryz.prog w = .ok (.agg (encD chDev1).toArray) w := run_buildD w _ chDev1 (by first | rfl | kernel_rfl)
set_option maxRecDepth 100000 in
theorem buildD2 (w : World) : (Instr.build 85 #[(0, .int .i64 2), (1, .agg (encK (keyU 2)).toArray), (2, .int .i64 60)]).run Tryz.prog w = .ok (.agg (encD chDev2).toArray) w := run_buildD w _ chDev2 (by first | rfl | kernel_rfl)
theorem buildRow (w : World) : (Instr.buildSlice 22 2 #[(0, .agg (encD chDev1).toArray), (1, .agg (encD chDev2).toArray)]).run Tryz.prog w = .ok (.slice (some ⟨w.heap.size, 0, none⟩) 2 2) (w.alloc (.cells (encD chDev1 ++ encD chDev2).toArray 85)) :=
 run_buildSlice2 Tryz.prog w 22 85 35 _ Tryz.underlying22 Tryz.sizeOf85 Tryz.zeroValue85 (by decide) (by decide) _ _ (encD_len _) (encD_len _)
theorem buildBook (w : World) (A : Option Addr) : (Instr.build 25 #[(0, .int .i64 3), (2, .slice A 2 2), (4, .string ⟨#[97, 108, 108, 111, 119, 32, 49, 32, 62, 32, 50, 32, 56, 48, 45, 57, 48]⟩)]).run Tryz.prog w = .ok (.agg (bookCells chapB A 2 none 0).toArray) w := run_buildB w _ _ rfl
set_option maxHeartbeats 4000000 in
set_option maxRecDepth 100000 in
theorem chapter47 (w : World) : Calls Tryz.prog 47 #[] w fun e w' => ∃ A, e = .returned (.agg (bookCells chapB A 2 none 0).toArray) ∧ SrcB w' chapB A none ∧ Below w.heap.size w w' := by
 obtain ⟨b, hb⟩ : ∃ b, b = w.heap.size := ⟨_, rfl⟩
 obtain ⟨zB, hzB⟩ : ∃ zB : Array Value, zB = #[.int .i64 0, .int .i64 0, .slice none 0 0, .slice none 0 0, .string ⟨#[]⟩] := ⟨_, rfl⟩
 obtain ⟨W0, hW0⟩ : ∃ W0, W0 = w.alloc (.cells zB 25) := ⟨_, rfl⟩
 obtain ⟨W1, hW1⟩ : ∃ W1, W1 = W0.alloc (.cells (encD chDev1 ++ encD chDev2).toArray 85) := ⟨_, rfl⟩
 have hs0 : W0.heap.size = b + 1 := by rw [hW0, hb]; simp
 have hb0 : Below w.heap.size w W0 := by rw [hW0]; exact (Below.refl _ w).alloc (Nat.le_refl _) _
 have hb1 : Below w.heap.size w W1 := by rw [hW1]; exact hb0.alloc hb0.size _
 have q0 : W1.heap[b]? = some (.cells zB.toList.toArray 25 (0, 0)) := by rw [hW1, Below.heap_alloc _ _ _ (by omega), hW0, hb, Array.toArray_toList]; exact heap_alloc_new w _
 have q1 : W1.heap[b + 1]? = some (.cells (encD chDev1 ++ encD chDev2).toArray 85 (0, 0)) := by rw [hW1, ← hs0]; exact heap_alloc_new W0 _
 have HR := Aside0.mk (buildRow W0)
 rw [← hW1, hs0] at HR
 have K1 := Aside0.mk (buildK1 1 W0)
 have K2 := Aside0.mk (buildK1 2 W0)
 have D1 := Aside0.mk (buildD1 W0)
 have D2 := Aside0.mk (buildD2 W0)
 have BB := Aside0.mk (buildBook W1 (some ⟨b + 1, 0, none⟩))
 have ST := Aside0.mk (store_full W1 25 5 b Tryz.sizeOf25 zB.toList (bookCells chapB (some ⟨b + 1, 0, none⟩) 2 none 0) q0 (by rw [hzB]; rfl) rfl (by
  intro u hu
  unfold bookCells at hu
  simp only [List.mem_cons, List.not_mem_nil, or_false] at hu
  rcases hu with rfl | rfl | rfl | rfl | rfl <;> rfl))
 have HF := Aside0.mk (setRow_heap W1 b _ (bookCells chapB (some ⟨b + 1, 0, none⟩) 2 none 0).toArray 25 (0, 0) q0)
 have HE := Aside0.mk (show SrcB (W1.setRow b (bookCells chapB (some ⟨b + 1, 0, none⟩) 2 none 0).toArray) chapB (some ⟨b + 1, 0, none⟩) none ∧ Below w.heap.size w (W1.setRow b (bookCells chapB (some ⟨b + 1, 0, none⟩) 2 none 0).toArray) from ⟨⟨by rw [chapFlat]; exact src_row (by rw [setRow_other W1 b (b + 1) _ (by omega)]; exact q1) (by rw [List.length_append, encD_len, encD_len]; rfl) (by decide), src_none, by decide, by decide⟩, below_setRow hb1 (by omega) _⟩)
 obtain ⟨X, hX⟩ : ∃ X, X = (bookCells chapB (some ⟨b + 1, 0, none⟩) 2 none 0).toArray := ⟨_, rfl⟩
 obtain ⟨k1, hk1⟩ : ∃ k1, k1 = (encK (keyU 1)).toArray := ⟨_, rfl⟩
 obtain ⟨k2, hk2⟩ : ∃ k2, k2 = (encK (keyU 2)).toArray := ⟨_, rfl⟩
 obtain ⟨d1, hd1⟩ : ∃ d1, d1 = (encD chDev1).toArray := ⟨_, rfl⟩
 obtain ⟨d2, hd2⟩ : ∃ d2, d2 = (encD chDev2).toArray := ⟨_, rfl⟩
 rw [← hX] at BB ST HF HE
 have HX := Aside0.mk hX
 rw [← hk1] at K1 D1
 rw [← hk2] at K2 D2
 rw [← hd1] at D1
 rw [← hd2] at D2
 rw [← hd1, ← hd2] at HR
 clear hX hk1 hk2 hd1 hd2 q0 q1 hb0 hb1 hs0 hW1
 go_enter Tryz.func47, Tryz.ntmps47
 go_upto_region 1 with fail
 change Code.wp _ _ _ _ (w.alloc (.cells #[.int .i64 0, .int .i64 0, .slice none 0 0, .slice none 0 0, .string ⟨#[]⟩] 25))
 rw [← hzB, ← hW0, ← hb]
 clear hzB hW0 hb
 go_wp2_with (first | ((with_reducible refine at_build 28 #[(0, .const (.int .u8 1))] ?_); refine wpList_valueW (by rfl) (.agg k1) W0 (exec_build 28 _ _ rfl _ #[(0, .int .u8 1)] (by simp only [List.map_toArray, List.map_cons, List.map_nil]; rfl) _ K1.out) ?_) | ((with_reducible refine at_build 85 #[(0, .const (.int .i64 1)), (1, .tmp 1), (2, .const (.int .i64 50))] ?_); refine wpList_valueW (by rfl) (.agg d1) W0 (exec_build 85 _ _ rfl _ #[(0, .int .i64 1), (1, .agg k1), (2, .int .i64 50)] (by simp only [List.map_toArray, List.map_cons, List.map_nil]; rfl) _ D1.out) ?_) | ((with_reducible refine at_build 28 #[(0, .const (.int .u8 2))] ?_); refine wpList_valueW (by rfl) (.agg k2) W0 (exec_build 28 _ _ rfl _ #[(0, .int .u8 2)] (by simp only [List.map_toArray, List.map_cons, List.map_nil]; rfl) _ K2.out) ?_) | ((with_reducible refine at_build 85 #[(0, .const (.int .i64 2)), (1, .tmp 3), (2, .const (.int .i64 60))] ?_); refine wpList_valueW (by rfl) (.agg d2) W0 (exec_build 85 _ _ rfl _ #[(0, .int .i64 2), (1, .agg k2), (2, .int .i64 60)] (by simp only [List.map_toArray, List.map_cons, List.map_nil]; rfl) _ D2.out) ?_) | ((with_reducible refine at_bslice2 22 (.tmp 2) (.tmp 4) ?_); refine wpList_buildSlice2 rfl 22 (.tmp 2) (.tmp 4) rfl _ _ rfl rfl _ _ HR.out ?_) | ((with_reducible refine at_build 25 #[(0, .const (.int .i64 3)), (2, .tmp 5), (4, .const (.string ⟨#[97, 108, 108, 111, 119, 32, 49, 32, 62, 32, 50, 32, 56, 48, 45, 57, 48]⟩))] ?_); refine wpList_valueW (by rfl) (.agg X) W1 (exec_build 25 _ _ rfl _ #[(0, .int .i64 3), (2, .slice (some ⟨b + 1, 0, none⟩) 2 2), (4, .string ⟨#[97, 108, 108, 111, 119, 32, 49, 32, 62, 32, 50, 32, 56, 48, 45, 57, 48]⟩)] (by simp only [List.map_toArray, List.map_cons, List.map_nil]; rfl) _ BB.out) ?_) | ((with_reducible refine at_store 25 (.tmp 0) (.tmp 6) ?_); refine wpList_storeK rfl 25 (.tmp 0) (.tmp 6) rfl rfl _ _ rfl rfl _ ST.out ?_))
 try simp only [Exit.inBlock, Exit.then]
 refine bodyPost_ret (results_cell_row rfl _ _ b 25 _ (0, 0) _ rfl HF.out Tryz.underlying25 rfl (by rw [HX.out]; kernel_rfl)) rfl ?_
 exact ⟨some ⟨b + 1, 0, none⟩, by rw [HX.out], HE.out.1, HE.out.2⟩
end Go.Proofs.YtmgbaefgcdglpaaGreatDoor.Net
end
section
namespace Go.Proofs.YtmgbaefgcdglpaaGreatDoor.Net
open Go Go.RowKit Go.Proofs Go.Proofs.YtmgbaefgcdglpaaGreatDoorW.PrintWords Go.Proofs.YtmgbaefgcdglpaaGreatDoorW.PrintLast Go.Proofs.YtmgbaefgcdglpaaGreatDoorW.PrintMore Go.Proofs.YtmgbaefgcdglpaaGreatDoor.Dir
set_option linter.unusedVariables false
set_option linter.unusedSimpArgs false
def delV (f t c n : Int) (k : Key) (e : Int) (g s : Value) : List Value := .int .i64 f :: .int .i64 t :: .int .i64 c :: .int .i64 n :: (encK k ++ [.int .i64 e, g, s])
theorem delV_len (f t c n : Int) (k : Key) (e : Int) (g s : Value) : (delV f t c n k e g s).length = 39 := by unfold delV; simp [encK_len]
theorem delV_one (f t c n : Int) (k : Key) (e : Int) (g s : Value) (hg : g.oneCell' = true) (hs : s.oneCell' = true) : ∀ u ∈ delV f t c n k e g s, u.oneCell' = true := by
 intro u hu
 unfold delV at hu
 simp only [List.mem_cons, List.mem_append, List.not_mem_nil, or_false] at hu
 rcases hu with rfl | rfl | rfl | rfl | hu | rfl | rfl | rfl
 ·rfl
 ·rfl
 ·rfl
 ·rfl
 ·exact encK_one k u hu
 ·rfl
 ·exact hg
 ·exact hs
theorem delV37 (f t c n : Int) (k : Key) (e : Int) (g s : Value) : (delV f t c n k e g s)[37]? = some g := by
 unfold delV
 rw [List.getElem?_cons_succ, List.getElem?_cons_succ, List.getElem?_cons_succ, List.getElem?_cons_succ, List.getElem?_append_right (by rw [encK_len]; decide), encK_len]; rfl
theorem delV38 (f t c n : Int) (k : Key) (e : Int) (g s : Value) : (delV f t c n k e g s)[38]? = some s := by
 unfold delV
 rw [List.getElem?_cons_succ, List.getElem?_cons_succ, List.getElem?_cons_succ, List.getElem?_cons_succ, List.getElem?_append_right (by rw [encK_len]; decide), encK_len]; rfl
theorem delV_set37 (f t c n : Int) (k : Key) (e : Int) (g s x : Value) : (delV f t c n k e g s).set 37 x = delV f t c n k e x s := by
 unfold delV
 rw [List.set_cons_succ, List.set_cons_succ, List.set_cons_succ, List.set_cons_succ, List.set_append_right _ _ (by rw [encK_len]; decide), encK_len]; rfl
theorem delV_set38 (f t c n : Int) (k : Key) (e : Int) (g s x : Value) : (delV f t c n k e g s).set 38 x = delV f t c n k e g x := by
 unfold delV
 rw [List.set_cons_succ, List.set_cons_succ, List.set_cons_succ, List.set_cons_succ, List.set_append_right _ _ (by rw [encK_len]; decide), encK_len]; rfl
abbrev nilV : Value := .slice none 0 0
def places55 : Array (Nat × Nat) := #[(0, 1), (1, 1), (2, 1), (3, 1), (4, 32), (36, 1), (37, 1), (38, 1)]
set_option maxRecDepth 100000 in
theorem zero55 (w : World) : (zeroValue 55).run Tryz.prog w = .ok (.agg (delV 0 0 0 0 key0 0 nilV nilV).toArray) w := by first | exact Tryz.zeroValue55 w | (rw [Tryz.zeroValue55]; first | rfl | kernel_rfl)
set_option maxRecDepth 100000 in
theorem run_build55 (w : World) (parts : Array (Nat × Value)) (cs : Array Value) (hf : Instr.fill (places55[·]?) (delV 0 0 0 0 key0 0 nilV nilV).toArray parts.toList = some cs) : (Instr.build 55 parts).run Tryz.prog w = .ok (.agg cs) w := by
 have hz := zero55 w
 unfold places55 at hf
 generalize delV 0 0 0 0 key0 0 nilV nilV = Z at hf hz
 simp only [Instr.build, Sem.run_bind, hz, Result.andThen_ok, run_underlying Tryz.underlying55, Value.cells]
 simp only [List.mapM_toArray, List.mapM_cons, List.mapM_nil, Sem.run_bind, Sem.run_map, Sem.run_pure, Result.andThen_ok, Tryz.sizeOf3, Tryz.sizeOf28, Tryz.sizeOf53, Tryz.sizeOf29, Functor.map]
 have hb : ∀ {α β : Type} (x : Sem α) (f : α → Sem β), Sem.bind x f = x >>= f := fun _ _ => rfl
 simp only [hb, Sem.run_bind, Sem.run_pure, Result.andThen_ok, Tryz.sizeOf3, Tryz.sizeOf28, Tryz.sizeOf53, Tryz.sizeOf29, Function.comp]
 change ((Result.ok (#[(0, 1), (1, 1), (2, 1), (3, 1), (4, 32), (36, 1), (37, 1), (38, 1)] : Array (Nat × Nat)) w).andThen fun a w' => _) = _
 simp only [Result.andThen_ok]
 rw [hf]
 rfl
theorem build55z (w : World) : (Instr.build 55 #[]).run Tryz.prog w = .ok (.agg (delV 0 0 0 0 key0 0 nilV nilV).toArray) w := run_build55 w _ _ rfl
theorem build55 (w : World) (f t c n : Int) (k : Key) (e : Int) : (Instr.build 55 #[(0, .int .i64 f), (1, .int .i64 t), (2, .int .i64 c), (3, .int .i64 n), (4, .agg (encK k).toArray), (5, .int .i64 e)]).run Tryz.prog w = .ok (.agg (delV f t c n k e nilV nilV).toArray) w := by
 refine run_build55 w _ _ ?_
 refine (fill_at _ (delV 0 0 0 0 key0 0 nilV nilV) (delV f 0 0 0 key0 0 nilV nilV) 0 _ _ 0 1 rfl rfl (by simp [delV_len]) rfl).trans ?_
 refine (fill_at _ (delV f 0 0 0 key0 0 nilV nilV) (delV f t 0 0 key0 0 nilV nilV) 1 _ _ 1 1 rfl rfl (by simp [delV_len]) rfl).trans ?_
 refine (fill_at _ (delV f t 0 0 key0 0 nilV nilV) (delV f t c 0 key0 0 nilV nilV) 2 _ _ 2 1 rfl rfl (by simp [delV_len]) rfl).trans ?_
 refine (fill_at _ (delV f t c 0 key0 0 nilV nilV) (delV f t c n key0 0 nilV nilV) 3 _ _ 3 1 rfl rfl (by simp [delV_len]) rfl).trans ?_
 refine (fill_at _ (delV f t c n key0 0 nilV nilV) (delV f t c n k 0 nilV nilV) 4 _ _ 4 32 rfl (by simp [Value.cells, encK_len]) (by simp [delV_len]) ?_).trans ?_
 ·exact splice_mid [.int .i64 f, .int .i64 t, .int .i64 c, .int .i64 n] (encK key0) [.int .i64 0, nilV, nilV] (encK k) 4 rfl (by rw [encK_len, encK_len])
 refine (fill_at _ (delV f t c n k 0 nilV nilV) (delV f t c n k e nilV nilV) 5 _ _ 36 1 rfl rfl (by simp [delV_len]) ?_).trans rfl
 have := splice_mid (.int .i64 f :: .int .i64 t :: .int .i64 c :: .int .i64 n :: encK k) [.int .i64 0] [nilV, nilV] [.int .i64 e] 36 (by simp [encK_len]) rfl
 simpa [delV, Value.cells] using this
abbrev kInt : Kd Int := Kd.int .i64
structure OnD (a b : NMap) (w w5 : World) (b6 : Nat) (g : List Int) (s : List Peer) (W : World) : Prop where
 lo : Below w.heap.size w W
 kp : KeepBut w5 W b6 none
 row : ∃ vg vs, W.heap[b6]? = some (.cells (delV a.ver b.ver b.clock b.node b.key b.exp vg vs).toArray 55 (0, 0)) ∧ kInt.R 3 W w5.heap.size (fun k => w5.heap.size ≤ k) vg g ∧ kPeer.R 48 W w5.heap.size (fun k => w5.heap.size ≤ k) vs s
theorem OnD.grow {a b : NMap} {w w5 W W' : World} {b6 : Nat} {g : List Int} {s : List Peer} (h : OnD a b w w5 b6 g s W) (hb : Below W.heap.size W W') : OnD a b w w5 b6 g s W' := by
 obtain ⟨vg, vs, h1, h2, h3⟩ := h.row
 refine ⟨h.lo.trans (hb.mono h.lo.size), ⟨Nat.le_trans h.kp.1 hb.size, fun i hi hg hr => ?_⟩, vg, vs, roomN h1 hb, Kd.R_below h2 hb, Kd.R_below h3 hb⟩
 rw [hb.block i (Nat.lt_of_lt_of_le hi h.kp.1)]
 exact h.kp.2 i hi hg hr
theorem row_block {α : Type} {d : Kd α} {e base : Nat} {ok : Nat → Prop} {w : World} {v : Value} {xs : List α} (h : d.R e w base ok v xs) {k : Nat} (hk : v.ownBlock = some k) : ∃ q, q ∈ e :: d.E ∧ ∃ cells, w.heap[k]? = some (.cells cells q (0, 0)) := ((Kd.R_bound h).1 k hk).2.2.2
theorem OnD.gone {a b : NMap} {w w5 W w1 : World} {b6 : Nat} {g : List Int} {s : List Peer} {x : Int} {vg vs v1 : Value} (h : OnD a b w w5 b6 g s W) (hb : w.heap.size ≤ b6) (h5 : b6 < w5.heap.size)
  (hrow : W.heap[b6]? = some (.cells (delV a.ver b.ver b.clock b.node b.key b.exp vg vs).toArray 55 (0, 0))) (hG : kInt.R 3 W w5.heap.size (fun k => w5.heap.size ≤ k) vg g) (hS : kPeer.R 48 W w5.heap.size (fun k => w5.heap.size ≤ k) vs s)
  (hR : kInt.R 3 w1 w5.heap.size (fun k => w5.heap.size ≤ k) v1 (g ++ [x])) (hbel : Below w5.heap.size W w1) (hgr : W.grownBy w1 vg.ownBlock) : OnD a b w w5 b6 (g ++ [x]) s (w1.setCell ⟨b6, 37, none⟩ v1) := by
 have hr1 := (hbel.block b6 h5).trans hrow
 have hS1 : kPeer.R 48 w1 w5.heap.size (fun k => w5.heap.size ≤ k) vs s := by
  cases ho : vg.ownBlock with
  | none => rw [ho] at hgr; exact Kd.R_grown hS hgr (fun k _ e => by cases e)
  | some k0 =>
   rw [ho] at hgr
   obtain ⟨q, hq, cells, hc⟩ := row_block hG ho
   have hq : q ∈ [3] := hq
   have hq : q = 3 := by simpa using hq
   subst hq
   exact Kd.R_mono (Kd.R_grown (Kd.R_types hS hc (by decide)) hgr (fun k hk e => hk.2 (Option.some.inj e))) (fun _ hk => hk.1)
 refine ⟨(h.lo.trans (hbel.mono (by omega))).setCell hb _, ⟨by simpa using Nat.le_trans h.kp.1 hbel.size, fun i hi hg hr => ?_⟩, v1, vs, ?_, Kd.R_far hR (fun k hk => by show k ≠ b6; omega) v1, Kd.R_far hS1 (fun k hk => by show k ≠ b6; omega) v1⟩
 ·rw [Below.heap_setCell _ _ _ _ hg, hbel.block i hi]
  exact h.kp.2 i hi hg hr
 ·have := Go.heap_setCell_same w1 b6 37 _ _ v1 hr1
  rw [this]
  simp only [List.setIfInBounds_toArray, delV_set37]
theorem OnD.put {a b : NMap} {w w5 W w1 : World} {b6 : Nat} {g : List Int} {s : List Peer} {x : Peer} {vg vs v1 : Value} (h : OnD a b w w5 b6 g s W) (hb : w.heap.size ≤ b6) (h5 : b6 < w5.heap.size)
  (hrow : W.heap[b6]? = some (.cells (delV a.ver b.ver b.clock b.node b.key b.exp vg vs).toArray 55 (0, 0))) (hG : kInt.R 3 W w5.heap.size (fun k => w5.heap.size ≤ k) vg g) (hS : kPeer.R 48 W w5.heap.size (fun k => w5.heap.size ≤ k) vs s)
  (hR : kPeer.R 48 w1 w5.heap.size (fun k => w5.heap.size ≤ k) v1 (s ++ [x])) (hbel : Below w5.heap.size W w1) (hgr : W.grownBy w1 vs.ownBlock) : OnD a b w w5 b6 g (s ++ [x]) (w1.setCell ⟨b6, 38, none⟩ v1) := by
 have hr1 := (hbel.block b6 h5).trans hrow
 have hG1 : kInt.R 3 w1 w5.heap.size (fun k => w5.heap.size ≤ k) vg g := Kd.R_grown2 hG rfl hgr (fun k hk => by
  obtain ⟨q, hq, cells, hc⟩ := row_block hS hk
  have hq2 : 3 ≠ q := by
   intro e
   subst e
   revert hq
   decide
  exact Kd.R_ne hG hc hq2)
 refine ⟨(h.lo.trans (hbel.mono (by omega))).setCell hb _, ⟨by simpa using Nat.le_trans h.kp.1 hbel.size, fun i hi hg hr => ?_⟩, vg, v1, ?_, Kd.R_far hG1 (fun k hk => by show k ≠ b6; omega) v1, Kd.R_far hR (fun k hk => by show k ≠ b6; omega) v1⟩
 ·rw [Below.heap_setCell _ _ _ _ hg, hbel.block i hi]
  exact h.kp.2 i hi hg hr
 ·have := Go.heap_setCell_same w1 b6 38 _ _ v1 hr1
  rw [this]
  simp only [List.setIfInBounds_toArray, delV_set38]
end Go.Proofs.YtmgbaefgcdglpaaGreatDoor.Net
end
section
namespace Go.Proofs.YtmgbaefgcdglpaaGreatDoor.Net
open Go Go.RowKit Go.Proofs Go.Proofs.YtmgbaefgcdglpaaGreatDoorW.PrintWords Go.Proofs.YtmgbaefgcdglpaaGreatDoorW.PrintLast Go.Proofs.YtmgbaefgcdglpaaGreatDoorW.PrintMore Go.Proofs.YtmgbaefgcdglpaaGreatDoor.Dir
set_option linter.unusedVariables false
set_option linter.unusedSimpArgs false
theorem und29 : Tryz.prog.underlying 29 = some (.slice (Tryz.prog.elem 29)) := by kernel_rfl
theorem siz29 (W : World) : (sizeOf (Tryz.prog.elem 29)).run Tryz.prog W = .ok 36 W := by rw [show Tryz.prog.elem 29 = 48 by kernel_rfl]; exact Tryz.sizeOf48 W
theorem slice29 (A : Option Addr) (n c : Nat) (h1 : 1 ≤ n) (hc : n ≤ c) (W : World) : (Instr.slice 29 (.slice A n c) (some (.int .i64 1)) none none).run Tryz.prog W = .ok (.slice (if c = 1 then A else A.map (·.add 36)) (n - 1) (c - 1)) W := by
 have := run_slice_l W 29 A n c und29 .i64 1 (by omega) (by omega)
 rw [this, siz29]
 simp [sliced]
theorem PsAt.tail {w : World} {A : Option Addr} {c : Nat} {p : Peer} {l : List Peer} (h : PsAt w A c (p :: l)) : PsAt w (if c = 1 then A else A.map (·.add 36)) (c - 1) l := by
 have h1 := h.1
 rw [List.length_cons] at h1
 have hl := h.len
 rw [List.length_cons] at hl
 by_cases hc : c = 1
 ·rw [if_pos hc]
  have : l = [] := List.length_eq_zero_iff.1 (by omega)
  subst this
  exact PsAt.nil _ _ _
 ·rw [if_neg hc]
  refine ⟨by omega, rfl, by omega, fun h0 => ?_⟩
  obtain ⟨g, o, -, -, -, -, hA, -, -⟩ := h.get (j := 0) (p := p) rfl
  obtain ⟨ad, hA2, hcell⟩ := h.2.2.2 (by simp)
  rw [hA] at hA2
  cases hA2
  subst hA
  refine ⟨_, rfl, fun j q hj => ?_⟩
  obtain ⟨cs, hl, hK, hc2⟩ := hcell (j + 1) q (by simpa using hj)
  refine ⟨cs, hl, hK, fun i u hu => ?_⟩
  have h3 := hc2 i u hu
  have hs : kPeer.sz = 36 := rfl
  rw [hs] at h3 ⊢
  rw [Dir.add_at] at h3
  show w.cell? (((⟨g, o, none⟩ : Addr).add 36).add (j * 36 + i)) = _
  rw [Dir.add_at, Dir.add_at, show o + 36 + (j * 36 + i) = o + ((j + 1) * 36 + i) by omega]
  exact h3
end Go.Proofs.YtmgbaefgcdglpaaGreatDoor.Net
end
section
namespace Go.Proofs.YtmgbaefgcdglpaaGreatDoor.Net
open Go Go.RowKit Go.Proofs Go.Proofs.YtmgbaefgcdglpaaGreatDoorW.PrintWords Go.Proofs.YtmgbaefgcdglpaaGreatDoorW.PrintLast Go.Proofs.YtmgbaefgcdglpaaGreatDoorW.PrintMore Go.Proofs.YtmgbaefgcdglpaaGreatDoor.Dir
set_option linter.unusedVariables false
set_option linter.unusedSimpArgs false
theorem und110 : Tryz.prog.underlying 110 = some (.map 3 48) := by kernel_rfl
theorem und3 : Tryz.prog.underlying 3 = some (.int .i64) := by kernel_rfl
def IMap (w : World) (b : Nat) (f : Int → Option Value) : Prop :=
 ∃ es clock, w.heap[b]? = some (.map es clock) ∧ (∀ x ∈ es.toList, MapKept.IsKey (.int .i64) x.key) ∧ (es.toList.map (·.key)).Nodup ∧ ∀ k v, f k = some v ↔ ∃ x ∈ es.toList, x.key = .int .i64 k ∧ x.val = v
theorem IMap.keep {w W : World} {b : Nat} {f : Int → Option Value} (h : IMap w b f) (hb : W.heap[b]? = w.heap[b]?) : IMap W b f := by
 obtain ⟨es, clock, h1, h2⟩ := h
 exact ⟨es, clock, hb.trans h1, h2⟩
theorem IMap.lt {w : World} {b : Nat} {f : Int → Option Value} (h : IMap w b f) : b < w.heap.size := by
 obtain ⟨es, clock, h1, h2⟩ := h
 exact (Array.getElem?_eq_some_iff.1 h1).1
theorem IMap.below {w W : World} {b : Nat} {f : Int → Option Value} (h : IMap w b f) (hb : Below w.heap.size w W) : IMap W b f := h.keep (hb.block _ h.lt)
theorem IMap.made (w : World) : IMap (w.alloc (.map #[] 0)) w.heap.size (fun _ => none) :=
 ⟨#[], 0, heap_alloc_new w _, by simp, by simp, by simp⟩
theorem IMap.look {w : World} {b : Nat} {f : Int → Option Value} (h : IMap w b f) (k : Int) : (Instr.lookup 110 (.map (some b)) (.int .i64 k) true).run Tryz.prog w = .ok (.tuple #[(f k).getD (.agg (peerCells peerZ none 0 none 0).toArray), .bool (f k).isSome]) w := by
 obtain ⟨es, clock, hb, hk, hp, hf⟩ := h
 have hz := zero48 w
 generalize (peerCells peerZ none 0 none 0).toArray = Z at hz ⊢
 have hc : (Instr.checkKey es.isEmpty 10000 3 (.int .i64 k)).run Tryz.prog w = .ok () w := MapKept.run_checkKey und3 (by rfl) _ 9999
 rcases MapKept.findNow_spec (d := .int .i64) (k := .int .i64 k) rfl es.toList 0 hk with ⟨h1, h2⟩ | ⟨j, e, h1, h2, h3⟩
 ·have hn : f k = none := by
   cases hfk : f k with
   | none => rfl
   | some v =>
    obtain ⟨x, hx, hxk, -⟩ := (hf k v).1 hfk
    exact absurd hxk (h2 x hx)
  rw [hn]
  simp [Instr.lookup, run_underlying und110, MapKept.run_getObj_map hb, hc, MapKept.run_findKey und3 h1, hz, Result.andThen]
 ·have hs : f k = some e.val := (hf k e.val).2 ⟨e, List.mem_of_getElem? h2, h3, rfl⟩
  rw [hs]
  simp [Instr.lookup, run_underlying und110, MapKept.run_getObj_map hb, hc, MapKept.run_findKey und3 h1, Result.andThen]
theorem keys_one {l : List MapEntry} (h : (l.map (·.key)).Nodup) {i j : Nat} {x y : MapEntry} (hi : l[i]? = some x) (hj : l[j]? = some y) (he : x.key = y.key) : i = j := by
 have h1 : (l.map (·.key))[i]? = (l.map (·.key))[j]? := by rw [List.getElem?_map, List.getElem?_map, hi, hj, Option.map_some, Option.map_some, he]
 exact (List.getElem?_inj (by rw [List.length_map]; exact (List.getElem?_eq_some_iff.1 hi).1) h).1 h1
theorem mem_set_keys {l : List MapEntry} (h : (l.map (·.key)).Nodup) {j : Nat} {e : MapEntry} (e' : MapEntry) (hj : l[j]? = some e) (x : MapEntry) : x ∈ l.set j e' ↔ x = e' ∨ (x ∈ l ∧ x.key ≠ e.key) := by
 have hlt := (List.getElem?_eq_some_iff.1 hj).1
 constructor
 ·intro hx
  obtain ⟨i, hi⟩ := List.mem_iff_getElem?.1 hx
  by_cases hij : j = i
  ·subst hij
   rw [List.getElem?_set_self hlt] at hi
   exact .inl (Option.some.inj hi).symm
  ·rw [List.getElem?_set_ne hij] at hi
   exact .inr ⟨List.mem_of_getElem? hi, fun he => hij (keys_one h hj hi he.symm)⟩
 ·rintro (rfl | ⟨hx, hne⟩)
  ·exact List.mem_iff_getElem?.2 ⟨j, List.getElem?_set_self hlt⟩
  ·obtain ⟨i, hi⟩ := List.mem_iff_getElem?.1 hx
   have hij : j ≠ i := fun e2 => by
    subst e2
    rw [hi] at hj
    cases hj
    exact hne rfl
   exact List.mem_iff_getElem?.2 ⟨i, by rw [List.getElem?_set_ne hij]; exact hi⟩
theorem mem_erase_keys {l : List MapEntry} (h : (l.map (·.key)).Nodup) {j : Nat} {e : MapEntry} (hj : l[j]? = some e) (x : MapEntry) : x ∈ l.eraseIdx j ↔ x ∈ l ∧ x.key ≠ e.key := by
 rw [List.mem_eraseIdx_iff_getElem?]
 constructor
 ·rintro ⟨i, hne, hi⟩
  exact ⟨List.mem_of_getElem? hi, fun he => hne (keys_one h hi hj he)⟩
 ·rintro ⟨hx, hne⟩
  obtain ⟨i, hi⟩ := List.mem_iff_getElem?.1 hx
  exact ⟨i, fun e2 => by subst e2; rw [hi] at hj; cases hj; exact hne rfl, hi⟩
theorem setBlock_below (w : World) (b : Nat) (o : Obj) {B : Nat} (hB : B ≤ b) : Below B w (ChangeMaps.setBlock w b o) :=
 ⟨rfl, rfl, rfl, by simp [ChangeMaps.setBlock], fun k hk => by
  show (w.heap.setIfInBounds b o)[k]? = _
  rw [Array.getElem?_setIfInBounds_ne (by omega)]⟩
theorem setBlock_at {w : World} {b : Nat} (o : Obj) (h : b < w.heap.size) : (ChangeMaps.setBlock w b o).heap[b]? = some o := by
 show (w.heap.setIfInBounds b o)[b]? = _
 simp [h]
theorem setBlock_ne {w : World} {b i : Nat} (o : Obj) (h : i ≠ b) : (ChangeMaps.setBlock w b o).heap[i]? = w.heap[i]? := by
 show (w.heap.setIfInBounds b o)[i]? = _
 rw [Array.getElem?_setIfInBounds_ne (Ne.symm h)]
set_option maxRecDepth 100000 in
theorem IMap.put {w : World} {b : Nat} {f : Int → Option Value} (h : IMap w b f) (k : Int) (v : Value) : ∃ o, (Instr.mapUpdate 110 (.map (some b)) (.int .i64 k) v).run Tryz.prog w = .ok () (ChangeMaps.setBlock w b o) ∧ IMap (ChangeMaps.setBlock w b o) b (fun j => if j = k then some v else f j) := by
 have hlt := h.lt
 obtain ⟨es, clock, hb, hk, hp, hf⟩ := h
 have hc : (Instr.checkKey false 10000 3 (.int .i64 k)).run Tryz.prog w = .ok () w := MapKept.run_checkKey und3 (by rfl) _ 9999
 rcases MapKept.findNow_spec (d := .int .i64) (k := .int .i64 k) rfl es.toList 0 hk with ⟨h1, h2⟩ | ⟨j, e, h1, h2, h3⟩
 ·refine ⟨.map (es.push ⟨.int .i64 k, v, clock⟩) (clock + 1), ?_, es.push ⟨.int .i64 k, v, clock⟩, clock + 1, setBlock_at _ hlt, ?_, ?_, ?_⟩
  ·simp [Instr.mapUpdate, run_underlying und110, MapKept.run_getObj_map hb, hc, MapKept.run_findKey und3 h1, MapKept.run_setObj_map _ hb, Result.andThen, ChangeMaps.setBlock]
  ·intro x hx
   simp only [Array.toList_push, List.mem_append, List.mem_singleton] at hx
   rcases hx with hx | rfl
   ·exact hk x hx
   ·exact rfl
  ·rw [Array.toList_push, List.map_append, List.map_singleton, List.nodup_append]
   refine ⟨hp, by simp, ?_⟩
   intro a ha c hc2 e
   rw [List.mem_singleton] at hc2
   obtain ⟨x, hx, rfl⟩ := List.mem_map.1 ha
   exact h2 x hx (e.trans hc2)
  ·intro q u
   simp only [Array.toList_push, List.mem_append, List.mem_singleton]
   by_cases hq : q = k
   ·subst hq
    rw [if_pos rfl]
    constructor
    ·intro e2
     cases e2
     exact ⟨_, .inr rfl, rfl, rfl⟩
    ·rintro ⟨x, hx | rfl, hxk, rfl⟩
     ·exact absurd hxk (h2 x hx)
     ·rfl
   ·rw [if_neg hq, hf]
    constructor
    ·rintro ⟨x, hx, hr⟩
     exact ⟨x, .inl hx, hr⟩
    ·rintro ⟨x, hx | rfl, hxk, hxv⟩
     ·exact ⟨x, hx, hxk, hxv⟩
     ·exact absurd (by injection hxk with _ e2; exact e2.symm) hq
 ·rw [Nat.zero_add] at h1
  have hj : es[j]? = some e := by simpa using h2
  have hkey : (((es[j]?).map (·.key)).getD (.int .i64 k)) = .int .i64 k := by rw [hj]; exact h3
  have hst : (Instr.keyThatStays (.int .i64 k) (.int .i64 k)).run Tryz.prog w = .ok (.int .i64 k) w := MapKept.run_keyThatStays (d := .int .i64) (by rfl)
  have hlist : (es.modify j (fun e' => { e' with key := .int .i64 k, val := v })).toList = es.toList.set j { e with key := .int .i64 k, val := v } := by rw [Array.toList_modify, ChangeMaps.modify_eq_set _ _ _ _ h2]
  have hmem := mem_set_keys hp { e with key := .int .i64 k, val := v } h2
  refine ⟨.map (es.modify j (fun e' => { e' with key := .int .i64 k, val := v })) clock, ?_, es.modify j (fun e' => { e' with key := .int .i64 k, val := v }), clock, setBlock_at _ hlt, ?_, ?_, ?_⟩
  ·simp [Instr.mapUpdate, run_underlying und110, MapKept.run_getObj_map hb, hc, MapKept.run_findKey und3 h1, hj, h3, hst, MapKept.run_setObj_map _ hb, Result.andThen, ChangeMaps.setBlock]
  ·intro x hx
   rw [hlist, hmem] at hx
   rcases hx with rfl | hx
   ·exact rfl
   ·exact hk x hx.1
  ·rw [MapKept.modify_keys j _ (fun e2 he2 => by rw [hj] at he2; cases he2; exact h3.symm)]
   exact hp
  ·intro q u
   simp only [hlist, hmem]
   by_cases hq : q = k
   ·subst hq
    rw [if_pos rfl]
    constructor
    ·intro e2
     cases e2
     exact ⟨_, .inl rfl, rfl, rfl⟩
    ·rintro ⟨x, rfl | ⟨hx, hne⟩, hxk, rfl⟩
     ·rfl
     ·exact absurd (hxk.trans h3.symm) hne
   ·rw [if_neg hq, hf]
    constructor
    ·rintro ⟨x, hx, hxk, hxv⟩
     exact ⟨x, .inr ⟨hx, fun e2 => hq (by have := hxk.symm.trans (e2.trans h3); injection this)⟩, hxk, hxv⟩
    ·rintro ⟨x, rfl | ⟨hx, -⟩, hxk, hxv⟩
     ·exact absurd (by injection hxk with _ e2; exact e2.symm) hq
     ·exact ⟨x, hx, hxk, hxv⟩
set_option maxRecDepth 100000 in
theorem IMap.drop {w : World} {b : Nat} {f : Int → Option Value} (h : IMap w b f) (k : Int) (ty : TypeId) : ∃ o, (Builtin.delete_ #[110, 3] ty #[.map (some b), .int .i64 k]).run Tryz.prog w = .ok (.tuple #[]) (ChangeMaps.setBlock w b o) ∧ IMap (ChangeMaps.setBlock w b o) b (fun j => if j = k then none else f j) := by
 have hlt := h.lt
 obtain ⟨es, clock, hb, hk, hp, hf⟩ := h
 have hc : (Instr.checkKey es.isEmpty 10000 3 (.int .i64 k)).run Tryz.prog w = .ok () w := MapKept.run_checkKey und3 (by rfl) _ 9999
 rcases MapKept.findNow_spec (d := .int .i64) (k := .int .i64 k) rfl es.toList 0 hk with ⟨h1, h2⟩ | ⟨j, e, h1, h2, h3⟩
 ·refine ⟨.map es clock, ?_, es, clock, setBlock_at _ hlt, hk, hp, ?_⟩
  ·simp [Builtin.delete_, run_underlying und110, MapKept.run_getObj_map hb, hc, MapKept.run_findKey und3 h1, MapKept.run_setObj_map _ hb, Result.andThen, ChangeMaps.setBlock]
  ·intro q u
   show (if q = k then none else f q) = some u ↔ _
   by_cases hq : q = k
   ·subst hq
    rw [if_pos rfl]
    constructor
    ·intro e2; cases e2
    ·rintro ⟨x, hx, hxk, -⟩
     exact absurd hxk (h2 x hx)
   ·rw [if_neg hq]
    exact hf q u
 ·rw [Nat.zero_add] at h1
  have hjs : j < es.size := by have := (List.getElem?_eq_some_iff.1 h2).1; simpa using this
  have hsub : (es.eraseIdxIfInBounds j).toList = es.toList.eraseIdx j := by
   unfold Array.eraseIdxIfInBounds
   rw [dif_pos hjs]
   simp
  have hmem := mem_erase_keys hp h2
  refine ⟨.map (es.eraseIdxIfInBounds j) clock, ?_, es.eraseIdxIfInBounds j, clock, setBlock_at _ hlt, ?_, ?_, ?_⟩
  ·simp [Builtin.delete_, run_underlying und110, MapKept.run_getObj_map hb, hc, MapKept.run_findKey und3 h1, MapKept.run_setObj_map _ hb, Result.andThen, ChangeMaps.setBlock]
  ·intro x hx
   rw [hsub, hmem] at hx
   exact hk x hx.1
  ·rw [hsub]
   exact List.Nodup.sublist ((List.eraseIdx_sublist _ _).map _) hp
  ·intro q u
   simp only [hsub, hmem]
   by_cases hq : q = k
   ·subst hq
    rw [if_pos rfl]
    constructor
    ·intro e2; cases e2
    ·rintro ⟨x, ⟨hx, hne⟩, hxk, -⟩
     exact absurd (hxk.trans h3.symm) hne
   ·rw [if_neg hq, hf]
    constructor
    ·rintro ⟨x, hx, hxk, hxv⟩
     exact ⟨x, ⟨hx, fun e2 => hq (by have := hxk.symm.trans (e2.trans h3); injection this)⟩, hxk, hxv⟩
    ·rintro ⟨x, ⟨hx, -⟩, hxk, hxv⟩
     exact ⟨x, hx, hxk, hxv⟩
section
variable {P : Program} {w : World} {ops : Array Oper} {rest : List Oper} {o : Oper} {a : Act} {Q : Exit → Act → World → Prop}
theorem wpList_look (hg : o.guard = none) (m x : Operand) (t : TypeId) (hop : o.op = Op.lookup t m x true) (u key v : Value) (hm : a.eval m = u) (hx : a.eval x = key) (hr : (Instr.lookup t u key true).run P w = .ok v w)
  (hK : wpList P ops Q rest (a.put o.dst v) w) : wpList P ops Q (o :: rest) a w := by
 refine wpList_plain hg fun K' hK' => ?_
 unfold Oper.wp
 simp [execOp, hop, hm, hx, hr, Result.andThen]
 exact hK' _ _ hK
theorem wpList_mput (hg : o.guard = none) (m x v : Operand) (t : TypeId) (hop : o.op = Op.mapUpdate t m x v) (u key val : Value) (hm : a.eval m = u) (hx : a.eval x = key) (hv : a.eval v = val) (w' : World) (hr : (Instr.mapUpdate t u key val).run P w = .ok () w')
  (hK : wpList P ops Q rest (a.put o.dst undef) w') : wpList P ops Q (o :: rest) a w := by
 refine wpList_plain hg fun K' hK' => ?_
 unfold Oper.wp
 simp [execOp, hop, hm, hx, hv, hr, Result.andThen]
 exact hK' _ _ hK
theorem wpList_mdel (hg : o.guard = none) (m x : Operand) (t k : TypeId) (hop : o.op = Op.call { callee := Callee.builtin Builtin.delete, args := #[m, x], argTypes := #[t, k] }) (u key : Value) (hm : a.eval m = u) (hx : a.eval x = key) (w' : World) (hr : (Builtin.delete_ #[t, k] o.type #[u, key]).run P w = .ok (.tuple #[]) w')
  (hK : wpList P ops Q rest (a.put o.dst (.tuple #[])) w') : wpList P ops Q (o :: rest) a w := by
 refine wpList_plain hg fun K' hK' => ?_
 unfold Oper.wp
 simp [execOp, hop, resolve, invoke, builtin, hm, hx, hr, Result.andThen]
 exact hK' _ _ hK
end
end Go.Proofs.YtmgbaefgcdglpaaGreatDoor.Net
end
section
namespace Go.Proofs.YtmgbaefgcdglpaaGreatDoor.Net
open Go Go.RowKit Go.Proofs Go.Proofs.YtmgbaefgcdglpaaGreatDoorW.PrintWords Go.Proofs.YtmgbaefgcdglpaaGreatDoorW.PrintLast Go.Proofs.YtmgbaefgcdglpaaGreatDoorW.PrintMore Go.Proofs.YtmgbaefgcdglpaaGreatDoor.Dir
set_option linter.unusedVariables false
set_option linter.unusedSimpArgs false
theorem IsAt.get {w : World} {A : Option Addr} {l : List Int} (h : kInt.C w A l.length l) {j : Nat} {x : Int} (hj : l[j]? = some x) : ∃ g o, A = some ⟨g, o, none⟩ ∧ ∀ W, Below w.heap.size w W → W.cell? ⟨g, o + j, none⟩ = some (.int .i64 x) := by
 have hlt := (List.getElem?_eq_some_iff.1 hj).1
 obtain ⟨ad, hA, hc⟩ := h.2.2 (by omega)
 obtain ⟨cs, hl, hK, hcell⟩ := hc j x hj
 have hK : cs = [Value.int .i64 x] := hK
 subst hK
 obtain ⟨g, o, sp⟩ := ad
 cases sp with
 | some s =>
  obtain ⟨cs0, hl0, hK0, hcell0⟩ := hc 0 _ (List.getElem?_eq_getElem (show 0 < l.length by omega))
  have hK0 : cs0 = [Value.int .i64 _] := hK0
  subst hK0
  have h0 := hcell0 0 _ rfl
  rw [Nat.zero_mul] at h0
  have hn : w.cell? ((⟨g, o, some s⟩ : Addr).add (0 + 0)) = none := by unfold World.cell?; split <;> rfl
  rw [hn] at h0
  cases h0
 | none =>
  refine ⟨g, o, hA, fun W hb => ?_⟩
  have h1 := hcell 0 _ rfl
  have h2 := (hb.cell (World.block_lt_of_cell? w _ h1)).trans h1
  have e : (⟨g, o, none⟩ : Addr).add (j * kInt.sz + 0) = ⟨g, o + j, none⟩ := by
   show (⟨g, o, none⟩ : Addr).add (j * 1 + 0) = _
   rw [Dir.add_at, Nat.mul_one, Nat.add_zero]
  rw [e] at h2
  exact h2
set_option maxHeartbeats 4000000 in
set_option maxRecDepth 100000 in
theorem closure125 (p : Peer) (A1 : Option Addr) (c1 : Nat) (A2 : Option Addr) (c2 : Nat) (nb : Nat) (n : Int) (w : World) (h : w.heap[nb]? = some (.cells #[.int .i64 n] 3 (0, 0))) :
  Calls Tryz.prog 125 #[.agg (peerCells p A1 c1 A2 c2).toArray, .pointer (some ⟨nb, 0, none⟩)] w fun e w' => e = .returned (.bool (p.node == n)) ∧ Below w.heap.size w w' := by
 obtain ⟨b, hb⟩ : ∃ b, b = w.heap.size := ⟨_, rfl⟩
 obtain ⟨W0, hW0⟩ : ∃ W0, W0 = w.alloc (.cells (peerCells p A1 c1 A2 c2).toArray 48) := ⟨_, rfl⟩
 have hbw : Below w.heap.size w W0 := by rw [hW0]; exact (Below.refl _ w).alloc (Nat.le_refl _) _
 have q0 : W0.cell? ⟨b, 0, none⟩ = some (.int .i64 p.node) := by rw [cell_of_heap (show W0.heap[b]? = some (.cells (peerCells p A1 c1 A2 c2).toArray 48 (0, 0)) by rw [hW0, hb]; exact heap_alloc_new w _)]; rfl
 have q1 : W0.cell? ⟨nb, 0, none⟩ = some (.int .i64 n) := by rw [cell_of_heap (cur := [.int .i64 n]) (roomN h hbw)]; rfl
 have HB := Aside0.mk hbw
 obtain ⟨X, hX⟩ : ∃ X, X = (peerCells p A1 c1 A2 c2).toArray := ⟨_, rfl⟩
 rw [← hX] at hW0 ⊢
 clear hX hbw h
 go_enter Tryz.func125, Tryz.ntmps125
 go_upto_region 1 with fail
 change Code.wp _ _ _ _ (w.alloc (.cells X 48))
 rw [← hW0, ← hb]
 clear hW0 hb
 go_wp2_with fail
 go_ret
 exact ⟨rfl, HB.out⟩
theorem any_drop {l : List Peer} {i : Nat} {p : Peer} (n : Int) (h : l[i]? = some p) : ((l.drop i).any fun p => decide (p.node = n)) = (decide (p.node = n) || (l.drop (i + 1)).any fun p => decide (p.node = n)) := by
 rw [drop_pe h, List.any_cons]
set_option maxHeartbeats 4000000 in
set_option maxRecDepth 100000 in
theorem index169 (l : List Peer) (A : Option Addr) (c nb : Nat) (n : Int) (w : World) (hps : PsAt w A c l) (h : w.heap[nb]? = some (.cells #[.int .i64 n] 3 (0, 0))) :
  Calls Tryz.prog 169 #[.slice A l.length c, .func (.func 125) #[] #[.pointer (some ⟨nb, 0, none⟩)]] w fun e w' => ∃ r : Int, e = .returned (.int .i64 r) ∧ decide (0 ≤ r) = (l.any fun p => decide (p.node = n)) ∧ Below w.heap.size w w' := by
 have HP := Aside0.mk hps
 have HN := Aside0.mk h
 have hlen := hps.len
 clear hps h
 go_enter Tryz.func169, Tryz.ntmps169
 go_upto_region 2 with fail
 go_loopg [8] l.length (fun kx s8 wr => ∃ kk : Nat, s8 = .int .i64 kk ∧ kk + kx = l.length ∧ Aside0 (Below w.heap.size w wr) ∧ Aside0 ((l.any fun p => decide (p.node = n)) = ((l.drop kk).any fun p => decide (p.node = n))))
 case atStart => exact ⟨0, rfl, by omega, ⟨Below.refl _ _⟩, ⟨rfl⟩⟩
 case round =>
  obtain ⟨kk, rfl, hkk, BW, AL⟩ := hrel
  by_cases hlt : kk < l.length
  case neg =>
   have hltz : ¬ (kk : Int) < (l.length : Int) := by omega
   have HL := Aside0.mk (show l.length ≤ kk by omega)
   clear hkk hlt
   go_wp2_with fail
   go_ret
   exact ⟨-1, rfl, by rw [AL.out, List.drop_of_length_le HL.out]; rfl, BW.out⟩
  have hltz : (kk : Int) < (l.length : Int) := by omega
  obtain ⟨p, hp⟩ : ∃ p, l[kk]? = some p := ⟨_, List.getElem?_eq_getElem hlt⟩
  obtain ⟨g, o, A1, c1, A2, c2, hA, hin, hld⟩ := HP.out.load hp
  have L0 := Aside0.mk (hld wr BW.out)
  subst hA
  have HPP := Aside0.mk hp
  have HKK := Aside0.mk (And.intro hkk hlt)
  have CL := Aside0.mk (closure125 p A1 c1 A2 c2 nb n wr (roomN HN.out BW.out))
  obtain ⟨X, hX⟩ : ∃ X, X = (peerCells p A1 c1 A2 c2).toArray := ⟨_, rfl⟩
  rw [← hX] at L0 CL
  clear hX hp hin hld hkk hlt
  go_wp2_with ((with_reducible refine at_load 48 (.tmp 14) ?_); refine wpList_loadK rfl 48 (.tmp 14) rfl _ rfl _ L0.out ?_)
  refine CL.out.mono ?_
  rintro e w2 ⟨rfl, hb2⟩
  have BW2 := Aside0.mk (below_step BW.out hb2)
  obtain ⟨v, hv⟩ : ∃ v, v = (p.node == n) := ⟨_, rfl⟩
  rw [← hv]
  have HV := Aside0.mk hv
  clear hv hb2 CL L0
  cases v with
  | true =>
   go_wp2_with fail
   go_ret
   exact ⟨kk, rfl, by rw [AL.out, any_drop n HPP.out, decide_eq_true (show p.node = n by have := HV.out; simpa using this.symm), Bool.true_or]; exact decide_eq_true (by omega), BW2.out⟩
  | false =>
   go_wp2_with fail
   go_roundg (l.length - (kk + 1))
   case measure => have := HKK.out; omega
   case rel => exact ⟨kk + 1, by first | rfl | (have h1 := HKK.out; have h3 : wrap64 ((kk : Int) + 1) = ((kk + 1 : Nat) : Int) := (by unfold wrap64; omega); rw [h3]), by have := HKK.out; omega, BW2, ⟨by rw [AL.out, any_drop n HPP.out, decide_eq_false (show ¬ p.node = n by have := HV.out; simpa using this.symm), Bool.false_or]⟩⟩
theorem contains124 (l : List Peer) (A : Option Addr) (c nb : Nat) (n : Int) (w : World) (hps : PsAt w A c l) (h : w.heap[nb]? = some (.cells #[.int .i64 n] 3 (0, 0))) :
  Calls Tryz.prog 124 #[.slice A l.length c, .func (.func 125) #[] #[.pointer (some ⟨nb, 0, none⟩)]] w fun e w' => e = .returned (.bool (l.any fun p => decide (p.node = n))) ∧ Below w.heap.size w w' := by
 have IX := Aside0.mk (index169 l A c nb n w hps h)
 clear hps h
 go_enter Tryz.func124, Tryz.ntmps124
 go_wp2_with fail
 refine IX.out.mono ?_
 rintro e w' ⟨r, rfl, hr, hb⟩
 have HR := Aside0.mk hr
 have HB := Aside0.mk hb
 clear hr hb
 go_wp2_with fail
 go_ret
 exact ⟨by rw [← HR.out]; rfl, HB.out⟩
theorem del37 (d : NDel) (A1 : Option Addr) (c1 : Nat) (A2 : Option Addr) (c2 : Nat) : (delCells d A1 c1 A2 c2)[37]? = some (.slice A1 d.gone.length c1) := delV37 _ _ _ _ _ _ _ _
theorem del38 (d : NDel) (A1 : Option Addr) (c1 : Nat) (A2 : Option Addr) (c2 : Nat) : (delCells d A1 c1 A2 c2)[38]? = some (.slice A2 d.set.length c2) := delV38 _ _ _ _ _ _ _ _
theorem del36 (d : NDel) (A1 : Option Addr) (c1 : Nat) (A2 : Option Addr) (c2 : Nat) : (delCells d A1 c1 A2 c2)[36]? = some (.int .i64 d.exp) := by
 unfold delCells
 rw [List.getElem?_cons_succ, List.getElem?_cons_succ, List.getElem?_cons_succ, List.getElem?_cons_succ, List.getElem?_append_right (by rw [encK_len]; decide), encK_len]; rfl
theorem delK (d : NDel) (A1 : Option Addr) (c1 : Nat) (A2 : Option Addr) (c2 : Nat) (j : Nat) (v : Value) (h : (encK d.key)[j]? = some v) : (delCells d A1 c1 A2 c2)[4 + j]? = some v := by
 unfold delCells
 rw [show 4 + j = j + 1 + 1 + 1 + 1 by omega, List.getElem?_cons_succ, List.getElem?_cons_succ, List.getElem?_cons_succ, List.getElem?_cons_succ, List.getElem?_append_left (by rw [encK_len]; have := (List.getElem?_eq_some_iff.1 h).1; rwa [encK_len] at this)]
 exact h
theorem goneGo_drop {node : Int} {set : List Peer} {l : List Int} {i : Nat} {n last : Int} (h : l[i]? = some n) : goneGo node set last (l.drop i) = (decide (last < n) && nodeIn n && decide (n ≠ node) && !(set.any fun p => decide (p.node = n)) && goneGo node set n (l.drop (i + 1))) := by
 obtain ⟨hl, e⟩ := List.getElem?_eq_some_iff.1 h
 rw [List.drop_eq_getElem_cons hl, e]
 rfl
structure DAt (w : World) (d : NDel) (A1 : Option Addr) (c1 : Nat) (A2 : Option Addr) (c2 : Nat) : Prop where
 fit : d.gone.length ≤ c1
 gone : kInt.C w A1 d.gone.length d.gone
 set : PsAt w A2 c2 d.set
theorem DAt.below {w W : World} {d : NDel} {A1 : Option Addr} {c1 : Nat} {A2 : Option Addr} {c2 : Nat} (h : DAt w d A1 c1 A2 c2) (hb : Below w.heap.size w W) : DAt W d A1 c1 A2 c2 := ⟨h.fit, Kd.C_below h.gone hb, h.set.below hb⟩
set_option maxHeartbeats 4000000 in
set_option maxRecDepth 100000 in
theorem check73 (d : NDel) (A1 : Option Addr) (c1 : Nat) (A2 : Option Addr) (c2 : Nat) (w : World) (h : DAt w d A1 c1 A2 c2) :
  Calls Tryz.prog 73 #[.agg (delCells d A1 c1 A2 c2).toArray] w fun r w' => r = .returned (.int .i64 (if okD d = true then 0 else 2)) ∧ Below w.heap.size w w' := by
 obtain ⟨b0, hb0⟩ : ∃ b0, b0 = w.heap.size := ⟨_, rfl⟩
 obtain ⟨W0, hW0⟩ : ∃ W0, W0 = w.alloc (.cells (delCells d A1 c1 A2 c2).toArray 55) := ⟨_, rfl⟩
 have hbw : Below w.heap.size w W0 := by rw [hW0]; exact (Below.refl _ w).alloc (Nat.le_refl _) _
 have q1 : W0.heap[b0]? = some (.cells (delCells d A1 c1 A2 c2).toArray 55 (0, 0)) := by rw [hW0, hb0]; exact heap_alloc_new w _
 have H0 := Aside0.mk (h.below hbw)
 have F0 := Aside0.mk (fun (W : World) (hb : Below W0.heap.size W0 W) => (show W.cell? ⟨b0, 0, none⟩ = some (.int .i64 d.frm) by rw [cell_of_heap (roomN q1 hb)]; rfl))
 have F1 := Aside0.mk (fun (W : World) (hb : Below W0.heap.size W0 W) => (show W.cell? ⟨b0, 1, none⟩ = some (.int .i64 d.til) by rw [cell_of_heap (roomN q1 hb)]; rfl))
 have F2 := Aside0.mk (fun (W : World) (hb : Below W0.heap.size W0 W) => (show W.cell? ⟨b0, 2, none⟩ = some (.int .i64 d.clock) by rw [cell_of_heap (roomN q1 hb)]; rfl))
 have F3 := Aside0.mk (fun (W : World) (hb : Below W0.heap.size W0 W) => (show W.cell? ⟨b0, 3, none⟩ = some (.int .i64 d.node) by rw [cell_of_heap (roomN q1 hb)]; rfl))
 have F36 := Aside0.mk (fun (W : World) (hb : Below W0.heap.size W0 W) => (show W.cell? ⟨b0, 36, none⟩ = some (.int .i64 d.exp) by rw [cell_of_heap (roomN q1 hb)]; exact del36 d A1 c1 A2 c2))
 have F37 := Aside0.mk (fun (W : World) (hb : Below W0.heap.size W0 W) => (show W.cell? ⟨b0, 37, none⟩ = some (.slice A1 d.gone.length c1) by rw [cell_of_heap (roomN q1 hb)]; exact del37 d A1 c1 A2 c2))
 have F38 := Aside0.mk (fun (W : World) (hb : Below W0.heap.size W0 W) => (show W.cell? ⟨b0, 38, none⟩ = some (.slice A2 d.set.length c2) by rw [cell_of_heap (roomN q1 hb)]; exact del38 d A1 c1 A2 c2))
 have LK := Aside0.mk (fun (W : World) (hb : Below W0.heap.size W0 W) => run_loadAtK Tryz.prog W 28 32 Tryz.isAgg28 Tryz.sizeOf28 b0 4 (encK d.key) (encK_len _) (fun j v hj => by rw [cell_of_heap (roomN q1 hb)]; exact delK d A1 c1 A2 c2 j v hj))
 have EX := Aside0.mk (fun (W : World) (hb : Below W0.heap.size W0 W) => below_step hbw hb)
 obtain ⟨X, hX⟩ : ∃ X, X = (delCells d A1 c1 A2 c2).toArray := ⟨_, rfl⟩
 rw [← hX] at hW0 ⊢
 obtain ⟨R, hR⟩ : ∃ R : Int, R = (if okD d = true then 0 else 2) := ⟨_, rfl⟩
 rw [← hR]
 have HR := Aside0.mk hR
 clear q1 hbw h hX hR
 go_enter Tryz.func73, Tryz.ntmps73
 go_upto_region 1 with fail
 change Code.wp _ _ _ _ (w.alloc (.cells X 55))
 rw [← hW0, ← hb0]
 clear hW0 hb0
 have k0 := F0.out W0 (Below.refl _ _)
 go_wp2_with fail
 refine (number63 d.frm W0).mono ?_
 rintro r w1 ⟨rfl, hb1⟩
 obtain ⟨n1, hn1⟩ : ∃ n1, n1 = number d.frm := ⟨_, rfl⟩
 rw [← hn1]
 have N1 := Aside0.mk hn1
 have B1 := Aside0.mk hb1
 clear hb1 hn1 k0
 cases n1
 ·go_wp2_with fail
  go_ret
  exact ⟨by rw [HR.out]; unfold okD; rw [← N1.out]; rfl, EX.out _ B1.out⟩
 have k1 := F1.out w1 B1.out
 go_wp2_with fail
 refine (number63 d.til w1).mono ?_
 rintro r w2 ⟨rfl, hb2⟩
 obtain ⟨n2, hn2⟩ : ∃ n2, n2 = number d.til := ⟨_, rfl⟩
 rw [← hn2]
 have N2 := Aside0.mk hn2
 have B2 := Aside0.mk (below_step B1.out hb2)
 clear hb2 hn2 k1
 cases n2
 ·go_wp2_with fail
  go_ret
  exact ⟨by rw [HR.out]; unfold okD; rw [← N1.out, ← N2.out]; rfl, EX.out _ B2.out⟩
 have k0 := F0.out w2 B2.out
 have k1 := F1.out w2 B2.out
 by_cases h3 : d.frm ≤ d.til
 case neg =>
  have h3d : decide (d.til < d.frm) = true := decide_eq_true (by omega)
  have h3l : d.til < d.frm := by omega
  have H3 := Aside0.mk h3
  clear h3
  go_wp2_with fail
  go_ret
  exact ⟨by rw [HR.out]; unfold okD; rw [← N1.out, ← N2.out, decide_eq_false (by have := H3.out; omega)]; rfl, EX.out _ B2.out⟩
 have h3d : decide (d.til < d.frm) = false := decide_eq_false (by omega)
 have h3l : ¬ d.til < d.frm := by omega
 have H3 := Aside0.mk h3
 have k2 := F2.out w2 B2.out
 have k3 := F3.out w2 B2.out
 have k36 := F36.out w2 B2.out
 have k38 := F38.out w2 B2.out
 have lk := Aside0.mk (LK.out w2 B2.out)
 have HM := Aside0.mk (may64 d.clock d.node d.key d.exp d.set A2 c2 w2 (H0.out.set.below B2.out))
 obtain ⟨hd, hhd⟩ : ∃ hd, hd = (headCells d.clock d.node d.key d.exp).toArray := ⟨_, rfl⟩
 have BH := Aside0.mk (build102 w2 d.clock d.node d.key d.exp)
 rw [← hhd] at HM BH
 clear hhd h3
 go_wp2_with (first | ((with_reducible refine at_load 28 (.tmp 28) ?_); refine wpList_loadW (by rfl) 28 (.tmp 28) rfl _ rfl _ lk.out ?_) | ((with_reducible refine at_build 102 #[(0, .tmp 25), (1, .tmp 27), (2, .tmp 29), (3, .tmp 31)] ?_); refine wpList_valueW (by rfl) (.agg hd) w2 (exec_build 102 _ _ rfl _ #[(0, .int .i64 d.clock), (1, .int .i64 d.node), (2, .agg (encK d.key).toArray), (3, .int .i64 d.exp)] (by simp only [List.map_toArray, List.map_cons, List.map_nil]; rfl) _ BH.out) ?_))
 refine HM.out.mono ?_
 rintro r w3 ⟨rfl, hb3⟩
 obtain ⟨n3, hn3⟩ : ∃ n3, n3 = headOk d.clock d.node d.key d.exp d.set := ⟨_, rfl⟩
 rw [← hn3]
 have N3 := Aside0.mk hn3
 have B3 := Aside0.mk (below_step B2.out hb3)
 clear hb3 hn3 HM BH k0 k1 k2 k3 k36 k38 h3d h3l lk
 have OKD := Aside0.mk (show okD d = (n3 && goneGo d.node d.set 0 d.gone) by unfold okD; rw [← N1.out, ← N2.out, decide_eq_true H3.out, ← N3.out]; rfl)
 cases n3
 ·go_wp2_with fail
  go_ret
  exact ⟨by rw [HR.out, OKD.out]; rfl, EX.out _ B3.out⟩
 have k37 := F37.out w3 B3.out
 have hgl : d.gone.length ≤ 9223372036854775807 := H0.out.gone.2.1
 go_upto_region 5 with fail
 clear k37
 go_loopg [3, 41] d.gone.length (fun kx s3 s41 wr => ∃ (kk : Nat) (last : Int), s41 = .int .i64 kk ∧ s3 = .int .i64 last ∧ kk + kx = d.gone.length ∧ Aside0 (Below W0.heap.size W0 wr) ∧ Aside0 (goneGo d.node d.set 0 d.gone = goneGo d.node d.set last (d.gone.drop kk)))
 case atStart => exact ⟨0, 0, rfl, rfl, by omega, B3, ⟨rfl⟩⟩
 case round =>
  obtain ⟨kk, last, rfl, rfl, hkk, BW, AL⟩ := hrel
  by_cases hlt : kk < d.gone.length
  case neg =>
   have hltz : ¬ (kk : Int) < (d.gone.length : Int) := by omega
   have HL := Aside0.mk (show d.gone.length ≤ kk by omega)
   clear hkk hlt
   go_wp2_with fail
   go_ret
   exact ⟨by rw [HR.out, OKD.out, AL.out, List.drop_of_length_le HL.out]; rfl, EX.out _ BW.out⟩
  have hltz : (kk : Int) < (d.gone.length : Int) := by omega
  obtain ⟨n, hn⟩ : ∃ n, d.gone[kk]? = some n := ⟨_, List.getElem?_eq_getElem hlt⟩
  obtain ⟨g, o, hA, hc⟩ := IsAt.get H0.out.gone hn
  have c0 := hc wr BW.out
  subst hA
  have HN := Aside0.mk (goneGo_drop (node := d.node) (set := d.set) (last := last) hn)
  have HKK := Aside0.mk (And.intro hkk hlt)
  obtain ⟨nb, hnb⟩ : ∃ nb, nb = wr.heap.size := ⟨_, rfl⟩
  obtain ⟨w4, hw4⟩ : ∃ w4, w4 = wr.alloc (.cells #[.int .i64 n] 3) := ⟨_, rfl⟩
  have b4 : Below wr.heap.size wr w4 := by rw [hw4]; exact (Below.refl _ wr).alloc (Nat.le_refl _) _
  have Q4 := Aside0.mk (show w4.heap[nb]? = some (.cells #[.int .i64 n] 3 (0, 0)) by rw [hw4, hnb]; exact heap_alloc_new wr _)
  have B4 := Aside0.mk (below_step BW.out b4)
  have st := Aside0.mk (fun (C : Array Value) (hC : C.size = 1) => run_storeNew Tryz.prog wr 3 1 (by kernel_rfl) C #[.int .i64 n] hC rfl (by simp [Value.oneCell']))
  have q4 : w4.cell? ⟨nb, 0, none⟩ = some (.int .i64 n) := by rw [cell_of_heap (cur := [.int .i64 n]) Q4.out]; rfl
  clear b4 hn hc hkk hlt st
  go_upto_region 7 with fail
  rw [← hw4, ← hnb]
  clear hw4 hnb c0 hltz
  by_cases h1 : last < n
  case neg =>
   have h1d : decide (n ≤ last) = true := decide_eq_true (by omega)
   have h1l : n ≤ last := by omega
   have H1 := Aside0.mk (show decide (last < n) = false from decide_eq_false h1)
   clear h1
   go_wp2_with fail
   go_ret
   exact ⟨by rw [HR.out, OKD.out, AL.out, HN.out, H1.out]; rfl, EX.out _ B4.out⟩
  have h1d : decide (n ≤ last) = false := decide_eq_false (by omega)
  have h1l : ¬ n ≤ last := by omega
  have H1 := Aside0.mk (show decide (last < n) = true from decide_eq_true h1)
  clear h1
  go_wp2_with fail
  refine (node49 n w4).mono ?_
  rintro r w5 ⟨rfl, hb5⟩
  obtain ⟨n2, hn2⟩ : ∃ n2, n2 = nodeIn n := ⟨_, rfl⟩
  rw [← hn2]
  have N5 := Aside0.mk hn2
  have B5 := Aside0.mk (below_step B4.out hb5)
  have Q5 := Aside0.mk (roomN Q4.out hb5)
  have q5 : w5.cell? ⟨nb, 0, none⟩ = some (.int .i64 n) := by rw [cell_of_heap (cur := [.int .i64 n]) Q5.out]; rfl
  clear hn2 hb5 q4
  cases n2
  ·go_wp2_with fail
   go_ret
   exact ⟨by rw [HR.out, OKD.out, AL.out, HN.out, H1.out, ← N5.out]; rfl, EX.out _ B5.out⟩
  have k3 := F3.out w5 B5.out
  by_cases h2 : n = d.node
  case pos =>
   have h2b : (n == d.node) = true := by simpa using h2
   have H2 := Aside0.mk (show decide (n ≠ d.node) = false from decide_eq_false (fun e => e h2))
   clear h2
   go_wp2_with fail
   go_ret
   exact ⟨by rw [HR.out, OKD.out, AL.out, HN.out, H1.out, ← N5.out, H2.out]; rfl, EX.out _ B5.out⟩
  have h2b : (n == d.node) = false := by simpa using h2
  have H2 := Aside0.mk (show decide (n ≠ d.node) = true from decide_eq_true h2)
  have k38 := F38.out w5 B5.out
  have CT := Aside0.mk (contains124 d.set A2 c2 nb n w5 (H0.out.set.below B5.out) Q5.out)
  clear h2
  go_wp2_with fail
  refine CT.out.mono ?_
  rintro r w6 ⟨rfl, hb6⟩
  obtain ⟨v, hv⟩ : ∃ v, v = (d.set.any fun p => decide (p.node = n)) := ⟨_, rfl⟩
  rw [← hv]
  have HV := Aside0.mk hv
  have B6 := Aside0.mk (below_step B5.out hb6)
  have q6 : w6.cell? ⟨nb, 0, none⟩ = some (.int .i64 n) := by rw [cell_of_heap (cur := [.int .i64 n]) (roomN Q5.out hb6)]; rfl
  clear hv hb6 q5 k3 k38 CT
  cases v
  case true =>
   go_wp2_with fail
   go_ret
   exact ⟨by rw [HR.out, OKD.out, AL.out, HN.out, H1.out, ← N5.out, H2.out, ← HV.out]; rfl, EX.out _ B6.out⟩
  go_wp2_with fail
  go_roundg (d.gone.length - (kk + 1))
  case measure => have := HKK.out; omega
  case rel => exact ⟨kk + 1, n, by first | rfl | (have h1 := HKK.out; have h3 : wrap64 ((kk : Int) + 1) = ((kk + 1 : Nat) : Int) := (by unfold wrap64; omega); rw [h3]), rfl, by have := HKK.out; omega, B6, ⟨by rw [AL.out, HN.out, H1.out, ← N5.out, H2.out, ← HV.out]; rfl⟩⟩
end Go.Proofs.YtmgbaefgcdglpaaGreatDoor.Net
end
section
namespace Go.Proofs.YtmgbaefgcdglpaaGreatDoor.Net
open Go Go.RowKit Go.Proofs Go.Proofs.YtmgbaefgcdglpaaGreatDoorW.PrintWords Go.Proofs.YtmgbaefgcdglpaaGreatDoorW.PrintLast Go.Proofs.YtmgbaefgcdglpaaGreatDoorW.PrintMore Go.Proofs.YtmgbaefgcdglpaaGreatDoor.Dir
set_option linter.unusedVariables false
set_option linter.unusedSimpArgs false
def insAll (F : Int → Option Peer) (l : List Peer) : Int → Option Peer := l.foldl (fun F p j => if j = p.node then some p else F j) F
def delAll (F : Int → Option Peer) (l : List Int) : Int → Option Peer := l.foldl (fun F n j => if j = n then none else F j) F
theorem insAll_take (F : Int → Option Peer) {l : List Peer} {k : Nat} {p : Peer} (h : l[k]? = some p) : insAll F (l.take (k + 1)) = fun j => if j = p.node then some p else insAll F (l.take k) j := by
 unfold insAll
 rw [List.take_add_one, h, List.foldl_append]
 rfl
theorem delAll_take (F : Int → Option Peer) {l : List Int} {k : Nat} {n : Int} (h : l[k]? = some n) : delAll F (l.take (k + 1)) = fun j => if j = n then none else delAll F (l.take k) j := by
 unfold delAll
 rw [List.take_add_one, h, List.foldl_append]
 rfl
theorem delAll_eq : ∀ (l : List Int) (F : Int → Option Peer) (j : Int), delAll F l j = if j ∈ l then none else F j
 | [], F, j => by simp [delAll]
 | n :: l, F, j => by
  show delAll (fun j => if j = n then none else F j) l j = _
  rw [delAll_eq l]
  by_cases h1 : j ∈ l
  ·rw [if_pos h1, if_pos (List.mem_cons_of_mem _ h1)]
  ·rw [if_neg h1]
   by_cases h2 : j = n
   ·rw [if_pos h2, if_pos (by rw [h2]; exact List.mem_cons_self ..)]
   ·rw [if_neg h2, if_neg (by rw [List.mem_cons]; exact fun h => h.elim h2 h1)]
theorem insAll_eq : ∀ (l : List Peer) (F : Int → Option Peer) (j : Int), l.Pairwise (fun a b => a.node < b.node) → insAll F l j = match atP l j with
  | some p => some p
  | none => F j
 | [], F, j, _ => rfl
 | p :: l, F, j, h => by
  show insAll (fun j => if j = p.node then some p else F j) l j = _
  rw [insAll_eq l _ j (List.pairwise_cons.1 h).2]
  by_cases hj : p.node = j
  ·have h1 : atP l j = none := atP_none.2 fun q hq => by have := (List.pairwise_cons.1 h).1 q hq; omega
   have h2 : atP (p :: l) j = some p := by unfold atP; rw [List.find?_cons_of_pos (by simpa using hj)]
   rw [h1, h2]
   simp only
   rw [if_pos hj.symm]
  ·have h2 : atP (p :: l) j = atP l j := by unfold atP; rw [List.find?_cons_of_neg (by simpa using hj)]
   rw [h2]
   cases atP l j with
   | some q => rfl
   | none => simp only; rw [if_neg (fun e => hj e.symm)]
theorem goneGo_rise (s : Int) (ps : List Peer) : ∀ (l : List Int) (last : Int), goneGo s ps last l = true → (∀ n ∈ l, last < n) ∧ l.Pairwise (· < ·)
 | [], _, _ => ⟨by simp, List.Pairwise.nil⟩
 | n :: l, last, h => by
  unfold goneGo at h
  simp only [Bool.and_eq_true, decide_eq_true_eq] at h
  obtain ⟨h1, h2⟩ := goneGo_rise s ps l n h.2
  have h0 := h.1.1.1.1
  refine ⟨fun q hq => ?_, List.pairwise_cons.2 ⟨h1, h2⟩⟩
  rcases List.mem_cons.1 hq with rfl | hq
  ·exact h0
  ·have := h1 q hq; omega
theorem okD_parts {d : NDel} (h : okD d = true) : headOk d.clock d.node d.key d.exp d.set = true ∧ goneGo d.node d.set 0 d.gone = true := by
 unfold okD at h
 simp only [Bool.and_eq_true] at h
 exact ⟨h.1.2, h.2⟩
theorem okD_set {d : NDel} (h : okD d = true) : d.set.Pairwise (fun a b => a.node < b.node) := by
 refine (okM_nodes (m := ⟨0, d.clock, d.node, d.key, d.exp, d.set⟩) ?_).1
 unfold okM
 rw [(okD_parts h).1]
 rfl
theorem okD_gone {d : NDel} (h : okD d = true) : d.gone.Pairwise (· < ·) := (goneGo_rise _ _ _ _ (okD_parts h).2).2
theorem apply_walk {m : NMap} {d : NDel} (hm : okM m = true) (hd : okD d = true) : insAll (delAll (insAll (fun _ => none) m.peers) d.gone) d.set = putAt m d := by
 funext j
 rw [insAll_eq _ _ _ (okD_set hd)]
 unfold putAt
 cases atP d.set j with
 | some p => rfl
 | none =>
  simp only
  rw [delAll_eq]
  by_cases hj : j ∈ d.gone
  ·rw [if_pos hj, if_pos hj]
  ·rw [if_neg hj, if_neg hj, insAll_eq _ _ _ (okM_nodes hm).1]
   cases atP m.peers j with
   | some p => rfl
   | none => rfl
theorem apply_at {m : NMap} (hm : okM m = true) (j : Int) : insAll (fun _ => none) m.peers j = atP m.peers j := by
 rw [insAll_eq _ _ _ (okM_nodes hm).1]
 cases atP m.peers j with
 | some p => rfl
 | none => rfl
theorem apply_del {m : NMap} {d : NDel} (hm : okM m = true) (hd : okD d = true) {k : Nat} {n : Int} (h : d.gone[k]? = some n) : delAll (insAll (fun _ => none) m.peers) (d.gone.take k) n = atP m.peers n := by
 rw [delAll_eq, if_neg, apply_at hm]
 intro hn
 obtain ⟨i, hi⟩ := List.mem_iff_getElem?.1 hn
 rw [List.getElem?_take] at hi
 split at hi
 ·rename_i hlt
  obtain ⟨h1, h2⟩ := List.getElem?_eq_some_iff.1 hi
  obtain ⟨h3, h4⟩ := List.getElem?_eq_some_iff.1 h
  have := List.pairwise_iff_getElem.1 (okD_gone hd) i k h1 h3 hlt
  rw [h2, h4] at this
  omega
 ·cases hi
def nodesTo (k : Nat) : List Int := (List.range k).map fun i : Nat => (i : Int) + 1
theorem nodesTo_all : nodesTo 8 = [1, 2, 3, 4, 5, 6, 7, 8] := by decide
theorem nodesTo_step (k : Nat) : nodesTo (k + 1) = nodesTo k ++ [(k : Int) + 1] := by
 unfold nodesTo
 rw [List.range_succ, List.map_append]
 rfl
theorem apply_bad {m : NMap} {d : NDel} (h : okM m = false ∨ okD d = false) : applyOf m d = (map0, 2) := by unfold applyOf; rw [if_pos h]
theorem apply_base {m : NMap} {d : NDel} (h : ¬ (okM m = false ∨ okD d = false)) (h2 : d.node ≠ m.node ∨ d.frm ≠ m.ver) : applyOf m d = (map0, 230) := by unfold applyOf; rw [if_neg h, if_pos h2]
theorem apply_lost {m : NMap} {d : NDel} (h : ¬ (okM m = false ∨ okD d = false)) (h2 : ¬ (d.node ≠ m.node ∨ d.frm ≠ m.ver)) {n : Int} (h3 : n ∈ d.gone) (h4 : atP m.peers n = none) : applyOf m d = (map0, 2) := by
 unfold applyOf
 rw [if_neg h, if_neg h2, if_pos]
 rw [List.any_eq_true]
 exact ⟨n, h3, by rw [h4]; rfl⟩
theorem apply_end {m : NMap} {d : NDel} (h : ¬ (okM m = false ∨ okD d = false)) (h2 : ¬ (d.node ≠ m.node ∨ d.frm ≠ m.ver)) (h3 : ∀ n ∈ d.gone, atP m.peers n ≠ none) : applyOf m d = if okM (putM m d) = false then (map0, 2) else (putM m d, 0) := by
 unfold applyOf
 rw [if_neg h, if_neg h2, if_neg]
 rw [Bool.not_eq_true, List.any_eq_false]
 intro n hn
 have := h3 n hn
 cases hq : atP m.peers n with
 | none => exact absurd hq this
 | some p => simp
end Go.Proofs.YtmgbaefgcdglpaaGreatDoor.Net
end
