/- chapter: a book of two devices. The netmaps of the book of the chapter. counts: a node's key, when it counts. Deltas in memory; the way through a difference. A list of peers without its first. Diff: its steps. Peers compared by the program. -/
import Derived.Test.YtmgbaefgcdglpaaGreatDoorNj41
import Derived.Test.YtmgbaefgcdglpaaGreatDoorNj34
section
namespace Go.Proofs.YtmgbaefgcdglpaaGreatDoor.Net
open Go Go.RowKit Go.Proofs Go.Proofs.YtmgbaefgcdglpaaGreatDoorW.PrintWords Go.Proofs.YtmgbaefgcdglpaaGreatDoorW.PrintLast Go.Proofs.YtmgbaefgcdglpaaGreatDoorW.PrintMore Go.Proofs.YtmgbaefgcdglpaaGreatDoor.Dir
set_option linter.unusedVariables false
set_option linter.unusedSimpArgs false
def keyU (b : UInt8) : Key := ⟨b :: List.replicate 31 0, by simp⟩
def chDev1 : Dev := ⟨1, keyU 1, 50, false⟩
def chDev2 : Dev := ⟨2, keyU 2, 60, false⟩
def chapB : Book := ⟨3, 0, [chDev1, chDev2], [], [97, 108, 108, 111, 119, 32, 49, 32, 62, 32, 50, 32, 56, 48, 45, 57, 48]⟩
theorem chapFlat : flatD chapB.devs = encD chDev1 ++ encD chDev2 := by unfold flatD chapB; simp
set_option maxRecDepth 100000 in
theorem buildK1 (b : UInt8) (w : World) : (Instr.build 28 #[(0, byteV b)]).run Tryz.prog w = .ok (.agg (encK (keyU b)).toArray) w := by
 have hz := Tryz.zeroValue28 w
 simp only [Instr.build, Sem.run_bind, hz, Result.andThen_ok, run_underlying Tryz.underlying28, Value.cells]
 simp [Tryz.sizeOf5, Instr.fill, Value.cells, go_sem]
 rfl
set_option maxRecDepth 100000 in
theorem buildD1 (w : World) : (Instr.build 85 #[(0, .int .i64 1), (1, .agg (encK (keyU 1)).toArray), (2, .int .i64 50)]).run Tryz.prog w = .ok (.agg (encD chDev1).toArray) w := run_buildD w _ chDev1 (by first | rfl | kernel_rfl)
set_option maxRecDepth 100000 in
theorem buildD2 (w : World) : (Instr.build 85 #[(0, .int .i64 2), (1, .agg (encK (keyU 2)).toArray), (2, .int .i64 60)]).run Tryz.prog w = .ok (.agg (encD chDev2).toArray) w := run_buildD w _ chDev2 (by first | rfl | kernel_rfl)
theorem buildRow (w : World) : (Instr.buildSlice 22 2 #[(0, .agg (encD chDev1).toArray), (1, .agg (encD chDev2).toArray)]).run Tryz.prog w = .ok (.slice (some ⟨w.heap.size, 0, none⟩) 2 2) (w.alloc (.cells (encD chDev1 ++ encD chDev2).toArray 85)) :=
 run_buildSlice2 Tryz.prog w 22 85 35 _ Tryz.underlying22 Tryz.sizeOf85 Tryz.zeroValue85 (by decide) (by decide) _ _ (encD_len _) (encD_len _)
theorem buildBook (w : World) (A : Option Addr) : (Instr.build 25 #[(0, .int .i64 3), (2, .slice A 2 2), (4, .string ⟨#[97, 108, 108, 111, 119, 32, 49, 32, 62, 32, 50, 32, 56, 48, 45, 57, 48]⟩)]).run Tryz.prog w = .ok (.agg (bookCells chapB A 2 none 0).toArray) w := run_buildB w _ _ rfl
set_option maxHeartbeats 4000000 in
set_option maxRecDepth 100000 in
theorem chapter47 (w : World) : Calls Tryz.prog 47 #[] w fun e w' => ∃ A, e = .returned (.agg (bookCells chapB A 2 none 0).toArray) ∧ SrcB w' chapB A none ∧ Below w.heap.size w w' := by
 obtain ⟨b, hb⟩ : ∃ b, b = w.heap.size := ⟨_, rfl⟩
 obtain ⟨zB, hzB⟩ : ∃ zB : Array Value, zB = #[.int .i64 0, .int .i64 0, .slice none 0 0, .slice none 0 0, .string ⟨#[]⟩] := ⟨_, rfl⟩
 obtain ⟨W0, hW0⟩ : ∃ W0, W0 = w.alloc (.cells zB 25) := ⟨_, rfl⟩
 obtain ⟨W1, hW1⟩ : ∃ W1, W1 = W0.alloc (.cells (encD chDev1 ++ encD chDev2).toArray 85) := ⟨_, rfl⟩
 have hs0 : W0.heap.size = b + 1 := by rw [hW0, hb]; simp
 have hb0 : Below w.heap.size w W0 := by rw [hW0]; exact (Below.refl _ w).alloc (Nat.le_refl _) _
 have hb1 : Below w.heap.size w W1 := by rw [hW1]; exact hb0.alloc hb0.size _
 have q0 : W1.heap[b]? = some (.cells zB.toList.toArray 25 (0, 0)) := by rw [hW1, Below.heap_alloc _ _ _ (by omega), hW0, hb, Array.toArray_toList]; exact heap_alloc_new w _
 have q1 : W1.heap[b + 1]? = some (.cells (encD chDev1 ++ encD chDev2).toArray 85 (0, 0)) := by rw [hW1, ← hs0]; exact heap_alloc_new W0 _
 have HR := Aside0.mk (buildRow W0)
 rw [← hW1, hs0] at HR
 have K1 := Aside0.mk (buildK1 1 W0)
 have K2 := Aside0.mk (buildK1 2 W0)
 have D1 := Aside0.mk (buildD1 W0)
 have D2 := Aside0.mk (buildD2 W0)
 have BB := Aside0.mk (buildBook W1 (some ⟨b + 1, 0, none⟩))
 have ST := Aside0.mk (store_full W1 25 5 b Tryz.sizeOf25 zB.toList (bookCells chapB (some ⟨b + 1, 0, none⟩) 2 none 0) q0 (by rw [hzB]; rfl) rfl (by
  intro u hu
  unfold bookCells at hu
  simp only [List.mem_cons, List.not_mem_nil, or_false] at hu
  rcases hu with rfl | rfl | rfl | rfl | rfl <;> rfl))
 have HF := Aside0.mk (setRow_heap W1 b _ (bookCells chapB (some ⟨b + 1, 0, none⟩) 2 none 0).toArray 25 (0, 0) q0)
 have HE := Aside0.mk (show SrcB (W1.setRow b (bookCells chapB (some ⟨b + 1, 0, none⟩) 2 none 0).toArray) chapB (some ⟨b + 1, 0, none⟩) none ∧ Below w.heap.size w (W1.setRow b (bookCells chapB (some ⟨b + 1, 0, none⟩) 2 none 0).toArray) from ⟨⟨by rw [chapFlat]; exact src_row (by rw [setRow_other W1 b (b + 1) _ (by omega)]; exact q1) (by rw [List.length_append, encD_len, encD_len]; rfl) (by decide), src_none, by decide, by decide⟩, below_setRow hb1 (by omega) _⟩)
 obtain ⟨X, hX⟩ : ∃ X, X = (bookCells chapB (some ⟨b + 1, 0, none⟩) 2 none 0).toArray := ⟨_, rfl⟩
 obtain ⟨k1, hk1⟩ : ∃ k1, k1 = (encK (keyU 1)).toArray := ⟨_, rfl⟩
 obtain ⟨k2, hk2⟩ : ∃ k2, k2 = (encK (keyU 2)).toArray := ⟨_, rfl⟩
 obtain ⟨d1, hd1⟩ : ∃ d1, d1 = (encD chDev1).toArray := ⟨_, rfl⟩
 obtain ⟨d2, hd2⟩ : ∃ d2, d2 = (encD chDev2).toArray := ⟨_, rfl⟩
 rw [← hX] at BB ST HF HE
 have HX := Aside0.mk hX
 rw [← hk1] at K1 D1
 rw [← hk2] at K2 D2
 rw [← hd1] at D1
 rw [← hd2] at D2
 rw [← hd1, ← hd2] at HR
 clear hX hk1 hk2 hd1 hd2 q0 q1 hb0 hb1 hs0 hW1
 go_enter Tryz.func47, Tryz.ntmps47
 go_upto_region 1 with fail
 change Code.wp _ _ _ _ (w.alloc (.cells #[.int .i64 0, .int .i64 0, .slice none 0 0, .slice none 0 0, .string ⟨#[]⟩] 25))
 rw [← hzB, ← hW0, ← hb]
 clear hzB hW0 hb
 go_wp2_with (first | ((with_reducible refine at_build 28 #[(0, .const (.int .u8 1))] ?_); refine wpList_valueW (by rfl) (.agg k1) W0 (exec_build 28 _ _ rfl _ #[(0, .int .u8 1)] (by simp only [List.map_toArray, List.map_cons, List.map_nil]; rfl) _ K1.out) ?_) | ((with_reducible refine at_build 85 #[(0, .const (.int .i64 1)), (1, .tmp 1), (2, .const (.int .i64 50))] ?_); refine wpList_valueW (by rfl) (.agg d1) W0 (exec_build 85 _ _ rfl _ #[(0, .int .i64 1), (1, .agg k1), (2, .int .i64 50)] (by simp only [List.map_toArray, List.map_cons, List.map_nil]; rfl) _ D1.out) ?_) | ((with_reducible refine at_build 28 #[(0, .const (.int .u8 2))] ?_); refine wpList_valueW (by rfl) (.agg k2) W0 (exec_build 28 _ _ rfl _ #[(0, .int .u8 2)] (by simp only [List.map_toArray, List.map_cons, List.map_nil]; rfl) _ K2.out) ?_) | ((with_reducible refine at_build 85 #[(0, .const (.int .i64 2)), (1, .tmp 3), (2, .const (.int .i64 60))] ?_); refine wpList_valueW (by rfl) (.agg d2) W0 (exec_build 85 _ _ rfl _ #[(0, .int .i64 2), (1, .agg k2), (2, .int .i64 60)] (by simp only [List.map_toArray, List.map_cons, List.map_nil]; rfl) _ D2.out) ?_) | ((with_reducible refine at_bslice2 22 (.tmp 2) (.tmp 4) ?_); refine wpList_buildSlice2 rfl 22 (.tmp 2) (.tmp 4) rfl _ _ rfl rfl _ _ HR.out ?_) | ((with_reducible refine at_build 25 #[(0, .const (.int .i64 3)), (2, .tmp 5), (4, .const (.string ⟨#[97, 108, 108, 111, 119, 32, 49, 32, 62, 32, 50, 32, 56, 48, 45, 57, 48]⟩))] ?_); refine wpList_valueW (by rfl) (.agg X) W1 (exec_build 25 _ _ rfl _ #[(0, .int .i64 3), (2, .slice (some ⟨b + 1, 0, none⟩) 2 2), (4, .string ⟨#[97, 108, 108, 111, 119, 32, 49, 32, 62, 32, 50, 32, 56, 48, 45, 57, 48]⟩)] (by simp only [List.map_toArray, List.map_cons, List.map_nil]; rfl) _ BB.out) ?_) | ((with_reducible refine at_store 25 (.tmp 0) (.tmp 6) ?_); refine wpList_storeK rfl 25 (.tmp 0) (.tmp 6) rfl rfl _ _ rfl rfl _ ST.out ?_))
 try simp only [Exit.inBlock, Exit.then]
 refine bodyPost_ret (results_cell_row rfl _ _ b 25 _ (0, 0) _ rfl HF.out Tryz.underlying25 rfl (by rw [HX.out]; kernel_rfl)) rfl ?_
 exact ⟨some ⟨b + 1, 0, none⟩, by rw [HX.out], HE.out.1, HE.out.2⟩
end Go.Proofs.YtmgbaefgcdglpaaGreatDoor.Net
end
section
namespace Go.Proofs.YtmgbaefgcdglpaaGreatDoor.Net
open Go Go.RowKit Go.Proofs Go.Proofs.YtmgbaefgcdglpaaGreatDoorW.PrintWords Go.Proofs.YtmgbaefgcdglpaaGreatDoorW.PrintLast Go.Proofs.YtmgbaefgcdglpaaGreatDoorW.PrintMore Go.Proofs.YtmgbaefgcdglpaaGreatDoor.Dir
set_option linter.unusedVariables false
set_option linter.unusedSimpArgs false
theorem chap_wf : WF chapB := by constructor <;> first | decide | simp [chapB, chDev1, chDev2, maxN, takenB]
theorem chap_ok : OkB chapB := ok_of chap_wf (by kernel_rfl)
def chMap1 : NMap := ⟨3, 0, 1, keyU 1, 50, [⟨2, keyU 2, 60, [], [⟨80, 90⟩]⟩]⟩
def chMap2 : NMap := ⟨3, 0, 2, keyU 2, 60, [⟨1, keyU 1, 50, [⟨80, 90⟩], []⟩]⟩
def chMap3 : NMap := ⟨3, 0, 3, key0, 0, []⟩
set_option maxRecDepth 100000 in
theorem chap_points : PA.pointsOf (rulesB chapB) = [0, 80, 91] := by
 unfold PA.pointsOf
 rw [List.mergeSort_of_pairwise (by decide +kernel)]
 decide +kernel
theorem chap_sp (a b : Int) : spB chapB a b = PA.spansGo (fun p => PA.allowsV (rulesB chapB) a b p) [0, 80, 91, 65536] [] := by
 unfold spB PA.spansV
 rw [chap_points]
 rfl
set_option maxRecDepth 100000 in
theorem chap_sp12 : spB chapB 1 2 = [⟨80, 90⟩] := by rw [chap_sp]; kernel_rfl
set_option maxRecDepth 100000 in
theorem chap_sp21 : spB chapB 2 1 = [] := by rw [chap_sp]; kernel_rfl
theorem chap_any1 (sp : Int → Int → List Sp) (h1 : sp 1 2 = [⟨80, 90⟩]) (h2 : sp 2 1 = []) : ofV sp chapB 1 = chMap1 := by
 simp [ofV, ownD, peersOf, talks, live, peerOf, chapB, chDev1, chDev2, chMap1, h1, h2]
theorem chap_any2 (sp : Int → Int → List Sp) (h1 : sp 1 2 = [⟨80, 90⟩]) (h2 : sp 2 1 = []) : ofV sp chapB 2 = chMap2 := by
 simp [ofV, ownD, peersOf, talks, live, peerOf, chapB, chDev1, chDev2, chMap2, h1, h2]
theorem chap_one : ofV (spB chapB) chapB 1 = chMap1 := chap_any1 _ chap_sp12 chap_sp21
theorem chap_two : ofV (spB chapB) chapB 2 = chMap2 := chap_any2 _ chap_sp12 chap_sp21
theorem chap_three : ofV (spB chapB) chapB 3 = chMap3 := by
 simp [ofV, ownD, live, chapB, chDev1, chDev2, chMap3]
theorem chap_diff : diffOf chMap1 chMap1 = (⟨3, 3, 0, 1, keyU 1, 50, [], []⟩, 0) := diff_self (by have := okM_ofB chap_ok (n := 1) rfl; rwa [chap_one] at this)
end Go.Proofs.YtmgbaefgcdglpaaGreatDoor.Net
end
section
namespace Go.Proofs.YtmgbaefgcdglpaaGreatDoor.Net
open Go Go.RowKit Go.Proofs Go.Proofs.YtmgbaefgcdglpaaGreatDoorW.PrintWords Go.Proofs.YtmgbaefgcdglpaaGreatDoorW.PrintLast Go.Proofs.YtmgbaefgcdglpaaGreatDoorW.PrintMore Go.Proofs.YtmgbaefgcdglpaaGreatDoor.Dir
set_option linter.unusedVariables false
set_option linter.unusedSimpArgs false
theorem dev_keyAt {w : World} {B : Book} {A1 A2 : Option Addr} (h : SrcB w B A1 A2) {j : Nat} {d : Dev} (hd : B.devs[j]? = some d) : ∃ g o, A1 = some ⟨g, o, none⟩ ∧ ∀ W, Below w.heap.size w W → (Instr.loadAt 28 (.pointer (some ⟨g, o + j * 35 + 1, none⟩))).run Tryz.prog W = .ok (.agg (encK d.key).toArray) W := by
 obtain ⟨g, o, hA, -⟩ := h.dev hd
 subst hA
 refine ⟨g, o, rfl, fun W hb => run_loadAtK Tryz.prog W 28 32 Tryz.isAgg28 Tryz.sizeOf28 g (o + j * 35 + 1) (encK d.key) (encK_len _) (fun i v hv => ?_)⟩
 have := src_cell h.devs hb (flatMap_at encD 35 encD_len B.devs j d hd (1 + i) v (keyOfD d i v hv))
 rw [show o + j * 35 + 1 + i = o + (j * 35 + (1 + i)) by omega]
 exact this
theorem own_drop {B : Book} {i : Nat} {d : Dev} (n : Int) (h : B.devs[i]? = some d) : ((B.devs.drop i).find? fun d => decide (d.node = n) && live B d) = if (decide (d.node = n) && live B d) = true then some d else (B.devs.drop (i + 1)).find? fun d => decide (d.node = n) && live B d := by
 obtain ⟨hl, e⟩ := List.getElem?_eq_some_iff.1 h
 rw [List.drop_eq_getElem_cons hl, e, List.find?_cons]
 cases (decide (d.node = n) && live B d) <;> rfl
def CountsEnd (B : Book) (n : Int) (e : Ending) : Prop := e = .returned (match ownD B n with
 | some d => .tuple #[.agg (encK d.key).toArray, .bool true]
 | none => .tuple #[.agg (encK key0).toArray, .bool false])
theorem build28z (w : World) : (Instr.build 28 #[]).run Tryz.prog w = .ok (.agg (encK key0).toArray) w := by
 have hz := Tryz.zeroValue28 w
 simp only [Instr.build, Sem.run_bind, hz, Result.andThen_ok, run_underlying Tryz.underlying28, Value.cells]
 simp [Instr.fill, Value.cells, go_sem]
 rfl
set_option maxHeartbeats 4000000 in
set_option maxRecDepth 100000 in
theorem counts22 (B : Book) (hB : OkB B) (n : Int) (A1 : Option Addr) (c1 : Nat) (A2 : Option Addr) (c2 : Nat) (w : World) (h : SrcB w B A1 A2) :
  Calls Tryz.prog 22 #[.agg (bookCells B A1 c1 A2 c2).toArray, .int .i64 n] w fun e w' => CountsEnd B n e ∧ Below w.heap.size w w' := by
 obtain ⟨b0, hb0⟩ : ∃ b0, b0 = w.heap.size := ⟨_, rfl⟩
 obtain ⟨W0, hW0⟩ : ∃ W0, W0 = (w.alloc (.cells (bookCells B A1 c1 A2 c2).toArray 25)).alloc (.cells zeroKey 28) := ⟨_, rfl⟩
 have hbw : Below w.heap.size w W0 := by rw [hW0]; exact ((Below.refl _ w).alloc (Nat.le_refl _) _).alloc (by simp) _
 have q1 : W0.heap[b0]? = some (.cells (bookCells B A1 c1 A2 c2).toArray 25 (0, 0)) := by rw [hW0, hb0, Below.heap_alloc _ _ _ (by simp)]; exact heap_alloc_new w _
 have q2 : W0.heap[b0 + 1]? = some (.cells (encK key0).toArray 28 (0, 0)) := by rw [hW0, hb0, zeroKey_eq]; have := heap_alloc_new (w.alloc (.cells (bookCells B A1 c1 A2 c2).toArray 25)) (.cells zeroKey 28); rw [World.size_alloc] at this; exact this
 have HS := Aside0.mk (h.later hbw)
 have HQ2 := Aside0.mk q2
 have HBW := Aside0.mk hbw
 have HBB := Aside0.mk hb0
 have HOK := Aside0.mk hB
 have L2 := Aside0.mk (fun (W : World) (hb : Below W0.heap.size W0 W) => (show W.cell? ⟨b0, 2, none⟩ = some (.slice A1 B.devs.length c1) by rw [cell_of_heap (roomN q1 hb)]; rfl))
 have L22 := Aside0.mk (fun (W : World) (hb : Below W0.heap.size W0 W) => run_load1 (P := Tryz.prog) 22 Tryz.isAgg22 (show W.cell? ⟨b0, 2, none⟩ = some (.slice A1 B.devs.length c1) by rw [cell_of_heap (roomN q1 hb)]; rfl))
 have L3 := Aside0.mk (fun (W : World) (hb : Below W0.heap.size W0 W) => run_load1 (P := Tryz.prog) 3 Tryz.isAgg3 (show W.cell? ⟨b0, 1, none⟩ = some (.int .i64 B.clock) by rw [cell_of_heap (roomN q1 hb)]; rfl))
 have LB := Aside0.mk (fun (W : World) (hb : Below W0.heap.size W0 W) => run_loadAtK Tryz.prog W 25 5 Tryz.isAgg25 Tryz.sizeOf25 b0 0 (bookCells B A1 c1 A2 c2) rfl (cells_of_heap (roomN q1 hb)))
 obtain ⟨X, hX⟩ : ∃ X, X = (bookCells B A1 c1 A2 c2).toArray := ⟨_, rfl⟩
 rw [← hX] at hW0 LB ⊢
 have HX := Aside0.mk hX
 clear q1 q2 hbw h hX hB
 go_enter Tryz.func22, Tryz.ntmps22
 go_upto_region 2 with fail
 change Code.wp _ _ _ _ ((w.alloc (.cells X 25)).alloc (.cells zeroKey 28))
 rw [← hW0, ← hb0]
 clear hW0 hb0
 go_loopg [6] B.devs.length (fun kx s6 wr => ∃ kk : Nat, s6 = .int .i64 kk ∧ kk + kx = B.devs.length ∧ Aside0 (Below W0.heap.size W0 wr) ∧ Aside0 (ownD B n = (B.devs.drop kk).find? fun d => decide (d.node = n) && live B d))
 case atStart => exact ⟨0, rfl, by omega, ⟨Below.refl _ _⟩, ⟨rfl⟩⟩
 case round =>
  obtain ⟨kk, rfl, hkk, HW, AL⟩ := hrel
  have l2 := L2.out wr HW.out
  by_cases hlt : kk < B.devs.length
  case neg =>
   have hltz : ¬ (kk : Int) < (B.devs.length : Int) := by omega
   have HK := Aside0.mk (show B.devs.length ≤ kk by omega)
   have hq := roomN HQ2.out HW.out
   have ST := Aside0.mk (store_full wr 28 32 (b0 + 1) Tryz.sizeOf28 _ (encK key0) hq (encK_len _) (encK_len _) (encK_one _))
   have HF := Aside0.mk (setRow_heap wr (b0 + 1) _ (encK key0).toArray 28 (0, 0) hq)
   have HE := Aside0.mk (show Below w.heap.size w (wr.setRow (b0 + 1) (encK key0).toArray) from below_setRow (below_step HBW.out HW.out) (by have := HBB.out; omega) _)
   have BZ := Aside0.mk (build28z wr)
   obtain ⟨Y, hY⟩ : ∃ Y, Y = (encK key0).toArray := ⟨_, rfl⟩
   have HY := Aside0.mk (And.intro (show Y.size = 32 by rw [hY]; simp [encK_len]) hY)
   rw [← hY] at ST HF HE BZ
   clear hlt hkk hY hq
   go_wp2_with (first | ((with_reducible refine at_build 28 #[] ?_); refine wpList_valueW (by rfl) (.agg Y) wr (exec_build 28 _ _ rfl _ #[] (by simp) _ BZ.out) ?_) | ((with_reducible refine at_store 28 (.tmp 4) (.tmp 41) ?_); refine wpList_storeK rfl 28 (.tmp 4) (.tmp 41) rfl rfl _ _ rfl rfl _ ST.out ?_))
   try simp only [Exit.inBlock, Exit.then]
   refine bodyPost_ret (results_ct rfl _ _ (b0 + 1) 28 _ (0, 0) _ rfl HF.out Tryz.underlying28 rfl (by rw [HY.out.1]; kernel_rfl)) rfl ?_
   refine ⟨?_, HE.out⟩
   unfold CountsEnd
   rw [AL.out, List.drop_of_length_le HK.out, HY.out.2]
   rfl
  have hltz : (kk : Int) < (B.devs.length : Int) := by omega
  obtain ⟨d, hd⟩ : ∃ d, B.devs[kk]? = some d := ⟨_, List.getElem?_eq_getElem hlt⟩
  obtain ⟨g, o, hA, hk28⟩ := dev_keyAt HS.out hd
  subst hA
  have L28 := Aside0.mk hk28
  have HD := Aside0.mk hd
  have HON := Aside0.mk (own_drop n hd)
  have HKK := Aside0.mk (And.intro hkk hlt)
  have HFEW := Aside0.mk (show B.devs.length ≤ 8 from HOK.out.few)
  obtain ⟨kA, hkA⟩ : ∃ kA, kA = (encK d.key).toArray := ⟨_, rfl⟩
  have HKA := Aside0.mk hkA
  obtain ⟨vr, hvr⟩ : ∃ vr, vr = validRes (if live B d = true then some d.node else none) := ⟨_, rfl⟩
  have HV := Aside0.mk (fun (W : World) (hb : Below W0.heap.size W0 W) => (valid_src B d.key B.clock (some ⟨g, o, none⟩) c1 A2 c2 W (HS.out.later hb)).mono (fun e w' hh => (show e = .returned (validRes (if live B d = true then some d.node else none)) ∧ Below W0.heap.size W0 w' from ⟨by rw [hh.1, valid_dev (wf_of_ok HOK.out) (List.mem_of_getElem? HD.out)], below_step hb hh.2⟩)))
  rw [← hkA] at L28 HV
  rw [← HX.out, ← hvr] at HV
  have HVR := Aside0.mk hvr
  clear hk28 hd hkA hvr hkk hlt
  obtain ⟨lv, hlv⟩ : ∃ lv, lv = live B d := ⟨_, rfl⟩
  rw [← hlv] at HVR HON
  have HVV := Aside0.mk HVR.out
  clear hlv HVR
  cases lv with
  | false =>
   have hvv : vr = .tuple #[.int .i64 0, .bool false] := HVV.out
   subst hvv
   go_upto_region 4 with fail
   refine region_quietC (C := fun W => Below W0.heap.size W0 W) (by kernel_rfl) (by kernel_rfl) (HW.out.drew) ?_
   repeat (first | ((with_reducible refine at_ql 22 (.tmp 18) ?_); refine wpQuiet_loadK 22 (.tmp 18) rfl _ rfl _ (by kernel_rfl) (fun W hW => L22.out W hW) ?_; simp only [Act.put, List.setIfInBounds_toArray, List.set_cons_zero, List.set_cons_succ]) | ((with_reducible refine at_ql 3 (.tmp 24) ?_); refine wpQuiet_loadK 3 (.tmp 24) rfl _ rfl _ (by kernel_rfl) (fun W hW => L3.out W hW) ?_; simp only [Act.put, List.setIfInBounds_toArray, List.set_cons_zero, List.set_cons_succ]) | ((with_reducible refine at_ql 25 (.tmp 2) ?_); refine wpQuiet_loadK 25 (.tmp 2) rfl _ rfl _ (by kernel_rfl) (fun W hW => LB.out W hW) ?_; simp only [Act.put, List.setIfInBounds_toArray, List.set_cons_zero, List.set_cons_succ]) | ((with_reducible refine at_ql 28 (.tmp 22) ?_); refine wpQuiet_loadK 28 (.tmp 22) rfl _ rfl _ (by kernel_rfl) (fun W hW => L28.out W hW) ?_; simp only [Act.put, List.setIfInBounds_toArray, List.set_cons_zero, List.set_cons_succ]) | ((with_reducible refine at_qc 50 ?_); refine wpQuiet_callK Tryz.func50 (by kernel_rfl) rfl #[.agg X, .agg kA, .int .i64 B.clock] rfl (by simp only [List.map_toArray, List.map_cons, List.map_nil]; rfl) (.tuple #[.int .i64 0, .bool false]) (by kernel_rfl) (fun W hW => HV.out W hW) ?_; simp only [Act.put, List.setIfInBounds_toArray, List.set_cons_zero, List.set_cons_succ]) | go_big_quiet_step (exact fun _ => rfl))
   refine wpQuiet_nil ?_
   rintro wq hq
   have HQ := Aside0.mk hq
   clear hq
   go_wp2_with fail
   go_roundg (B.devs.length - (kk + 1))
   case measure => have := HKK.out; omega
   case rel => exact ⟨kk + 1, by have h1 := HKK.out; have h2 := HFEW.out; have h3 : wrap64 ((kk : Int) + 1) = ((kk + 1 : Nat) : Int) := (by unfold wrap64; omega); rw [h3], by have := HKK.out; omega, HQ, ⟨by rw [AL.out, HON.out, Bool.and_false]; rfl⟩⟩
  | true =>
   have hvv : vr = .tuple #[.int .i64 d.node, .bool true] := HVV.out
   subst hvv
   go_upto_region 4 with fail
   refine region_quietC (C := fun W => Below W0.heap.size W0 W) (by kernel_rfl) (by kernel_rfl) (HW.out.drew) ?_
   repeat (first | ((with_reducible refine at_ql 22 (.tmp 18) ?_); refine wpQuiet_loadK 22 (.tmp 18) rfl _ rfl _ (by kernel_rfl) (fun W hW => L22.out W hW) ?_; simp only [Act.put, List.setIfInBounds_toArray, List.set_cons_zero, List.set_cons_succ]) | ((with_reducible refine at_ql 3 (.tmp 24) ?_); refine wpQuiet_loadK 3 (.tmp 24) rfl _ rfl _ (by kernel_rfl) (fun W hW => L3.out W hW) ?_; simp only [Act.put, List.setIfInBounds_toArray, List.set_cons_zero, List.set_cons_succ]) | ((with_reducible refine at_ql 25 (.tmp 2) ?_); refine wpQuiet_loadK 25 (.tmp 2) rfl _ rfl _ (by kernel_rfl) (fun W hW => LB.out W hW) ?_; simp only [Act.put, List.setIfInBounds_toArray, List.set_cons_zero, List.set_cons_succ]) | ((with_reducible refine at_ql 28 (.tmp 22) ?_); refine wpQuiet_loadK 28 (.tmp 22) rfl _ rfl _ (by kernel_rfl) (fun W hW => L28.out W hW) ?_; simp only [Act.put, List.setIfInBounds_toArray, List.set_cons_zero, List.set_cons_succ]) | ((with_reducible refine at_qc 50 ?_); refine wpQuiet_callK Tryz.func50 (by kernel_rfl) rfl #[.agg X, .agg kA, .int .i64 B.clock] rfl (by simp only [List.map_toArray, List.map_cons, List.map_nil]; rfl) (.tuple #[.int .i64 d.node, .bool true]) (by kernel_rfl) (fun W hW => HV.out W hW) ?_; simp only [Act.put, List.setIfInBounds_toArray, List.set_cons_zero, List.set_cons_succ]) | go_big_quiet_step (exact fun _ => rfl))
   refine wpQuiet_nil ?_
   rintro wq hq
   have HQ := Aside0.mk hq
   clear hq
   by_cases hn : d.node = n
   ·have hnb : (d.node == n) = true := by simpa using hn
    have HN := Aside0.mk hn
    have hq := roomN HQ2.out HQ.out
    have l28 := Aside0.mk (L28.out wq HQ.out)
    have l2q := L2.out wq HQ.out
    rw [HKA.out] at l28
    have ST := Aside0.mk (store_full wq 28 32 (b0 + 1) Tryz.sizeOf28 _ (encK d.key) hq (encK_len _) (encK_len _) (encK_one _))
    have HF := Aside0.mk (setRow_heap wq (b0 + 1) _ (encK d.key).toArray 28 (0, 0) hq)
    have HE := Aside0.mk (show Below w.heap.size w (wq.setRow (b0 + 1) (encK d.key).toArray) from below_setRow (below_step HBW.out HQ.out) (by have := HBB.out; omega) _)
    rw [← HKA.out] at ST HF HE l28
    have HY := Aside0.mk (show kA.size = 32 by rw [HKA.out]; simp [encK_len])
    clear hn hq
    go_wp2_with (first | ((with_reducible refine at_load 28 (.tmp 39) ?_); refine wpList_loadK rfl 28 (.tmp 39) rfl _ rfl _ l28.out ?_) | ((with_reducible refine at_store 28 (.tmp 4) (.tmp 40) ?_); refine wpList_storeK rfl 28 (.tmp 4) (.tmp 40) rfl rfl _ _ rfl rfl _ ST.out ?_))
    try simp only [Exit.inBlock, Exit.then]
    refine bodyPost_ret (results_ct rfl _ _ (b0 + 1) 28 _ (0, 0) _ rfl HF.out Tryz.underlying28 rfl (by rw [HY.out]; kernel_rfl)) rfl ?_
    refine ⟨?_, HE.out⟩
    unfold CountsEnd
    rw [AL.out, HON.out, if_pos (by rw [decide_eq_true HN.out]; rfl), HKA.out]
    rfl
   ·have hnb : (d.node == n) = false := by simpa using hn
    have HN := Aside0.mk hn
    clear hn
    go_wp2_with fail
    go_roundg (B.devs.length - (kk + 1))
    case measure => have := HKK.out; omega
    case rel => exact ⟨kk + 1, by have h1 := HKK.out; have h2 := HFEW.out; have h3 : wrap64 ((kk : Int) + 1) = ((kk + 1 : Nat) : Int) := (by unfold wrap64; omega); rw [h3], by have := HKK.out; omega, HQ, ⟨by rw [AL.out, HON.out, decide_eq_false HN.out]; rfl⟩⟩
end Go.Proofs.YtmgbaefgcdglpaaGreatDoor.Net
end
section
namespace Go.Proofs.YtmgbaefgcdglpaaGreatDoor.Net
open Go Go.RowKit Go.Proofs Go.Proofs.YtmgbaefgcdglpaaGreatDoorW.PrintWords Go.Proofs.YtmgbaefgcdglpaaGreatDoorW.PrintLast Go.Proofs.YtmgbaefgcdglpaaGreatDoorW.PrintMore Go.Proofs.YtmgbaefgcdglpaaGreatDoor.Dir
set_option linter.unusedVariables false
set_option linter.unusedSimpArgs false
def delV (f t c n : Int) (k : Key) (e : Int) (g s : Value) : List Value := .int .i64 f :: .int .i64 t :: .int .i64 c :: .int .i64 n :: (encK k ++ [.int .i64 e, g, s])
theorem delV_len (f t c n : Int) (k : Key) (e : Int) (g s : Value) : (delV f t c n k e g s).length = 39 := by unfold delV; simp [encK_len]
theorem delV_one (f t c n : Int) (k : Key) (e : Int) (g s : Value) (hg : g.oneCell' = true) (hs : s.oneCell' = true) : ∀ u ∈ delV f t c n k e g s, u.oneCell' = true := by
 intro u hu
 unfold delV at hu
 simp only [List.mem_cons, List.mem_append, List.not_mem_nil, or_false] at hu
 rcases hu with rfl | rfl | rfl | rfl | hu | rfl | rfl | rfl
 ·rfl
 ·rfl
 ·rfl
 ·rfl
 ·exact encK_one k u hu
 ·rfl
 ·exact hg
 ·exact hs
theorem delV37 (f t c n : Int) (k : Key) (e : Int) (g s : Value) : (delV f t c n k e g s)[37]? = some g := by
 unfold delV
 rw [List.getElem?_cons_succ, List.getElem?_cons_succ, List.getElem?_cons_succ, List.getElem?_cons_succ, List.getElem?_append_right (by rw [encK_len]; decide), encK_len]; rfl
theorem delV38 (f t c n : Int) (k : Key) (e : Int) (g s : Value) : (delV f t c n k e g s)[38]? = some s := by
 unfold delV
 rw [List.getElem?_cons_succ, List.getElem?_cons_succ, List.getElem?_cons_succ, List.getElem?_cons_succ, List.getElem?_append_right (by rw [encK_len]; decide), encK_len]; rfl
theorem delV_set37 (f t c n : Int) (k : Key) (e : Int) (g s x : Value) : (delV f t c n k e g s).set 37 x = delV f t c n k e x s := by
 unfold delV
 rw [List.set_cons_succ, List.set_cons_succ, List.set_cons_succ, List.set_cons_succ, List.set_append_right _ _ (by rw [encK_len]; decide), encK_len]; rfl
theorem delV_set38 (f t c n : Int) (k : Key) (e : Int) (g s x : Value) : (delV f t c n k e g s).set 38 x = delV f t c n k e g x := by
 unfold delV
 rw [List.set_cons_succ, List.set_cons_succ, List.set_cons_succ, List.set_cons_succ, List.set_append_right _ _ (by rw [encK_len]; decide), encK_len]; rfl
abbrev nilV : Value := .slice none 0 0
def places55 : Array (Nat × Nat) := #[(0, 1), (1, 1), (2, 1), (3, 1), (4, 32), (36, 1), (37, 1), (38, 1)]
set_option maxRecDepth 100000 in
theorem zero55 (w : World) : (zeroValue 55).run Tryz.prog w = .ok (.agg (delV 0 0 0 0 key0 0 nilV nilV).toArray) w := by first | exact Tryz.zeroValue55 w | (rw [Tryz.zeroValue55]; first | rfl | kernel_rfl)
set_option maxRecDepth 100000 in
theorem run_build55 (w : World) (parts : Array (Nat × Value)) (cs : Array Value) (hf : Instr.fill (places55[·]?) (delV 0 0 0 0 key0 0 nilV nilV).toArray parts.toList = some cs) : (Instr.build 55 parts).run Tryz.prog w = .ok (.agg cs) w := by
 have hz := zero55 w
 unfold places55 at hf
 generalize delV 0 0 0 0 key0 0 nilV nilV = Z at hf hz
 simp only [Instr.build, Sem.run_bind, hz, Result.andThen_ok, run_underlying Tryz.underlying55, Value.cells]
 simp only [List.mapM_toArray, List.mapM_cons, List.mapM_nil, Sem.run_bind, Sem.run_map, Sem.run_pure, Result.andThen_ok, Tryz.sizeOf3, Tryz.sizeOf28, Tryz.sizeOf53, Tryz.sizeOf29, Functor.map]
 have hb : ∀ {α β : Type} (x : Sem α) (f : α → Sem β), Sem.bind x f = x >>= f := fun _ _ => rfl
 simp only [hb, Sem.run_bind, Sem.run_pure, Result.andThen_ok, Tryz.sizeOf3, Tryz.sizeOf28, Tryz.sizeOf53, Tryz.sizeOf29, Function.comp]
 change ((Result.ok (#[(0, 1), (1, 1), (2, 1), (3, 1), (4, 32), (36, 1), (37, 1), (38, 1)] : Array (Nat × Nat)) w).andThen fun a w' => _) = _
 simp only [Result.andThen_ok]
 rw [hf]
 rfl
theorem build55z (w : World) : (Instr.build 55 #[]).run Tryz.prog w = .ok (.agg (delV 0 0 0 0 key0 0 nilV nilV).toArray) w := run_build55 w _ _ rfl
theorem build55 (w : World) (f t c n : Int) (k : Key) (e : Int) : (Instr.build 55 #[(0, .int .i64 f), (1, .int .i64 t), (2, .int .i64 c), (3, .int .i64 n), (4, .agg (encK k).toArray), (5, .int .i64 e)]).run Tryz.prog w = .ok (.agg (delV f t c n k e nilV nilV).toArray) w := by
 refine run_build55 w _ _ ?_
 refine (fill_at _ (delV 0 0 0 0 key0 0 nilV nilV) (delV f 0 0 0 key0 0 nilV nilV) 0 _ _ 0 1 rfl rfl (by simp [delV_len]) rfl).trans ?_
 refine (fill_at _ (delV f 0 0 0 key0 0 nilV nilV) (delV f t 0 0 key0 0 nilV nilV) 1 _ _ 1 1 rfl rfl (by simp [delV_len]) rfl).trans ?_
 refine (fill_at _ (delV f t 0 0 key0 0 nilV nilV) (delV f t c 0 key0 0 nilV nilV) 2 _ _ 2 1 rfl rfl (by simp [delV_len]) rfl).trans ?_
 refine (fill_at _ (delV f t c 0 key0 0 nilV nilV) (delV f t c n key0 0 nilV nilV) 3 _ _ 3 1 rfl rfl (by simp [delV_len]) rfl).trans ?_
 refine (fill_at _ (delV f t c n key0 0 nilV nilV) (delV f t c n k 0 nilV nilV) 4 _ _ 4 32 rfl (by simp [Value.cells, encK_len]) (by simp [delV_len]) ?_).trans ?_
 ·exact splice_mid [.int .i64 f, .int .i64 t, .int .i64 c, .int .i64 n] (encK key0) [.int .i64 0, nilV, nilV] (encK k) 4 rfl (by rw [encK_len, encK_len])
 refine (fill_at _ (delV f t c n k 0 nilV nilV) (delV f t c n k e nilV nilV) 5 _ _ 36 1 rfl rfl (by simp [delV_len]) ?_).trans rfl
 have := splice_mid (.int .i64 f :: .int .i64 t :: .int .i64 c :: .int .i64 n :: encK k) [.int .i64 0] [nilV, nilV] [.int .i64 e] 36 (by simp [encK_len]) rfl
 simpa [delV, Value.cells] using this
abbrev kInt : Kd Int := Kd.int .i64
structure OnD (a b : NMap) (w w5 : World) (b6 : Nat) (g : List Int) (s : List Peer) (W : World) : Prop where
 lo : Below w.heap.size w W
 kp : KeepBut w5 W b6 none
 row : ∃ vg vs, W.heap[b6]? = some (.cells (delV a.ver b.ver b.clock b.node b.key b.exp vg vs).toArray 55 (0, 0)) ∧ kInt.R 3 W w5.heap.size (fun k => w5.heap.size ≤ k) vg g ∧ kPeer.R 48 W w5.heap.size (fun k => w5.heap.size ≤ k) vs s
theorem OnD.grow {a b : NMap} {w w5 W W' : World} {b6 : Nat} {g : List Int} {s : List Peer} (h : OnD a b w w5 b6 g s W) (hb : Below W.heap.size W W') : OnD a b w w5 b6 g s W' := by
 obtain ⟨vg, vs, h1, h2, h3⟩ := h.row
 refine ⟨h.lo.trans (hb.mono h.lo.size), ⟨Nat.le_trans h.kp.1 hb.size, fun i hi hg hr => ?_⟩, vg, vs, roomN h1 hb, Kd.R_below h2 hb, Kd.R_below h3 hb⟩
 rw [hb.block i (Nat.lt_of_lt_of_le hi h.kp.1)]
 exact h.kp.2 i hi hg hr
theorem row_block {α : Type} {d : Kd α} {e base : Nat} {ok : Nat → Prop} {w : World} {v : Value} {xs : List α} (h : d.R e w base ok v xs) {k : Nat} (hk : v.ownBlock = some k) : ∃ q, q ∈ e :: d.E ∧ ∃ cells, w.heap[k]? = some (.cells cells q (0, 0)) := ((Kd.R_bound h).1 k hk).2.2.2
theorem OnD.gone {a b : NMap} {w w5 W w1 : World} {b6 : Nat} {g : List Int} {s : List Peer} {x : Int} {vg vs v1 : Value} (h : OnD a b w w5 b6 g s W) (hb : w.heap.size ≤ b6) (h5 : b6 < w5.heap.size)
  (hrow : W.heap[b6]? = some (.cells (delV a.ver b.ver b.clock b.node b.key b.exp vg vs).toArray 55 (0, 0))) (hG : kInt.R 3 W w5.heap.size (fun k => w5.heap.size ≤ k) vg g) (hS : kPeer.R 48 W w5.heap.size (fun k => w5.heap.size ≤ k) vs s)
  (hR : kInt.R 3 w1 w5.heap.size (fun k => w5.heap.size ≤ k) v1 (g ++ [x])) (hbel : Below w5.heap.size W w1) (hgr : W.grownBy w1 vg.ownBlock) : OnD a b w w5 b6 (g ++ [x]) s (w1.setCell ⟨b6, 37, none⟩ v1) := by
 have hr1 := (hbel.block b6 h5).trans hrow
 have hS1 : kPeer.R 48 w1 w5.heap.size (fun k => w5.heap.size ≤ k) vs s := by
  cases ho : vg.ownBlock with
  | none => rw [ho] at hgr; exact Kd.R_grown hS hgr (fun k _ e => by cases e)
  | some k0 =>
   rw [ho] at hgr
   obtain ⟨q, hq, cells, hc⟩ := row_block hG ho
   have hq : q ∈ [3] := hq
   have hq : q = 3 := by simpa using hq
   subst hq
   exact Kd.R_mono (Kd.R_grown (Kd.R_types hS hc (by decide)) hgr (fun k hk e => hk.2 (Option.some.inj e))) (fun _ hk => hk.1)
 refine ⟨(h.lo.trans (hbel.mono (by omega))).setCell hb _, ⟨by simpa using Nat.le_trans h.kp.1 hbel.size, fun i hi hg hr => ?_⟩, v1, vs, ?_, Kd.R_far hR (fun k hk => by show k ≠ b6; omega) v1, Kd.R_far hS1 (fun k hk => by show k ≠ b6; omega) v1⟩
 ·rw [Below.heap_setCell _ _ _ _ hg, hbel.block i hi]
  exact h.kp.2 i hi hg hr
 ·have := Go.heap_setCell_same w1 b6 37 _ _ v1 hr1
  rw [this]
  simp only [List.setIfInBounds_toArray, delV_set37]
theorem OnD.put {a b : NMap} {w w5 W w1 : World} {b6 : Nat} {g : List Int} {s : List Peer} {x : Peer} {vg vs v1 : Value} (h : OnD a b w w5 b6 g s W) (hb : w.heap.size ≤ b6) (h5 : b6 < w5.heap.size)
  (hrow : W.heap[b6]? = some (.cells (delV a.ver b.ver b.clock b.node b.key b.exp vg vs).toArray 55 (0, 0))) (hG : kInt.R 3 W w5.heap.size (fun k => w5.heap.size ≤ k) vg g) (hS : kPeer.R 48 W w5.heap.size (fun k => w5.heap.size ≤ k) vs s)
  (hR : kPeer.R 48 w1 w5.heap.size (fun k => w5.heap.size ≤ k) v1 (s ++ [x])) (hbel : Below w5.heap.size W w1) (hgr : W.grownBy w1 vs.ownBlock) : OnD a b w w5 b6 g (s ++ [x]) (w1.setCell ⟨b6, 38, none⟩ v1) := by
 have hr1 := (hbel.block b6 h5).trans hrow
 have hG1 : kInt.R 3 w1 w5.heap.size (fun k => w5.heap.size ≤ k) vg g := Kd.R_grown2 hG rfl hgr (fun k hk => by
  obtain ⟨q, hq, cells, hc⟩ := row_block hS hk
  have hq2 : 3 ≠ q := by
   intro e
   subst e
   revert hq
   decide
  exact Kd.R_ne hG hc hq2)
 refine ⟨(h.lo.trans (hbel.mono (by omega))).setCell hb _, ⟨by simpa using Nat.le_trans h.kp.1 hbel.size, fun i hi hg hr => ?_⟩, vg, v1, ?_, Kd.R_far hG1 (fun k hk => by show k ≠ b6; omega) v1, Kd.R_far hR (fun k hk => by show k ≠ b6; omega) v1⟩
 ·rw [Below.heap_setCell _ _ _ _ hg, hbel.block i hi]
  exact h.kp.2 i hi hg hr
 ·have := Go.heap_setCell_same w1 b6 38 _ _ v1 hr1
  rw [this]
  simp only [List.setIfInBounds_toArray, delV_set38]
end Go.Proofs.YtmgbaefgcdglpaaGreatDoor.Net
end
section
namespace Go.Proofs.YtmgbaefgcdglpaaGreatDoor.Net
open Go Go.RowKit Go.Proofs Go.Proofs.YtmgbaefgcdglpaaGreatDoorW.PrintWords Go.Proofs.YtmgbaefgcdglpaaGreatDoorW.PrintLast Go.Proofs.YtmgbaefgcdglpaaGreatDoorW.PrintMore Go.Proofs.YtmgbaefgcdglpaaGreatDoor.Dir
set_option linter.unusedVariables false
set_option linter.unusedSimpArgs false
theorem und29 : Tryz.prog.underlying 29 = some (.slice (Tryz.prog.elem 29)) := by kernel_rfl
theorem siz29 (W : World) : (sizeOf (Tryz.prog.elem 29)).run Tryz.prog W = .ok 36 W := by rw [show Tryz.prog.elem 29 = 48 by kernel_rfl]; exact Tryz.sizeOf48 W
theorem slice29 (A : Option Addr) (n c : Nat) (h1 : 1 ≤ n) (hc : n ≤ c) (W : World) : (Instr.slice 29 (.slice A n c) (some (.int .i64 1)) none none).run Tryz.prog W = .ok (.slice (if c = 1 then A else A.map (·.add 36)) (n - 1) (c - 1)) W := by
 have := run_slice_l W 29 A n c und29 .i64 1 (by omega) (by omega)
 rw [this, siz29]
 simp [sliced]
theorem PsAt.tail {w : World} {A : Option Addr} {c : Nat} {p : Peer} {l : List Peer} (h : PsAt w A c (p :: l)) : PsAt w (if c = 1 then A else A.map (·.add 36)) (c - 1) l := by
 have h1 := h.1
 rw [List.length_cons] at h1
 have hl := h.len
 rw [List.length_cons] at hl
 by_cases hc : c = 1
 ·rw [if_pos hc]
  have : l = [] := List.length_eq_zero_iff.1 (by omega)
  subst this
  exact PsAt.nil _ _ _
 ·rw [if_neg hc]
  refine ⟨by omega, rfl, by omega, fun h0 => ?_⟩
  obtain ⟨g, o, -, -, -, -, hA, -, -⟩ := h.get (j := 0) (p := p) rfl
  obtain ⟨ad, hA2, hcell⟩ := h.2.2.2 (by simp)
  rw [hA] at hA2
  cases hA2
  subst hA
  refine ⟨_, rfl, fun j q hj => ?_⟩
  obtain ⟨cs, hl, hK, hc2⟩ := hcell (j + 1) q (by simpa using hj)
  refine ⟨cs, hl, hK, fun i u hu => ?_⟩
  have h3 := hc2 i u hu
  have hs : kPeer.sz = 36 := rfl
  rw [hs] at h3 ⊢
  rw [Dir.add_at] at h3
  show w.cell? (((⟨g, o, none⟩ : Addr).add 36).add (j * 36 + i)) = _
  rw [Dir.add_at, Dir.add_at, show o + 36 + (j * 36 + i) = o + ((j + 1) * 36 + i) by omega]
  exact h3
end Go.Proofs.YtmgbaefgcdglpaaGreatDoor.Net
end
section
namespace Go.Proofs.YtmgbaefgcdglpaaGreatDoor.Net
open Go Go.RowKit Go.Proofs Go.Proofs.YtmgbaefgcdglpaaGreatDoorW.PrintWords Go.Proofs.YtmgbaefgcdglpaaGreatDoorW.PrintLast Go.Proofs.YtmgbaefgcdglpaaGreatDoorW.PrintMore Go.Proofs.YtmgbaefgcdglpaaGreatDoor.Dir
set_option linter.unusedVariables false
set_option linter.unusedSimpArgs false
theorem okM_few {m : NMap} (h : okM m = true) : m.peers.length ≤ 8 := by
 rw [← peers_read h]
 exact Nat.le_trans (List.length_filterMap_le _ _) (by decide)
theorem peersGo_spans (c s : Int) : ∀ (l : List Peer) (last : Int) (ks : List Key), peersGo c s last ks l = true → ∀ p ∈ l, p.inn.length ≤ 33 ∧ p.out.length ≤ 33
 | [], _, _, _, p, hp => by cases hp
 | q :: l, last, ks, h, p, hp => by
  unfold peersGo at h
  rw [Bool.and_eq_true] at h
  rcases List.mem_cons.1 hp with rfl | hp
  ·have h1 := h.1
   unfold peerOk at h1
   simp only [Bool.and_eq_true] at h1
   have ha := h1.1.1.2
   have hb := h1.1.2
   unfold spansOk at ha hb
   rw [Bool.and_eq_true] at ha hb
   exact ⟨of_decide_eq_true ha.2, of_decide_eq_true hb.2⟩
  ·exact peersGo_spans c s l q.node _ h.2 p hp
theorem okM_spans {m : NMap} (h : okM m = true) {p : Peer} (hp : p ∈ m.peers) : p.inn.length ≤ 33 ∧ p.out.length ≤ 33 := by
 unfold okM headOk at h
 simp only [Bool.and_eq_true] at h
 have h2 := h.2.2
 by_cases hk : m.key = key0
 ·rw [if_pos hk, Bool.and_eq_true] at h2
  have h3 := h2.2
  rw [List.isEmpty_iff] at h3
  rw [h3] at hp
  cases hp
 ·rw [if_neg hk] at h2
  simp only [Bool.and_eq_true] at h2
  exact peersGo_spans _ _ _ _ _ h2.2 p hp
theorem diff_step {p : Peer} {l old tk old' : List Peer} {g : List Int} {s : List Peer} (h : old = tk ++ old') (ht : ∀ q ∈ tk, q.node < p.node) (h2 : ∀ q r, old' = q :: r → ¬ q.node < p.node) : diffGo (p :: l) old g s = (match old' with
  | [] => diffGo l [] (g ++ tk.map (·.node)) (s ++ [p])
  | q :: r => if q.node = p.node then (if q = p then diffGo l r (g ++ tk.map (·.node)) s else diffGo l r (g ++ tk.map (·.node)) (s ++ [p])) else diffGo l (q :: r) (g ++ tk.map (·.node)) (s ++ [p])) := by
 have e1 : old.takeWhile (fun q => decide (q.node < p.node)) = tk := by
  rw [h, List.takeWhile_append_of_pos (by intro q hq; simpa using ht q hq)]
  cases old' with
  | nil => simp
  | cons q r => rw [List.takeWhile_cons_of_neg (by simpa using h2 q r rfl), List.append_nil]
 have e2 : old.dropWhile (fun q => decide (q.node < p.node)) = old' := by
  rw [h, List.dropWhile_append_of_pos (by intro q hq; simpa using ht q hq)]
  cases old' with
  | nil => rfl
  | cons q r => rw [List.dropWhile_cons_of_neg (by simpa using h2 q r rfl)]
 rw [diffGo, e1, e2]
 cases old' <;> rfl
theorem exec_bslice {P : Program} {w w' : World} (t : TypeId) (n : Nat) (fs : Array (Nat × Operand)) (o : Oper) (ho : o.op = .buildSlice t n fs) (a : Act) (vs : Array (Nat × Value)) (he : (fs.map fun (i, x) => (i, a.eval x)) = vs) (r : Value)
  (hr : (Instr.buildSlice t n vs).run P w = .ok r w') : (execOp a.eval o).run P w = .ok (.value r) w' := by
 subst he
 unfold execOp
 simp only [ho, Sem.run_bind]
 rw [hr]
 rfl
theorem exec_index {P : Program} {w w' : World} (t : TypeId) (x y : Operand) (o : Oper) (ho : o.op = .indexAddr t x y) (a : Act) (u v : Value) (hx : a.eval x = u) (hy : a.eval y = v) (r : Value)
  (hr : (Instr.indexAt t u v).run P w = .ok r w') : (execOp a.eval o).run P w = .ok (.value r) w' := by
 subst hx hy
 unfold execOp
 simp only [ho, Sem.run_bind]
 rw [hr]
 rfl
theorem exec_slice1 {P : Program} {w w' : World} (t : TypeId) (x y : Operand) (o : Oper) (ho : o.op = .slice t x (some y) none none) (a : Act) (u v : Value) (hx : a.eval x = u) (hy : a.eval y = v) (r : Value)
  (hr : (Instr.sliceAt t u (some v) none none).run P w = .ok r w') : (execOp a.eval o).run P w = .ok (.value r) w' := by
 subst hx hy
 unfold execOp
 simp only [ho, Sem.run_bind, Option.map_some, Option.map_none]
 rw [hr]
 rfl
theorem at_slice {P : Program} {ops : Array Oper} {rest : List Oper} {dst : Option Tmp} {ty : TypeId} {pos : String} {after : Array Edge} {g : Option (Nat × Bool)} {a : Act} {w : World} {Q : Exit → Act → World → Prop} (t : TypeId) (x y : Operand) (h : wpList P ops Q (⟨dst, .slice t x (some y) none none, ty, pos, after, g⟩ :: rest) a w) : wpList P ops Q (⟨dst, .slice t x (some y) none none, ty, pos, after, g⟩ :: rest) a w := h
theorem sliceAt29 (A : Option Addr) (n c : Nat) (h1 : 1 ≤ n) (hc : n ≤ c) (W : World) : (Instr.sliceAt 29 (.slice A n c) (some (.int .i64 1)) none none).run Tryz.prog W = .ok (.slice (if c = 1 then A else A.map (·.add 36)) (n - 1) (c - 1)) W := by
 have := slice29 A n c h1 hc W
 unfold Instr.sliceAt
 simp only [Sem.run_bind, run_underlying und29, Result.andThen_ok]
 exact this
theorem sliceAt29c (A : Option Addr) (q : Peer) (r : List Peer) (c : Nat) (hc : (q :: r).length ≤ c) (W : World) : (Instr.sliceAt 29 (.slice A (q :: r).length c) (some (.int .i64 1)) none none).run Tryz.prog W = .ok (.slice (if c = 1 then A else A.map (·.add 36)) r.length (c - 1)) W :=
 sliceAt29 A (q :: r).length c (by simp) hc W
theorem indexAt29 (g o n c : Nat) (h : 0 < n) (W : World) : (Instr.indexAt 29 (.slice (some ⟨g, o, none⟩) n c) (.int .i64 0)).run Tryz.prog W = .ok (.pointer (some ⟨g, o, none⟩)) W := by
 have hs := siz29 W
 simp [Instr.indexAt, run_underlying und29, asInt, hs, Result.andThen, h, go_sem]
theorem field55_6 (w : World) (b : Nat) : (Instr.fieldAt 55 (.pointer (some ⟨b, 0, none⟩)) 6).run Tryz.prog w = .ok (.pointer (some ⟨b, 37, none⟩)) w := by
 simp [Instr.fieldAt, run_underlying Tryz.underlying55, Instr.sureAddr, fieldPlace, go_sem]
theorem field55_7 (w : World) (b : Nat) : (Instr.fieldAt 55 (.pointer (some ⟨b, 0, none⟩)) 7).run Tryz.prog w = .ok (.pointer (some ⟨b, 38, none⟩)) w := by
 simp [Instr.fieldAt, run_underlying Tryz.underlying55, Instr.sureAddr, fieldPlace, go_sem]
theorem field48_0 (w : World) (b o : Nat) : (Instr.fieldAt 48 (.pointer (some ⟨b, o, none⟩)) 0).run Tryz.prog w = .ok (.pointer (some ⟨b, o, none⟩)) w := by
 simp [Instr.fieldAt, run_underlying Tryz.underlying48, Instr.sureAddr, fieldPlace, go_sem]
theorem buildI (w : World) (n : Int) : (Instr.buildSlice 53 1 #[(0, .int .i64 n)]).run Tryz.prog w = .ok (.slice (some ⟨w.heap.size, 0, none⟩) 1 1) (w.alloc (.cells #[.int .i64 n] 3)) := by
 have hz := Tryz.zeroValue3 w
 have hs := Tryz.sizeOf3 w
 simp [Instr.buildSlice, run_underlying Tryz.underlying53, hz, hs, Instr.fill, Value.cells, go_sem]
theorem grown_of_below {w W : World} {row : Option Nat} (h : Below w.heap.size w W) : w.grownBy W row := ⟨h.os, h.tape, h.output, h.size, fun k hk _ => h.block k hk⟩
theorem wanted_true {P : Program} {o : Oper} {a : Act} {w : World} {K : Act → World → Prop} {Q : Exit → Act → World → Prop} {ops : Array Oper} {X : Prop} (hg : o.guard = none) (h : if Region.wanted o (yielded ops a.tmps) = true then o.wp P a w K Q else X) : o.wp P a w K Q := by
 have hw : Region.wanted o (yielded ops a.tmps) = true := by unfold Region.wanted; rw [hg]
 rw [if_pos hw] at h
 exact h
theorem OnD.keep {a b : NMap} {w w5 W : World} {b6 : Nat} {g : List Int} {s : List Peer} {k : Nat} {cells : Array Value} {q : Nat} (h : OnD a b w w5 b6 g s W) (hk : W.heap[k]? = some (.cells cells q (0, 0))) (hq : q ≠ 3 ∧ q ≠ 80) : ∀ vg, kInt.R 3 W w5.heap.size (fun k => w5.heap.size ≤ k) vg g → some k ≠ vg.ownBlock := by
 intro vg hG e
 exact Kd.R_ne hG hk (fun e2 => hq.1 e2.symm) e
section
variable (b6 ga oa n c : Nat) (A : Option Addr) (x : Int) (vg : Value)
def G11 : Nat → Value → World → Prop := fun i v _ => match i with
 | 0 => v = .pointer (some ⟨b6, 37, none⟩)
 | 1 => v = vg
 | 2 => v = .slice (some ⟨ga, oa, none⟩) n c
 | 3 => v = .pointer (some ⟨ga, oa, none⟩)
 | 4 => v = .pointer (some ⟨ga, oa, none⟩)
 | 5 => v = .int .i64 x
 | 8 => v = .pointer (some ⟨b6, 37, none⟩)
 | _ => True
end
structure M11 (a b : NMap) (w w5 : World) (b6 : Nat) (g : List Int) (s : List Peer) (x : Int) (vg : Value) (wr : World) (l : Array Bool) (y : Act) (W : World) : Prop where
 s0 : l.getD 6 false = false → Below wr.heap.size wr W
 s1 : l.getD 6 false = true → l.getD 7 false = false → ∃ Wp, W = Wp.alloc (.cells #[.int .i64 x] 3) ∧ Below wr.heap.size wr Wp ∧ y.tmps.getD 77 undef = .slice (some ⟨Wp.heap.size, 0, none⟩) 1 1
 s2 : l.getD 7 false = true → l.getD 9 false = false → kInt.R 3 W w5.heap.size (fun k => w5.heap.size ≤ k) (y.tmps.getD 78 undef) (g ++ [x]) ∧ Below w5.heap.size wr W ∧ wr.grownBy W vg.ownBlock
 s3 : l.getD 9 false = true → OnD a b w w5 b6 (g ++ [x]) s W ∧ KeepBut wr W b6 vg.ownBlock
theorem M11.cell {a b : NMap} {w w5 : World} {b6 : Nat} {g : List Int} {s : List Peer} {x : Int} {vg : Value} {wr : World} {l : Array Bool} {y : Act} {W : World} (h : M11 a b w w5 b6 g s x vg wr l y W) (h7 : ¬ l.getD 7 false = true) : Below wr.heap.size wr W := by
 have h7 : l.getD 7 false = false := by simpa using h7
 cases h6 : l.getD 6 false with
 | false => exact h.s0 h6
 | true =>
  obtain ⟨Wp, rfl, h1, -⟩ := h.s1 h6 h7
  exact h1.alloc h1.size _
theorem M11.step {a b : NMap} {w w5 : World} {b6 : Nat} {g : List Int} {s : List Peer} {x : Int} {vg : Value} {wr : World} {l : Array Bool} {y y' : Act} {W : World} {i : Nat} (h : M11 a b w w5 b6 g s x vg wr l y W) (h6 : i ≠ 6) (h7 : i ≠ 7) (h9 : i ≠ 9) (e1 : y'.tmps.getD 77 undef = y.tmps.getD 77 undef) (e2 : y'.tmps.getD 78 undef = y.tmps.getD 78 undef) : M11 a b w w5 b6 g s x vg wr (l.setIfInBounds i true) y' W := by
 refine ⟨?_, ?_, ?_, ?_⟩
 ·rw [setB h6]; exact h.s0
 ·rw [setB h6, setB h7, e1]; exact h.s1
 ·rw [setB h7, setB h9, e2]; exact h.s2
 ·rw [setB h9]; exact h.s3
section
variable (b6 nb : Nat) (p : Peer) (X : Array Value) (vs : Value)
def G17 : Nat → Value → World → Prop := fun i v _ => match i with
 | 0 => v = .pointer (some ⟨b6, 38, none⟩)
 | 1 => v = vs
 | 2 => v = .agg X
 | 6 => v = .pointer (some ⟨b6, 38, none⟩)
 | _ => True
end
structure M17 (a b : NMap) (w w5 : World) (b6 : Nat) (g : List Int) (s : List Peer) (p : Peer) (vs : Value) (wr : World) (l : Array Bool) (y : Act) (W : World) : Prop where
 s0 : l.getD 4 false = false → Below wr.heap.size wr W
 s1 : l.getD 3 false = true → l.getD 4 false = false → ∃ x1 x2, y.tmps.getD 105 undef = .agg (peerV p x1 x2).toArray ∧ kSp.R 80 W wr.heap.size (fun k => wr.heap.size ≤ k) x1 p.inn ∧ kSp.R 80 W wr.heap.size (fun k => wr.heap.size ≤ k) x2 p.out
 s2 : l.getD 4 false = true → l.getD 5 false = false → ∃ Wp x1 x2, W = Wp.alloc (.cells (peerV p x1 x2).toArray 48) ∧ Below wr.heap.size wr Wp ∧ y.tmps.getD 106 undef = .slice (some ⟨Wp.heap.size, 0, none⟩) 1 1 ∧ kSp.R 80 Wp wr.heap.size (fun k => wr.heap.size ≤ k) x1 p.inn ∧ kSp.R 80 Wp wr.heap.size (fun k => wr.heap.size ≤ k) x2 p.out
 s3 : l.getD 5 false = true → l.getD 7 false = false → kPeer.R 48 W w5.heap.size (fun k => w5.heap.size ≤ k) (y.tmps.getD 107 undef) (s ++ [p]) ∧ Below w5.heap.size wr W ∧ wr.grownBy W vs.ownBlock
 s4 : l.getD 7 false = true → OnD a b w w5 b6 g (s ++ [p]) W
theorem M17.cell {a b : NMap} {w w5 : World} {b6 : Nat} {g : List Int} {s : List Peer} {p : Peer} {vs : Value} {wr : World} {l : Array Bool} {y : Act} {W : World} (h : M17 a b w w5 b6 g s p vs wr l y W) (h5 : ¬ l.getD 5 false = true) : Below wr.heap.size wr W := by
 have h5 : l.getD 5 false = false := by simpa using h5
 cases h4 : l.getD 4 false with
 | false => exact h.s0 h4
 | true =>
  obtain ⟨Wp, x1, x2, rfl, h1, -⟩ := h.s2 h4 h5
  exact h1.alloc h1.size _
theorem M17.step {a b : NMap} {w w5 : World} {b6 : Nat} {g : List Int} {s : List Peer} {p : Peer} {vs : Value} {wr : World} {l : Array Bool} {y y' : Act} {W : World} {i : Nat} (h : M17 a b w w5 b6 g s p vs wr l y W) (h3 : i ≠ 3) (h4 : i ≠ 4) (h5 : i ≠ 5) (h7 : i ≠ 7) (e1 : y'.tmps.getD 105 undef = y.tmps.getD 105 undef) (e2 : y'.tmps.getD 106 undef = y.tmps.getD 106 undef) (e3 : y'.tmps.getD 107 undef = y.tmps.getD 107 undef) : M17 a b w w5 b6 g s p vs wr (l.setIfInBounds i true) y' W := by
 refine ⟨?_, ?_, ?_, ?_, ?_⟩
 ·rw [setB h4]; exact h.s0
 ·rw [setB h3, setB h4, e1]; exact h.s1
 ·rw [setB h4, setB h5, e2]; exact h.s2
 ·rw [setB h5, setB h7, e3]; exact h.s3
 ·rw [setB h7]; exact h.s4
end Go.Proofs.YtmgbaefgcdglpaaGreatDoor.Net
end
section
namespace Go.Proofs.YtmgbaefgcdglpaaGreatDoor.Net
open Go Go.RowKit Go.Proofs Go.Proofs.YtmgbaefgcdglpaaGreatDoorW.PrintWords Go.Proofs.YtmgbaefgcdglpaaGreatDoorW.PrintLast Go.Proofs.YtmgbaefgcdglpaaGreatDoorW.PrintMore Go.Proofs.YtmgbaefgcdglpaaGreatDoor.Dir
set_option linter.unusedVariables false
set_option linter.unusedSimpArgs false
set_option maxHeartbeats 4000000 in
set_option maxRecDepth 100000 in
theorem same121 (l m : List Sp) (A0 A1 : Option Addr) (c0 c1 : Nat) (w : World) (h0 : SpAt w A0 c0 l) (h1 : SpAt w A1 c1 m) :
  Calls Tryz.prog 121 #[.slice A0 l.length c0, .slice A1 m.length c1, .func (.func 122) #[] #[]] w fun e w' => e = .returned (.bool (decide (l = m))) ∧ Below w.heap.size w w' := by
 have hcall := Aside0.mk (equalFunc168 l m A0 A1 c0 c1 w h0 h1)
 clear h0 h1
 go_enter Tryz.func121, Tryz.ntmps121
 go_wp2_with (go_at_call 168; refine hcall.out.mono ?_; rintro e w' ⟨rfl, hb⟩)
 go_ret
 exact ⟨rfl, hb⟩
set_option maxHeartbeats 4000000 in
set_option maxRecDepth 100000 in
theorem equalPeer68 (p q : Peer) (A1 A2 A3 A4 : Option Addr) (c1 c2 c3 c4 : Nat) (w : World) (hp : PIn w p A1 c1 A2 c2) (hq : PIn w q A3 c3 A4 c4) :
  Calls Tryz.prog 68 #[.agg (peerCells p A1 c1 A2 c2).toArray, .agg (peerCells q A3 c3 A4 c4).toArray] w fun e w' => e = .returned (.bool (decide (p = q))) ∧ Below w.heap.size w w' := by
 obtain ⟨W0, hW0⟩ : ∃ W0, W0 = (w.alloc (.cells (peerCells p A1 c1 A2 c2).toArray 48)).alloc (.cells (peerCells q A3 c3 A4 c4).toArray 48) := ⟨_, rfl⟩
 obtain ⟨b0, hb0⟩ : ∃ b0, b0 = w.heap.size := ⟨_, rfl⟩
 have hbw : Below w.heap.size w W0 := by rw [hW0]; exact ((Below.refl _ w).alloc (Nat.le_refl _) _).alloc (by simp) _
 have q1 : W0.heap[b0]? = some (.cells (peerCells p A1 c1 A2 c2).toArray 48 (0, 0)) := by rw [hW0, hb0, Below.heap_alloc _ _ _ (by simp)]; exact heap_alloc_new w _
 have q2 : W0.heap[b0 + 1]? = some (.cells (peerCells q A3 c3 A4 c4).toArray 48 (0, 0)) := by rw [hW0, hb0]; have := heap_alloc_new (w.alloc (.cells (peerCells p A1 c1 A2 c2).toArray 48)) (.cells (peerCells q A3 c3 A4 c4).toArray 48); simpa using this
 have k0 : W0.cell? ⟨b0, 0, none⟩ = some (.int .i64 p.node) := by rw [cell_of_heap q1]; rfl
 have m0 : W0.cell? ⟨b0 + 1, 0, none⟩ = some (.int .i64 q.node) := by rw [cell_of_heap q2]; rfl
 have k33 : W0.cell? ⟨b0, 33, none⟩ = some (.int .i64 p.exp) := by rw [cell_of_heap q1]; exact peer33 p A1 c1 A2 c2
 have m33 : W0.cell? ⟨b0 + 1, 33, none⟩ = some (.int .i64 q.exp) := by rw [cell_of_heap q2]; exact peer33 q A3 c3 A4 c4
 have k34 : W0.cell? ⟨b0, 34, none⟩ = some (.slice A1 p.inn.length c1) := by rw [cell_of_heap q1]; exact peer34 p A1 c1 A2 c2
 have m34 : W0.cell? ⟨b0 + 1, 34, none⟩ = some (.slice A3 q.inn.length c3) := by rw [cell_of_heap q2]; exact peer34 q A3 c3 A4 c4
 have l1 := Aside0.mk (run_loadAtK Tryz.prog W0 28 32 Tryz.isAgg28 Tryz.sizeOf28 b0 1 (encK p.key) (encK_len _) (fun j v hj => by rw [cell_of_heap q1]; exact peerK p A1 c1 A2 c2 j v hj))
 have l2 := Aside0.mk (run_loadAtK Tryz.prog W0 28 32 Tryz.isAgg28 Tryz.sizeOf28 (b0 + 1) 1 (encK q.key) (encK_len _) (fun j v hj => by rw [cell_of_heap q2]; exact peerK q A3 c3 A4 c4 j v hj))
 have HI := Aside0.mk (same121 p.inn q.inn A1 A3 c1 c3 W0 (hp.inn.below hbw) (hq.inn.below hbw))
 have HO := Aside0.mk (fun (W : World) (hb : Below W0.heap.size W0 W) => And.intro (same121 p.out q.out A2 A4 c2 c4 W ((hp.out.below hbw).below hb) ((hq.out.below hbw).below hb)) (And.intro (show W.cell? ⟨b0, 35, none⟩ = some (.slice A2 p.out.length c2) by rw [cell_of_heap (roomN q1 hb)]; exact peer35 p A1 c1 A2 c2) (show W.cell? ⟨b0 + 1, 35, none⟩ = some (.slice A4 q.out.length c4) by rw [cell_of_heap (roomN q2 hb)]; exact peer35 q A3 c3 A4 c4)))
 have HB := Aside0.mk hbw
 obtain ⟨X, hX⟩ : ∃ X, X = (peerCells p A1 c1 A2 c2).toArray := ⟨_, rfl⟩
 obtain ⟨Y, hY⟩ : ∃ Y, Y = (peerCells q A3 c3 A4 c4).toArray := ⟨_, rfl⟩
 rw [← hX, ← hY] at hW0 ⊢
 have he := eqlK p.key q.key
 have hgd := fun op a b w => guardK op a b p.key q.key w
 have he3 := eqlK q.key q.key
 have hgd3 := fun op a b w => guardK op a b q.key q.key w
 clear q1 q2 hbw hp hq hX hY
 go_enter Tryz.func68, Tryz.ntmps68
 go_upto_region 1 with fail
 rw [← hW0, ← hb0]
 clear hW0 hb0
 by_cases h1 : p.node = q.node
 case neg =>
  have d1 : decide (p.node = q.node) = false := decide_eq_false h1
  go_wp2_with fail
  go_ret
  exact ⟨by rw [decide_eq_false (fun e => h1 (by rw [e]))]; rfl, HB.out⟩
 have d1 : decide (p.node = q.node) = true := decide_eq_true h1
 by_cases h2 : p.key = q.key
 case neg =>
  have d2 : decide (p.key = q.key) = false := decide_eq_false h2
  go_wp2_with (first | ((with_reducible refine at_load 28 (.tmp 11) ?_); refine wpList_loadW (by rfl) 28 (.tmp 11) rfl _ rfl _ l1.out ?_) | ((with_reducible refine at_load 28 (.tmp 13) ?_); refine wpList_loadW (by rfl) 28 (.tmp 13) rfl _ rfl _ l2.out ?_))
  go_ret
  exact ⟨by rw [decide_eq_false (fun e => h2 (by rw [e]))]; rfl, HB.out⟩
 have d2 : decide (p.key = q.key) = true := decide_eq_true h2
 by_cases h3 : p.exp = q.exp
 case neg =>
  have d3 : decide (p.exp = q.exp) = false := decide_eq_false h3
  go_wp2_with (first | ((with_reducible refine at_load 28 (.tmp 11) ?_); refine wpList_loadW (by rfl) 28 (.tmp 11) rfl _ rfl _ l1.out ?_) | ((with_reducible refine at_load 28 (.tmp 13) ?_); refine wpList_loadW (by rfl) 28 (.tmp 13) rfl _ rfl _ l2.out ?_))
  go_ret
  exact ⟨by rw [decide_eq_false (fun e => h3 (by rw [e]))]; rfl, HB.out⟩
 have d3 : decide (p.exp = q.exp) = true := decide_eq_true h3
 go_wp2_with (first | ((with_reducible refine at_load 28 (.tmp 11) ?_); refine wpList_loadW (by rfl) 28 (.tmp 11) rfl _ rfl _ l1.out ?_) | ((with_reducible refine at_load 28 (.tmp 13) ?_); refine wpList_loadW (by rfl) 28 (.tmp 13) rfl _ rfl _ l2.out ?_))
 refine HI.out.mono ?_
 rintro e w1 ⟨rfl, hb1⟩
 obtain ⟨ho, k35, m35⟩ := HO.out w1 hb1
 have HOO := Aside0.mk ho
 have HB1 := Aside0.mk (below_step HB.out hb1)
 clear ho hb1
 by_cases h4 : p.inn = q.inn
 case neg =>
  have d4 : decide (p.inn = q.inn) = false := decide_eq_false h4
  go_wp2_with fail
  go_ret
  exact ⟨by rw [decide_eq_false (fun e => h4 (by rw [e]))]; rfl, HB1.out⟩
 have d4 : decide (p.inn = q.inn) = true := decide_eq_true h4
 go_wp2_with fail
 refine HOO.out.mono ?_
 rintro e w2 ⟨rfl, hb2⟩
 have HB2 := Aside0.mk (below_step HB1.out hb2)
 clear hb2
 go_wp2_with fail
 go_ret
 have hd : decide (p = q) = decide (p.out = q.out) := by
  by_cases h5 : p.out = q.out
  ·rw [decide_eq_true h5, decide_eq_true ((peer_eq p q).2 ⟨h1, h2, h3, h4, h5⟩)]
  ·rw [decide_eq_false h5, decide_eq_false (fun e => h5 (by rw [e]))]
 exact ⟨by rw [hd]; rfl, HB2.out⟩
end Go.Proofs.YtmgbaefgcdglpaaGreatDoor.Net
end
