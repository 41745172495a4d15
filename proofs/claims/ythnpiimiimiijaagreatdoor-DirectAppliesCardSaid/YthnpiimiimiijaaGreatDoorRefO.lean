/- DirectApplies: directories are as the chapter says. -/
import Derived.Test.YthnpiimiimiijaaGreatDoorRefN
namespace Go.Proofs.YthnpiimiimiijaaGreatDoor.Dir
open Go Go.RowKit Go.Proofs Go.Proofs.YthnpiimiimiijaaGreatDoorW.PrintWords Go.Proofs.YthnpiimiimiijaaGreatDoorW.PrintLast Go.Proofs.YthnpiimiimiijaaGreatDoorW.PrintMore
set_option linter.unusedVariables false
set_option linter.unusedSimpArgs false
theorem neqR2 (e v : Int) (w : World) : (binOp .neq 30 (.agg #[.int .i64 e, .int .i64 v]) (.agg #[.int .i64 e, .int .i64 v])).run Tryz.prog w = .ok (.bool false) w := by
 have u3 := Tryz.underlying3
 have u28 := Tryz.underlying28
 have a3 := Tryz.isAgg3
 have a28 := Tryz.isAgg28
 have z3 := Tryz.sizeOf3
 have z28 := Tryz.sizeOf28
 have hS : Tryz.prog.underlying 30 = some (.struct (Tryz.prog.fieldsOf 30)) := by kernel_rfl
 have hp : Tryz.prog.stoodInHeld 30 = false := by kernel_rfl
 rw [run_neq_struct, show (10000 : Nat) = 9999 + 1 from rfl, run_equalIn_agg w 9999 30 _ _ hS hp]
 simp only [Program.fieldsOf, Tryz.underlying30]
 go_simp
def flatO (l : List Op) : List Value := l.flatMap encO
theorem load_op {w W : World} {g o n : Nat} {l : List Op} (h : SrcAt w (some ⟨g, o, none⟩) n 37 (flatO l)) (hb : Below w.heap.size w W) {j : Nat} {d : Op} (hj : l[j]? = some d) :
  (Instr.loadAt 36 (.pointer (some ⟨g, o + j * 37, none⟩))).run Tryz.prog W = .ok (.agg (encO d).toArray) W :=
 run_loadAtK Tryz.prog W 36 37 Tryz.isAgg36 Tryz.sizeOf36 g (o + j * 37) (encO d) (encO_len _) (fun i v hv => by rw [Nat.add_assoc]; exact src_cell h hb (flatMap_at encO 37 encO_len l j d hj i v hv))
theorem src_bareO {w : World} {a : Addr} {n : Nat} {l : List Op} (h : SrcAt w (some a) n 37 (flatO l)) (hn : 0 < l.length) : ∃ g o, a = ⟨g, o, none⟩ := by
 have hv : (encO l[0])[0]? = some ((encO l[0])[0]'(by rw [encO_len]; omega)) := List.getElem?_eq_getElem _
 have := h.2.2 a rfl _ _ (flatMap_at encO 37 encO_len l 0 l[0] (List.getElem?_eq_getElem hn) 0 _ hv)
 obtain ⟨b, off, sp⟩ := a
 cases sp with
 | none => exact ⟨b, off, rfl⟩
 | some s =>
  have hn : w.cell? ((⟨b, off, some s⟩ : Addr).add (0 * 37 + 0)) = none := by
   unfold World.cell?
   split
   ·rfl
   ·rfl
  rw [hn] at this
  cases this
theorem SrcAt.kept2 {W W' : World} {b1 b2 : Option Nat} {A : Option Addr} {n size : Nat} {xs : List Value} (h : SrcAt W A n size xs) (hk : Kept2 W W' b1 b2) (h1 : ∀ a, A = some a → some a.block ≠ b1 ∧ some a.block ≠ b2) : SrcAt W' A n size xs :=
 ⟨h.1, h.2.1, fun a ha j u hj => by
  have hc := h.2.2 a ha j u hj
  have hl := World.block_lt_of_cell? W _ hc
  have e : (a.add j).block = a.block := by unfold Addr.add; split <;> rfl
  obtain ⟨n1, n2⟩ := h1 a ha
  have hb := hk.block (a.add j).block hl (by rw [e]; exact n1) (by rw [e]; exact n2)
  unfold World.cell? at hc ⊢
  rw [hb]; exact hc⟩
theorem TyA.kept2 {W W' : World} {b1 b2 : Option Nat} {A : Option Addr} {T : TypeId} (h : TyA W A T) (hk : Kept2 W W' b1 b2) (h1 : ∀ a, A = some a → some a.block ≠ b1 ∧ some a.block ≠ b2) : TyA W' A T := fun a ha => by
 obtain ⟨cs, fr, hq⟩ := h a ha
 exact ⟨cs, fr, (hk.block _ (Array.getElem?_eq_some_iff.1 hq).1 (h1 a ha).1 (h1 a ha).2).trans hq⟩
theorem DirHi.kept2 {W W' : World} {b1 b2 : Option Nat} {base p : Nat} {B : Book} (h : DirHi W base p B) (hk : Kept2 W W' b1 b2) (hp : base ≤ p) (l1 : ∀ k, b1 = some k → k < base) (l2 : ∀ k, b2 = some k → k < base) : DirHi W' base p B := by
 obtain ⟨A1, c1, A2, c2, h1, h2⟩ := h
 have ne : ∀ k, base ≤ k → some k ≠ b1 ∧ some k ≠ b2 := fun k hk => ⟨fun e => by have := l1 k e.symm; omega, fun e => by have := l2 k e.symm; omega⟩
 have o1 := own_other (w' := W') h2.1 (fun k hk' => hk.block k (h2.1.lt k hk').2 (ne k (h2.1.lt k hk').1).1 (ne k (h2.1.lt k hk').1).2)
 have o2 := own_other (w' := W') h2.2.1 (fun k hk' => hk.block k (h2.2.1.lt k hk').2 (ne k (h2.2.1.lt k hk').1).1 (ne k (h2.2.1.lt k hk').1).2)
 exact ⟨A1, c1, A2, c2, (hk.block p (Array.getElem?_eq_some_iff.1 h1).1 (ne p hp).1 (ne p hp).2).trans h1, ⟨o1, o2, h2.2.2⟩⟩
/-- Directories of both, side by side; another one. -/
structure Duo (w W : World) (pd rf po : Nat) (B O : Book) : Prop where
 d : DirSt w W pd B
 f : RDir W rf B
 o : DirSt w W po O
 ne : po ≠ pd
 low : w.heap.size ≤ rf
theorem Duo.later {w W W' : World} {pd rf po : Nat} {B O : Book} (h : Duo w W pd rf po B O) (hb : Below W.heap.size W W') : Duo w W' pd rf po B O := ⟨h.d.later hb, h.f.below hb, h.o.later hb, h.ne, h.low⟩
theorem RDir.blk {W : World} {r : Nat} {B : Book} (h : RDir W r B) : ∃ cs fr, W.heap[r]? = some (.cells cs 63 fr) := by
 obtain ⟨_, _, _, _, h⟩ := h
 exact ⟨_, _, h.box⟩
theorem Duo.do_o {w W W' : World} {pd rf po : Nat} {B O O' : Book} (h : Duo w W pd rf po B O) (ho : DirSt w W' po O') (hg : W.grownBy W' (some po)) : Duo w W' pd rf po B O' := by
 obtain ⟨cs, fr, hq⟩ := h.o.at_.block
 obtain ⟨cs2, fr2, hr⟩ := h.f.blk
 exact ⟨h.d.beside h.o (Ne.symm h.ne) hg, h.f.other hq (by decide) (by decide) (block_ne hr hq (by decide)) hg, ho, h.ne, h.low⟩
theorem Duo.do_d {w W W' : World} {pd rf po : Nat} {B O B' : Book} (h : Duo w W pd rf po B O) (hd : DirSt w W' pd B') (hg : W.grownBy W' (some pd)) : DirSt w W' pd B' ∧ RDir W' rf B ∧ DirSt w W' po O := by
 obtain ⟨cs, fr, hq⟩ := h.d.at_.block
 obtain ⟨cs2, fr2, hr⟩ := h.f.blk
 exact ⟨hd, h.f.other hq (by decide) (by decide) (block_ne hr hq (by decide)) hg, h.o.beside h.d h.ne hg⟩
theorem do_f {w W W' : World} {pd rf po : Nat} {B' O B : Book} (hd : DirSt w W pd B') (hf : RDir W rf B) (ho : DirSt w W po O) (hne : po ≠ pd) (hl : w.heap.size ≤ rf) (hf' : RDir W' rf B') (hg : W.grownBy W' (some rf)) : Duo w W' pd rf po B' O := by
 obtain ⟨cs, fr, hq⟩ := hf.blk
 exact ⟨hd.other hq (by decide) (by decide) (by decide) hl hg, hf', ho.other hq (by decide) (by decide) (by decide) hl hg, hne, hl⟩
set_option maxHeartbeats 8000000 in
set_option maxRecDepth 100000 in
theorem applies_law (B : Book) (A1 : Option Addr) (c1 : Nat) (A2 : Option Addr) (c2 : Nat) (AO : Option Addr) (cO : Nat) (l : List Op) (w : World) (h : SrcB w B A1 A2) (hs1 : B.devs.length ≤ 2513169434916) (hs2 : B.spent.length ≤ 4398046511104)
  (hl : SrcAt w AO l.length 37 (flatO l)) (hin : ∀ o ∈ l, OpIn o) (hll : (l.length : Int) ≤ 9223372036854775807) (hx : PA.LaidW w) :
  Calls Tryz.prog 7 #[.agg (bookCells B A1 c1 A2 c2).toArray, .slice AO l.length cO] w fun e w' => e = .returned (.bool true) ∧ Below w.heap.size w w' := by
 have hI := InB.start (c1 := c1) (c2 := c2) h
 obtain ⟨W0, hW0⟩ : ∃ W0, W0 = w.alloc (.cells (bookCells B A1 c1 A2 c2).toArray 43) := ⟨_, rfl⟩
 obtain ⟨p, hp⟩ : ∃ p, p = w.heap.size := ⟨_, rfl⟩
 rw [← hW0, ← hp] at hI
 have HI := Aside0.mk hI
 have HW0 := Aside0.mk (show w.heap.size ≤ W0.heap.size from hI.fr.size)
 have HLB := Aside0.mk (fun (W : World) (hb : Below W0.heap.size W0 W) => (hI.later hb).load)
 have L0 := Aside0.mk hI.load
 have HCP := Aside0.mk (copy_ref B A1 c1 A2 c2 W0 hI.src hs1 hs2)
 have HRL := Aside0.mk (fun (W : World) (hb : Below W0.heap.size W0 W) => load_ref B A1 c1 A2 c2 W (hI.later hb).src)
 have HSS := Aside0.mk (fun (Ai : Option Addr) (ci : Nat) (Aj : Option Addr) (cj : Nat) (W : World) (hb : Below W0.heap.size W0 W) (hE : SrcB W B Ai Aj) => same_eq B Ai ci Aj cj A1 c1 A2 c2 W hE (hI.later hb).src)
 have HX := Aside0.mk hx
 have HS := Aside0.mk (And.intro hs1 hs2)
 have HLO := Aside0.mk hl
 have HIN := Aside0.mk hin
 have HLL := Aside0.mk hll
 obtain ⟨BA, hBA⟩ : ∃ BA, BA = (bookCells B A1 c1 A2 c2).toArray := ⟨_, rfl⟩
 rw [← hBA] at hW0 HLB L0 HCP HRL HSS ⊢
 clear hI h hs1 hs2 hl hin hll hx hBA
 go_enter Tryz.func7, Tryz.ntmps7
 go_upto_region 1 with fail
 rw [← hW0, ← hp]
 have HEQ := Aside0.mk (And.intro hW0 hp)
 clear hW0 hp
 go_wp2_with ((with_reducible refine at_load 43 (.tmp 2) ?_); refine wpList_loadK rfl 43 (.tmp 2) rfl _ rfl _ L0.out ?_)
 refine HCP.out.mono ?_
 rintro e w1 ⟨Ai, ci, Aj, cj, rfl, hL, hb1⟩
 obtain ⟨IA, hIA⟩ : ∃ IA, IA = (bookCells B Ai ci Aj cj).toArray := ⟨_, rfl⟩
 obtain ⟨W2, hW2⟩ : ∃ W2, W2 = w1.alloc (.cells (bookCells B Ai ci Aj cj).toArray 43) := ⟨_, rfl⟩
 obtain ⟨nbi, hnb⟩ : ∃ nbi, nbi = w1.heap.size := ⟨_, rfl⟩
 have hb2 : Below W0.heap.size W0 W2 := by rw [hW2]; exact hb1.alloc hb1.size _
 have HB2 := Aside0.mk hb2
 have HW2 := Aside0.mk (show W0.heap.size ≤ W2.heap.size from hb2.size)
 have HLI := Aside0.mk (show Lists W2 W0.heap.size B Ai ci Aj cj by rw [hW2]; exact hL.below ((Below.refl _ w1).alloc (Nat.le_refl _) _))
 have HNBI := Aside0.mk (show W2.heap[nbi]? = some (.cells (bookCells B Ai ci Aj cj).toArray 43 (0, 0)) by rw [hW2, hnb]; exact heap_alloc_new w1 _)
 have st := Aside0.mk (fun (c : Array Value) (hc : c.size = 5) => run_storeNew Tryz.prog w1 43 5 size43 c (bookCells B Ai ci Aj cj).toArray hc rfl (by simpa using book_one B Ai Aj ci cj))
 have HSRC := Aside0.mk (show SrcB W2 B Ai Aj from ⟨HLI.out.src.1, HLI.out.src.2, by have := HS.out.1; omega, by have := HS.out.2; omega⟩)
 have HLD := Aside0.mk (load_hi B Ai ci Aj cj W2 HSRC.out (bare_own HLI.out.1) (HX.out.below (below_step HI.out.fr hb2)))
 have LI := Aside0.mk (fun (W : World) (hb : Below W2.heap.size W2 W) => run_loadAtK Tryz.prog W 43 5 Tryz.isAgg43 Tryz.sizeOf43 nbi 0 (bookCells B Ai ci Aj cj) rfl (cells_of_heap (room_at HNBI.out hb)))
 have HSQ := Aside0.mk (fun (W : World) (hb : Below W2.heap.size W2 W) => HSS.out Ai ci Aj cj W (below_step hb2 hb) (HSRC.out.later hb))
 have LI0 := Aside0.mk (LI.out W2 (Below.refl _ _))
 rw [← hIA] at st hW2 HLD LI LI0 HSQ ⊢
 have HIA := Aside0.mk hIA
 clear hL hb1 hb2 hIA
 go_upto_region 2 with ((with_reducible refine at_store 43 (.tmp 5) (.tmp 17) ?_); refine wpList_storeK rfl 43 (.tmp 5) (.tmp 17) rfl rfl _ _ rfl rfl _ (st.out _ rfl) ?_)
 rw [← hW2, ← hnb]
 clear hW2 hnb st
 go_wp2_with ((with_reducible refine at_load 43 (.tmp 5) ?_); refine wpList_loadK rfl 43 (.tmp 5) rfl _ rfl _ LI0.out ?_)
 refine HLD.out.mono ?_
 rintro e w3 ⟨hle, hb3⟩
 have HB3 := Aside0.mk hb3
 have HB30 := Aside0.mk (below_step HB2.out hb3)
 have L3 := Aside0.mk (HLB.out w3 (below_step HB2.out hb3))
 have HRL3 := Aside0.mk (HRL.out w3 (below_step HB2.out hb3))
 clear hb3
 rcases hle with ⟨pd, rfl, hok, hdir, hpd⟩ | ⟨rfl, hno⟩
 ·have HOK := Aside0.mk hok
  have HD3 := Aside0.mk (And.intro hdir hpd)
  clear hok hdir hpd
  go_upto_region 3 with fail
  go_wp2_with ((with_reducible refine at_load 43 (.tmp 2) ?_); refine wpList_loadK rfl 43 (.tmp 2) rfl _ rfl _ L3.out ?_)
  refine HRL3.out.mono ?_
  rintro e w4 ⟨hle, hb4⟩
  rcases hle with ⟨rf, A5, c5, A6, c6, rfl, hmay, hrd, ht1, ht2, hrf⟩ | ⟨-, hno⟩
  rotate_left
  ·exact absurd ((may_ok B).1 HOK.out) hno
  have HF4 := Aside0.mk (below_step HB3.out hb4)
  have HD4 := Aside0.mk (show DirHi w4 W2.heap.size pd B by
   obtain ⟨a1, b1, a2, b2, q1, q2⟩ := HD3.out.1
   exact ⟨a1, b1, a2, b2, room_at q1 hb4, q2.below hb4⟩)
  have HR4 := Aside0.mk (show RDirIs w4 rf B A5 c5 A6 c6 ∧ (∀ a, A5 = some a → W2.heap.size ≤ a.block) ∧ (∀ a, A6 = some a → W2.heap.size ≤ a.block) ∧ W2.heap.size ≤ rf from ⟨hrd, fun a ha => Nat.le_trans HB3.out.size (ht1 a ha).1, fun a ha => Nat.le_trans HB3.out.size (ht2 a ha).1, Nat.le_trans HB3.out.size hrf⟩)
  clear hb4 hmay hrd ht1 ht2 hrf
  go_upto_region 4 with fail
  have L4 := Aside0.mk (LI.out w4 HF4.out)
  have L5 := Aside0.mk (HLB.out w4 (below_step HB2.out HF4.out))
  go_wp2_with (first | ((with_reducible refine at_load 43 (.tmp 5) ?_); refine wpList_loadW (by rfl) 43 (.tmp 5) rfl _ rfl _ L4.out ?_) | ((with_reducible refine at_load 43 (.tmp 2) ?_); refine wpList_loadW (by rfl) 43 (.tmp 2) rfl _ rfl _ L5.out ?_))
  refine (HSQ.out w4 HF4.out).mono ?_
  rintro e w5 ⟨rfl, hb5⟩
  have HF5 := Aside0.mk (below_step HF4.out hb5)
  have HFW := Aside0.mk (below_step HI.out.fr (below_step HB2.out (below_step HF4.out hb5)))
  have HDH := Aside0.mk (show DirHi w5 W2.heap.size pd B ∧ W2.heap.size ≤ pd by
   obtain ⟨a1, b1, a2, b2, q1, q2⟩ := HD4.out
   exact ⟨⟨a1, b1, a2, b2, room_at q1 hb5, q2.below hb5⟩, HD3.out.2⟩)
  have HRF := Aside0.mk (And.intro (HR4.out.1.below hb5) HR4.out.2)
  have HBD := Aside0.mk (wf_of_ok HOK.out)
  clear hb5
  go_upto_region 9 with fail
  have LB5 := Aside0.mk (run_loadAtK Tryz.prog w5 43 5 Tryz.isAgg43 Tryz.sizeOf43 nbi 0 _ rfl (cells_of_heap (room_at HNBI.out HF5.out)))
  have HIL := Aside0.mk (HLI.out.below HF5.out)
  go_wp2_with ((with_reducible refine at_load 43 (.tmp 5) ?_); refine wpList_loadK rfl 43 (.tmp 5) rfl _ rfl _ LB5.out ?_)
  refine (spoil_any B Ai ci Aj cj W0.heap.size w5 HIL.out HS.out.1 HS.out.2).mono ?_
  rintro e w6 ⟨E1, e1, E2, e2, rfl, hL, hk⟩
  have l1 : ∀ k, (Value.slice Ai B.devs.length ci).ownBlock = some k → k < W2.heap.size := fun k hk => (HLI.out.1.lt k hk).2
  have l2 : ∀ k, (Value.slice Aj B.spent.length cj).ownBlock = some k → k < W2.heap.size := fun k hk => (HLI.out.2.1.lt k hk).2
  have n1 : ∀ k, W2.heap.size ≤ k → some k ≠ (Value.slice Ai B.devs.length ci).ownBlock ∧ some k ≠ (Value.slice Aj B.spent.length cj).ownBlock := fun k hk => ⟨fun e => by have := l1 k e.symm; omega, fun e => by have := l2 k e.symm; omega⟩
  have hF6 : Below w.heap.size w w6 := HFW.out.trans (hk.below (HFW.out.size) (fun k hk => Nat.le_trans HW0.out (HIL.out.1.lt k hk).1) (fun k hk => Nat.le_trans HW0.out (HIL.out.2.1.lt k hk).1))
  have HD6 := Aside0.mk (show DirSt w w6 pd B from ⟨(HDH.out.1.kept2 hk HDH.out.2 l1 l2).at_, hF6, Nat.le_trans (Nat.le_trans HW0.out HW2.out) HDH.out.2, HBD.out, HX.out⟩)
  have HR6 := Aside0.mk (show RDir w6 rf B from ⟨A5, c5, A6, c6, (hk.block rf (Array.getElem?_eq_some_iff.1 HRF.out.1.box).1 (n1 rf HRF.out.2.2.2).1 (n1 rf HRF.out.2.2.2).2).trans HRF.out.1.box, ⟨HRF.out.1.src.devs.kept2 hk (fun a ha => n1 _ (HRF.out.2.1 a ha)), HRF.out.1.src.spent.kept2 hk (fun a ha => n1 _ (HRF.out.2.2.1 a ha)), HRF.out.1.src.few, HRF.out.1.src.len⟩, HRF.out.1.t1.kept2 hk (fun a ha => n1 _ (HRF.out.2.1 a ha)), HRF.out.1.t2.kept2 hk (fun a ha => n1 _ (HRF.out.2.2.1 a ha))⟩)
  clear hL hk l1 l2 n1 hF6
  go_wp2_with fail
  refine (new_dir w6).mono ?_
  rintro e w7 ⟨rfl, ha, hb⟩
  obtain ⟨po, hpo⟩ : ∃ po, po = w6.heap.size := ⟨_, rfl⟩
  rw [← hpo] at ha ⊢
  have HU0 := Aside0.mk (show Duo w w7 pd rf po B book0 from ⟨HD6.out.later hb, HR6.out.below hb, ⟨ha, below_step HD6.out.fr hb, by rw [hpo]; exact HD6.out.fr.size, book0_wf, HX.out⟩, by rw [hpo]; exact (Nat.ne_of_lt HD6.out.at_.lt).symm, Nat.le_trans (Nat.le_trans HW0.out HW2.out) HRF.out.2.2.2⟩)
  clear ha hb hpo
  go_upto_region 12 with fail
  go_loopg [11] 61 (fun kx s11 wr => ∃ (i : Nat) (B O : Book), s11 = .int .i64 i ∧ i + kx = 61 ∧ Aside0 (i ≤ l.length ∧ i ≤ 60) ∧ Aside0 (Duo w wr pd rf po B O))
  case atStart => exact ⟨0, B, book0, rfl, by omega, ⟨by omega⟩, ⟨HU0.out⟩⟩
  case round =>
   clear HBD HDH HRF
   obtain ⟨i, B, O, rfl, hik, HI2, HU⟩ := hrel
   have hll := HLL.out
   have hi2 := HI2.out
   by_cases hlt : i < l.length ∧ i < 60
   ·have HLT := Aside0.mk hlt
    obtain ⟨ko, rfl⟩ : ∃ ko, gk = ko + 1 := ⟨gk - 1, by omega⟩
    have HIK := Aside0.mk hik
    have d1 : ((i : Int) < (l.length : Int)) = True := eq_true (by omega)
    have d2 : ((i : Int) < 60) = True := eq_true (by omega)
    have d3 : decide ((i : Int) < (l.length : Int)) = true := decide_eq_true (by omega)
    have d4 : decide ((i : Int) < 60) = true := decide_eq_true (by omega)
    obtain ⟨op, hop⟩ : ∃ op, l[i]? = some op := ⟨_, List.getElem?_eq_getElem hlt.1⟩
    obtain ⟨ad, hAO⟩ : ∃ ad, AO = some ad := by
     cases hA : AO with
     | some a => exact ⟨a, rfl⟩
     | none => exact absurd (HLO.out.2.1 hA) (by omega)
    subst hAO
    obtain ⟨g, o, rfl⟩ := src_bareO HLO.out (by omega)
    have HOP := Aside0.mk (fun (W : World) (hb : Below w.heap.size w W) => load_op HLO.out hb hop)
    have HOI := Aside0.mk (HIN.out op (List.mem_of_getElem? hop))
    have BO := Aside0.mk (buildO5 wr 5 (i : Int))
    have HA1 := Aside0.mk (apply_st w wr po O ⟨5, 0, key0, 0, [], (i : Int)⟩ HU.out.o (by unfold OpIn; simp))
    have HA2 := Aside0.mk (fun (W : World) (h : DirSt w W pd B) => apply_st w W pd B op h HOI.out)
    have HA3 := Aside0.mk (fun (W : World) (h : RDir W rf B) => apply_ref W rf B op h HU.out.d.wf)
    obtain ⟨OA, hOA⟩ : ∃ OA, OA = (encO ⟨5, 0, key0, 0, [], (i : Int)⟩).toArray := ⟨_, rfl⟩
    obtain ⟨PA, hPA⟩ : ∃ PA, PA = (encO op).toArray := ⟨_, rfl⟩
    rw [← hOA] at BO HA1
    rw [← hPA] at HOP HA2 HA3
    obtain ⟨er, her⟩ : ∃ er, er = errOf rulesOf B op := ⟨_, rfl⟩
    obtain ⟨B2, hB2⟩ : ∃ B2, B2 = applyOf rulesOf B op := ⟨_, rfl⟩
    rw [← her, ← hB2] at HA2 HA3
    clear hop hOA hPA her hB2 hlt
    go_wp2_with ((with_reducible refine at_build 36 #[(0, .const (.int .i64 5)), (5, .tmp 62)] ?_); refine wpList_build2 rfl 36 0 5 (.const (.int .i64 5)) (.tmp 62) rfl _ _ rfl rfl _ _ BO.out ?_)
    refine HA1.out.mono ?_
    rintro e y1 ⟨rfl, hs1, hg1⟩
    have HU1 := Aside0.mk (HU.out.do_o hs1 hg1)
    have HF1 := Aside0.mk hs1.fr
    clear hs1 hg1
    have LP := Aside0.mk (HOP.out y1 HF1.out)
    go_wp2_with ((with_reducible refine at_load 36 (.tmp 69) ?_); refine wpList_loadK rfl 36 (.tmp 69) rfl _ rfl _ LP.out ?_)
    refine (HA2.out y1 HU1.out.d).mono ?_
    rintro e y2 ⟨rfl, hs2, hg2⟩
    have HU2 := Aside0.mk (HU1.out.do_d hs2 hg2)
    clear hs2 hg2
    go_upto_region 16 with fail
    obtain ⟨y3, hy3⟩ : ∃ y3, y3 = y2.alloc (.cells #[.int .i64 er, .int .i64 B2.ver] 30) := ⟨_, rfl⟩
    obtain ⟨rs, hrs⟩ : ∃ rs, rs = y2.heap.size := ⟨_, rfl⟩
    have hb9 : Below y2.heap.size y2 y3 := by rw [hy3]; exact (Below.refl _ y2).alloc (Nat.le_refl _) _
    have HRS := Aside0.mk (show y3.heap[rs]? = some (.cells #[.int .i64 er, .int .i64 B2.ver] 30 (0, 0)) by rw [hy3, hrs]; exact heap_alloc_new y2 _)
    have HU3 := Aside0.mk (And.intro (HU2.out.1.later hb9) (And.intro (HU2.out.2.1.below hb9) (HU2.out.2.2.later hb9)))
    rw [← hy3, ← hrs]
    clear hy3 hrs hb9 HU2
    have LP2 := Aside0.mk (HOP.out y3 HU3.out.1.fr)
    go_wp2_with ((with_reducible refine at_load 36 (.tmp 78) ?_); refine wpList_loadK rfl 36 (.tmp 78) rfl _ rfl _ LP2.out ?_)
    refine (HA3.out y3 HU3.out.2.1).mono ?_
    rintro e y4 ⟨rfl, hs4, hg4⟩
    have HU4 := Aside0.mk (do_f HU3.out.1 HU3.out.2.1 HU3.out.2.2 HU1.out.ne HU1.out.low hs4 hg4)
    have HRS4 := Aside0.mk (show y4.heap[rs]? = some (.cells #[.int .i64 er, .int .i64 B2.ver] 30 (0, 0)) from by
     obtain ⟨cs, fr, hq⟩ := HU3.out.2.1.blk
     exact (hg4.block _ (Array.getElem?_eq_some_iff.1 HRS.out).1 (fun e => block_ne HRS.out hq (by decide) (Option.some.inj e))).trans HRS.out)
    clear hs4 hg4
    go_upto_region 17 with fail
    obtain ⟨y5, hy5⟩ : ∃ y5, y5 = y4.alloc (.cells #[.int .i64 er, .int .i64 B2.ver] 30) := ⟨_, rfl⟩
    obtain ⟨ru, hru⟩ : ∃ ru, ru = y4.heap.size := ⟨_, rfl⟩
    have hb9 : Below y4.heap.size y4 y5 := by rw [hy5]; exact (Below.refl _ y4).alloc (Nat.le_refl _) _
    have hr2 : y5.heap[ru]? = some (.cells #[.int .i64 er, .int .i64 B2.ver] 30 (0, 0)) := by rw [hy5, hru]; exact heap_alloc_new y4 _
    have hr1 : y5.heap[rs]? = some (.cells #[.int .i64 er, .int .i64 B2.ver] 30 (0, 0)) := room_at HRS4.out hb9
    have A0 := Aside0.mk (fun (W : World) (hb : Below y5.heap.size y5 W) => (show W.cell? ⟨rs, 0, none⟩ = some (.int .i64 er) by rw [cell_of_heap (room_at hr1 hb)]; rfl))
    have A1 := Aside0.mk (fun (W : World) (hb : Below y5.heap.size y5 W) => (show W.cell? ⟨rs, 1, none⟩ = some (.int .i64 B2.ver) by rw [cell_of_heap (room_at hr1 hb)]; rfl))
    have A2 := Aside0.mk (fun (W : World) (hb : Below y5.heap.size y5 W) => (show W.cell? ⟨ru, 0, none⟩ = some (.int .i64 er) by rw [cell_of_heap (room_at hr2 hb)]; rfl))
    have A3 := Aside0.mk (fun (W : World) (hb : Below y5.heap.size y5 W) => (show W.cell? ⟨ru, 1, none⟩ = some (.int .i64 B2.ver) by rw [cell_of_heap (room_at hr2 hb)]; rfl))
    have HU5 := Aside0.mk (HU4.out.later hb9)
    have hne := neqR2 er B2.ver
    have hgd := fun op a b w => guardR op a b er B2.ver er B2.ver w
    obtain ⟨F1, f1, F2, f2, hF⟩ := HU5.out.f
    have LF := Aside0.mk (fun (W : World) (hb : Below y5.heap.size y5 W) => run_loadAtK Tryz.prog W 43 5 Tryz.isAgg43 Tryz.sizeOf43 rf 0 (bookCells B2 F1 f1 F2 f2) rfl (cells_of_heap (room_at hF.box hb)))
    have HSM := Aside0.mk (fun (E1 : Option Addr) (e1 : Nat) (E2 : Option Addr) (e2 : Nat) (W : World) (hb : Below y5.heap.size y5 W) (hE : SrcB W B2 E1 E2) => same_eq B2 E1 e1 E2 e2 F1 f1 F2 f2 W hE (hF.src.later hb))
    obtain ⟨FA, hFA⟩ : ∃ FA, FA = (bookCells B2 F1 f1 F2 f2).toArray := ⟨_, rfl⟩
    rw [← hFA] at LF HSM
    rw [← hy5, ← hru]
    clear hy5 hru hb9 hr1 hr2 hF hFA HU1 HU3 HU4 HRS HRS4
    refine start_ (n := 19) (S := fun W => Below y5.heap.size y5 W) (ds := []) #[false, false, false, false, false, false, false, false, false, false, false, false, false, false, false, false, false, false, false] (by kernel_rfl) rfl rfl ((Below.refl _ y5).drew) (fun hHeld => ?_)
    generalize World.drew _ = w5 at hHeld ⊢
    refine take_ (i := 0) (N := (some 83)) (v := ?_) (a' := ?_) #[true, false, false, false, false, false, false, false, false, false, false, false, false, false, false, false, false, false, false] rfl rfl (by kernel_rfl) (fun _ _ _ h => h) (Or.inl ⟨by rfl, ?_⟩) hHeld ?_ ?_
    rotate_left
    ·rintro w' hs
     have a0 := A0.out w' hs
     have a1 := A1.out w' hs
     go_simp
     with_reducible rfl
    rotate_left
    ·simp only [Act.put, List.setIfInBounds_toArray, List.set_cons_zero, List.set_cons_succ, i64_w, i32_w]
     rfl
    refine take_ (i := 1) (N := (some 84)) (v := ?_) (a' := ?_) #[true, true, false, false, false, false, false, false, false, false, false, false, false, false, false, false, false, false, false] rfl rfl (by kernel_rfl) (fun _ _ _ h => h) (Or.inl ⟨by rfl, ?_⟩) hHeld ?_ ?_
    rotate_left
    ·rintro w' hs
     have a2 := A2.out w' hs
     have a3 := A3.out w' hs
     go_simp
     with_reducible rfl
    rotate_left
    ·simp only [Act.put, List.setIfInBounds_toArray, List.set_cons_zero, List.set_cons_succ, i64_w, i32_w]
     rfl
    refine pure_ (i := 2) (N := (some 85)) (v := ?_) (a' := ?_) #[true, true, true, false, false, false, false, false, false, false, false, false, false, false, false, false, false, false, false] rfl rfl (by kernel_rfl) (fun _ _ _ h => h) (Or.inl ⟨by rfl, ?_⟩) ?_ ?_
    rotate_left
    ·intro w'
     go_simp
     with_reducible rfl
    rotate_left
    ·simp only [Act.put, List.setIfInBounds_toArray, List.set_cons_zero, List.set_cons_succ, i64_w, i32_w]
     rfl
    refine pure_ (i := 3) (N := (some 86)) (v := ?_) (a' := ?_) #[true, true, true, true, false, false, false, false, false, false, false, false, false, false, false, false, false, false, false] rfl rfl (by kernel_rfl) (fun _ _ _ h => h) (Or.inl ⟨by rfl, ?_⟩) ?_ ?_
    rotate_left
    ·intro w'
     go_simp
     with_reducible rfl
    rotate_left
    ·simp only [Act.put, List.setIfInBounds_toArray, List.set_cons_zero, List.set_cons_succ, i64_w, i32_w]
     rfl
    refine pure_ (i := 4) (N := (some 87)) (v := ?_) (a' := ?_) #[true, true, true, true, true, false, false, false, false, false, false, false, false, false, false, false, false, false, false] rfl rfl (by kernel_rfl) (fun _ _ _ h => h) (Or.inl ⟨by rfl, ?_⟩) ?_ ?_
    rotate_left
    ·intro w'
     go_simp
     with_reducible rfl
    rotate_left
    ·simp only [Act.put, List.setIfInBounds_toArray, List.set_cons_zero, List.set_cons_succ, i64_w, i32_w]
     rfl
    refine pure_ (i := 5) (N := (some 88)) (v := ?_) (a' := ?_) #[true, true, true, true, true, true, false, false, false, false, false, false, false, false, false, false, false, false, false] rfl rfl (by kernel_rfl) (fun _ _ _ h => h) (Or.inl ⟨by rfl, ?_⟩) ?_ ?_
    rotate_left
    ·intro w'
     go_simp
     with_reducible rfl
    rotate_left
    ·simp only [Act.put, List.setIfInBounds_toArray, List.set_cons_zero, List.set_cons_succ, i64_w, i32_w]
     rfl
    refine pure_ (i := 6) (N := (some 89)) (v := ?_) (a' := ?_) #[true, true, true, true, true, true, true, false, false, false, false, false, false, false, false, false, false, false, false] rfl rfl (by kernel_rfl) (fun _ _ _ h => h) (Or.inl ⟨by rfl, ?_⟩) ?_ ?_
    rotate_left
    ·intro w'
     go_simp
     with_reducible rfl
    rotate_left
    ·simp only [Act.put, List.setIfInBounds_toArray, List.set_cons_zero, List.set_cons_succ, i64_w, i32_w]
     rfl
    refine pure_ (i := 7) (N := (some 90)) (v := ?_) (a' := ?_) #[true, true, true, true, true, true, true, true, false, false, false, false, false, false, false, false, false, false, false] rfl rfl (by kernel_rfl) (fun _ _ _ h => h) (Or.inl ⟨by rfl, ?_⟩) ?_ ?_
    rotate_left
    ·intro w'
     go_simp
     with_reducible rfl
    rotate_left
    ·simp only [Act.put, List.setIfInBounds_toArray, List.set_cons_zero, List.set_cons_succ, i64_w, i32_w]
     rfl
    refine pure_ (i := 8) (N := (some 91)) (v := ?_) (a' := ?_) #[true, true, true, true, true, true, true, true, true, false, false, false, false, false, false, false, false, false, false] rfl rfl (by kernel_rfl) (fun _ _ _ h => h) (Or.inl ⟨by rfl, ?_⟩) ?_ ?_
    rotate_left
    ·intro w'
     go_simp
     with_reducible rfl
    rotate_left
    ·simp only [Act.put, List.setIfInBounds_toArray, List.set_cons_zero, List.set_cons_succ, i64_w, i32_w]
     rfl
    refine pure_ (i := 9) (N := (some 92)) (v := ?_) (a' := ?_) #[true, true, true, true, true, true, true, true, true, true, false, false, false, false, false, false, false, false, false] rfl rfl (by kernel_rfl) (fun _ _ _ h => h) (Or.inl ⟨by rfl, ?_⟩) ?_ ?_
    rotate_left
    ·intro w'
     go_simp
     with_reducible rfl
    rotate_left
    ·simp only [Act.put, List.setIfInBounds_toArray, List.set_cons_zero, List.set_cons_succ, i64_w, i32_w]
     rfl
    refine pure_ (i := 12) (N := (some 95)) (v := ?_) (a' := ?_) #[true, true, true, true, true, true, true, true, true, true, false, false, true, false, false, false, false, false, false] rfl rfl (by kernel_rfl) (fun _ _ _ h => h) (Or.inl ⟨by rfl, ?_⟩) ?_ ?_
    rotate_left
    ·intro w'
     go_simp
     with_reducible rfl
    rotate_left
    ·simp only [Act.put, List.setIfInBounds_toArray, List.set_cons_zero, List.set_cons_succ, i64_w, i32_w]
     rfl
    refine pure_ (i := 13) (N := (some 96)) (v := ?_) (a' := ?_) #[true, true, true, true, true, true, true, true, true, true, false, false, true, true, false, false, false, false, false] rfl rfl (by kernel_rfl) (fun _ _ _ h => h) (Or.inl ⟨by rfl, ?_⟩) ?_ ?_
    rotate_left
    ·intro w'
     go_simp
     with_reducible rfl
    rotate_left
    ·simp only [Act.put, List.setIfInBounds_toArray, List.set_cons_zero, List.set_cons_succ, i64_w, i32_w]
     rfl
    refine pure_ (i := 14) (N := (some 97)) (v := ?_) (a' := ?_) #[true, true, true, true, true, true, true, true, true, true, false, false, true, true, true, false, false, false, false] rfl rfl (by kernel_rfl) (fun _ _ _ h => h) (Or.inl ⟨by rfl, ?_⟩) ?_ ?_
    rotate_left
    ·intro w'
     go_simp
     with_reducible rfl
    rotate_left
    ·simp only [Act.put, List.setIfInBounds_toArray, List.set_cons_zero, List.set_cons_succ, i64_w, i32_w]
     rfl
    refine take_ (i := 15) (N := (some 98)) (v := _) (a' := ?_) #[true, true, true, true, true, true, true, true, true, true, false, false, true, true, true, true, false, false, false] rfl rfl (by kernel_rfl) (fun _ _ _ h => h) (Or.inl ⟨by rfl, fun w' hs => yields_load 43 (.tmp 97) _ rfl _ _ rfl _ (LF.out w' hs)⟩) hHeld ?_ ?_
    rotate_left
    ·simp only [Act.put, List.setIfInBounds_toArray, List.set_cons_zero, List.set_cons_succ, i64_w, i32_w]
     rfl
    refine one_ (i := 10) (N := (some 93)) #[true, true, true, true, true, true, true, true, true, true, true, false, true, true, true, true, false, false, false] rfl rfl (by kernel_rfl) (by decide) (fun K hK => ?_)
    refine goes_ Tryz.func17 (by kernel_rfl) rfl #[.pointer (some ⟨pd, 0, none⟩)] (by rfl) rfl rfl (by (try simp only [List.map_toArray, List.map_cons, List.map_nil]); first | done | rfl) ?_
    refine (book_st w _ pd B2 (HU5.out.d.later hHeld)).mono ?_
    rintro e w5c ⟨⟨B1x, d1, B2x, d2, rfl, hL⟩, -, hb⟩
    refine ⟨_, rfl, ?_⟩
    have hS_ := below_step hHeld hb
    have HLX := Aside0.mk (hL.lower hHeld.size)
    clear hL hb
    refine hK.out _ _ hS_ (fun hHeld => ?_)
    clear hK K
    refine norm_ (a' := ?_) ?_ ?_
    rotate_left
    ·show Act.put _ (some 93) _ = _
     simp only [Act.put, List.setIfInBounds_toArray, List.set_cons_zero, List.set_cons_succ, i64_w, i32_w]
     rfl
    refine one_ (i := 11) (N := (some 94)) #[true, true, true, true, true, true, true, true, true, true, true, true, true, true, true, true, false, false, false] rfl rfl (by kernel_rfl) (by decide) (fun K hK => ?_)
    refine goes_ Tryz.func26 (by kernel_rfl) rfl #[.agg (bookCells B2 B1x d1 B2x d2).toArray] (by rfl) rfl rfl (by (try simp only [List.map_toArray, List.map_cons, List.map_nil]); first | done | rfl) ?_
    refine (spoil_any B2 B1x d1 B2x d2 y5.heap.size _ HLX.out (by have := HU5.out.d.wf.few.1; omega) (by have := HU5.out.d.wf.few.2; omega)).mono ?_
    rintro e w5d ⟨E1, e1, E2, e2, rfl, hL, hk⟩
    refine ⟨_, rfl, ?_⟩
    have hS_ : Below y5.heap.size y5 w5d := hHeld.trans (hk.below hHeld.size (fun k hk => (HLX.out.1.lt k hk).1) (fun k hk => (HLX.out.2.1.lt k hk).1))
    have HLY := Aside0.mk (SrcB.of_lists hL HU5.out.d.wf.few)
    clear hL hk
    refine hK.out _ _ hS_ (fun hHeld => ?_)
    clear hK K
    refine norm_ (a' := ?_) ?_ ?_
    rotate_left
    ·show Act.put _ (some 94) _ = _
     simp only [Act.put, List.setIfInBounds_toArray, List.set_cons_zero, List.set_cons_succ, i64_w, i32_w]
     rfl
    refine one_ (i := 16) (N := (some 99)) #[true, true, true, true, true, true, true, true, true, true, true, true, true, true, true, true, true, false, false] rfl rfl (by kernel_rfl) (by decide) (fun K hK => ?_)
    refine goes_ Tryz.func20 (by kernel_rfl) rfl #[.agg (bookCells B2 E1 e1 E2 e2).toArray, .agg FA] (by rfl) rfl rfl (by (try simp only [List.map_toArray, List.map_cons, List.map_nil]); first | done | rfl) ?_
    refine (HSM.out E1 e1 E2 e2 _ hHeld HLY.out).mono ?_
    rintro e w5e ⟨rfl, hb⟩
    refine ⟨_, rfl, ?_⟩
    have hS_ := below_step hHeld hb
    clear hb
    refine hK.out _ _ hS_ (fun hHeld => ?_)
    clear hK K
    refine norm_ (a' := ?_) ?_ ?_
    rotate_left
    ·show Act.put _ (some 99) _ = _
     simp only [Act.put, List.setIfInBounds_toArray, List.set_cons_zero, List.set_cons_succ, i64_w, i32_w]
     rfl
    refine pure_ (i := 17) (N := (some 100)) (v := ?_) (a' := ?_) #[true, true, true, true, true, true, true, true, true, true, true, true, true, true, true, true, true, true, false] rfl rfl (by kernel_rfl) (fun _ _ _ h => h) (Or.inl ⟨by rfl, ?_⟩) ?_ ?_
    rotate_left
    ·intro w'
     go_simp
     with_reducible rfl
    rotate_left
    ·simp only [Act.put, List.setIfInBounds_toArray, List.set_cons_zero, List.set_cons_succ, i64_w, i32_w]
     rfl
    refine pure_ (i := 18) (N := (some 101)) (v := ?_) (a' := ?_) #[true, true, true, true, true, true, true, true, true, true, true, true, true, true, true, true, true, true, true] rfl rfl (by kernel_rfl) (fun _ _ _ h => h) (Or.inl ⟨by rfl, ?_⟩) ?_ ?_
    rotate_left
    ·intro w'
     go_simp
     with_reducible rfl
    rotate_left
    ·simp only [Act.put, List.setIfInBounds_toArray, List.set_cons_zero, List.set_cons_succ, i64_w, i32_w]
     rfl
    refine done_ (by kernel_rfl) ?_
    have HH := Aside0.mk (HU5.out.later hHeld)
    clear hHeld hne hgd
    go_wp2_with fail
    go_roundg ko
    case measure => have := HIK.out; omega
    case rel => exact ⟨i + 1, B2, _, by go_num, by have := HIK.out; omega, ⟨by have := HLT.out; omega⟩, ⟨HH.out⟩⟩
   ·rcases (show l.length ≤ i ∨ (i < l.length ∧ 60 ≤ i) by omega) with hA | hA
    ·have d3 : decide ((i : Int) < (l.length : Int)) = false := decide_eq_false (by omega)
     have d1 : ((i : Int) < (l.length : Int)) = False := eq_false (by omega)
     clear hlt hA
     go_wp2_with fail
     refine (works_any wr HU.out.d.laidW).mono ?_
     rintro e x1 ⟨rfl, hb⟩
     have HB9 := Aside0.mk (below_step HU.out.d.fr hb)
     clear hb
     go_wp2_with fail
     go_ret
     exact ⟨rfl, HB9.out⟩
    ·have d3 : decide ((i : Int) < (l.length : Int)) = true := decide_eq_true (by omega)
     have d4 : decide ((i : Int) < 60) = false := decide_eq_false (by omega)
     have d1 : ((i : Int) < (l.length : Int)) = True := eq_true (by omega)
     have d2 : ((i : Int) < 60) = False := eq_false (by omega)
     clear hlt hA
     go_wp2_with fail
     refine (works_any wr HU.out.d.laidW).mono ?_
     rintro e x1 ⟨rfl, hb⟩
     have HB9 := Aside0.mk (below_step HU.out.d.fr hb)
     clear hb
     go_wp2_with fail
     go_ret
     exact ⟨rfl, HB9.out⟩
 ·have HNO := Aside0.mk (show ¬ MayB B from fun h => hno ((may_ok B).2 h))
  clear hno
  go_upto_region 3 with fail
  go_wp2_with ((with_reducible refine at_load 43 (.tmp 2) ?_); refine wpList_loadK rfl 43 (.tmp 2) rfl _ rfl _ L3.out ?_)
  refine HRL3.out.mono ?_
  rintro e w4 ⟨hle, hb4⟩
  rcases hle with ⟨rf, A5, c5, A6, c6, -, hmay, -⟩ | ⟨rfl, -⟩
  ·exact absurd hmay HNO.out
  have HF4 := Aside0.mk (below_step HB3.out hb4)
  clear hb4
  go_upto_region 4 with fail
  have L4 := Aside0.mk (LI.out w4 HF4.out)
  have L5 := Aside0.mk (HLB.out w4 (below_step HB2.out HF4.out))
  go_wp2_with (first | ((with_reducible refine at_load 43 (.tmp 5) ?_); refine wpList_loadW (by rfl) 43 (.tmp 5) rfl _ rfl _ L4.out ?_) | ((with_reducible refine at_load 43 (.tmp 2) ?_); refine wpList_loadW (by rfl) 43 (.tmp 2) rfl _ rfl _ L5.out ?_))
  refine (HSQ.out w4 HF4.out).mono ?_
  rintro e w4b ⟨rfl, hb5⟩
  have HF4b := Aside0.mk (below_step HF4.out hb5)
  clear hb5
  go_wp2_with fail
  refine (new_any w4b).mono ?_
  rintro e w4c ⟨rfl, hwc⟩
  obtain ⟨pd, hpd⟩ : ∃ pd, pd = w4b.heap.size := ⟨_, rfl⟩
  have HDC := Aside0.mk (show DirHi w4c W2.heap.size pd book0 ∧ W2.heap.size ≤ pd by
   rw [hwc, hpd]
   exact ⟨⟨none, 0, none, 0, heap_alloc_new w4b _, ⟨World.ownsRow_nil _ _ _ _, World.ownsRow_nil _ _ _ _, fun k hk => by cases hk⟩⟩, HF4b.out.size⟩)
  have HFC := Aside0.mk (show Below W2.heap.size W2 w4c by rw [hwc]; exact HF4b.out.alloc HF4b.out.size _)
  rw [← hpd]
  clear hwc hpd
  go_wp2_with fail
  refine (new_ref w4c).mono ?_
  rintro e w5 ⟨rfl, hrd, hb5⟩
  obtain ⟨rf, hrf⟩ : ∃ rf, rf = w4c.heap.size := ⟨_, rfl⟩
  rw [← hrf] at hrd ⊢
  have HF5 := Aside0.mk (below_step HFC.out hb5)
  have HFW := Aside0.mk (below_step HI.out.fr (below_step HB2.out (below_step HFC.out hb5)))
  have HDH := Aside0.mk (show DirHi w5 W2.heap.size pd book0 ∧ W2.heap.size ≤ pd by
   obtain ⟨a1, b1, a2, b2, q1, q2⟩ := HDC.out.1
   exact ⟨⟨a1, b1, a2, b2, room_at q1 hb5, q2.below hb5⟩, HDC.out.2⟩)
  have HRF := Aside0.mk (show RDirIs w5 rf book0 none 0 none 0 ∧ (∀ a, (none : Option Addr) = some a → W2.heap.size ≤ a.block) ∧ (∀ a, (none : Option Addr) = some a → W2.heap.size ≤ a.block) ∧ W2.heap.size ≤ rf from ⟨hrd, fun a ha => (by cases ha), fun a ha => (by cases ha), by rw [hrf]; exact HFC.out.size⟩)
  have HBD := Aside0.mk book0_wf
  clear hrd hb5 hrf
  go_upto_region 9 with fail
  have LB5 := Aside0.mk (run_loadAtK Tryz.prog w5 43 5 Tryz.isAgg43 Tryz.sizeOf43 nbi 0 _ rfl (cells_of_heap (room_at HNBI.out HF5.out)))
  have HIL := Aside0.mk (HLI.out.below HF5.out)
  go_wp2_with ((with_reducible refine at_load 43 (.tmp 5) ?_); refine wpList_loadK rfl 43 (.tmp 5) rfl _ rfl _ LB5.out ?_)
  refine (spoil_any B Ai ci Aj cj W0.heap.size w5 HIL.out HS.out.1 HS.out.2).mono ?_
  rintro e w6 ⟨E1, e1, E2, e2, rfl, hL, hk⟩
  have l1 : ∀ k, (Value.slice Ai B.devs.length ci).ownBlock = some k → k < W2.heap.size := fun k hk => (HLI.out.1.lt k hk).2
  have l2 : ∀ k, (Value.slice Aj B.spent.length cj).ownBlock = some k → k < W2.heap.size := fun k hk => (HLI.out.2.1.lt k hk).2
  have n1 : ∀ k, W2.heap.size ≤ k → some k ≠ (Value.slice Ai B.devs.length ci).ownBlock ∧ some k ≠ (Value.slice Aj B.spent.length cj).ownBlock := fun k hk => ⟨fun e => by have := l1 k e.symm; omega, fun e => by have := l2 k e.symm; omega⟩
  have hF6 : Below w.heap.size w w6 := HFW.out.trans (hk.below (HFW.out.size) (fun k hk => Nat.le_trans HW0.out (HIL.out.1.lt k hk).1) (fun k hk => Nat.le_trans HW0.out (HIL.out.2.1.lt k hk).1))
  have HD6 := Aside0.mk (show DirSt w w6 pd book0 from ⟨(HDH.out.1.kept2 hk HDH.out.2 l1 l2).at_, hF6, Nat.le_trans (Nat.le_trans HW0.out HW2.out) HDH.out.2, HBD.out, HX.out⟩)
  have HR6 := Aside0.mk (show RDir w6 rf book0 from ⟨none, 0, none, 0, (hk.block rf (Array.getElem?_eq_some_iff.1 HRF.out.1.box).1 (n1 rf HRF.out.2.2.2).1 (n1 rf HRF.out.2.2.2).2).trans HRF.out.1.box, ⟨HRF.out.1.src.devs.kept2 hk (fun a ha => n1 _ (HRF.out.2.1 a ha)), HRF.out.1.src.spent.kept2 hk (fun a ha => n1 _ (HRF.out.2.2.1 a ha)), HRF.out.1.src.few, HRF.out.1.src.len⟩, HRF.out.1.t1.kept2 hk (fun a ha => n1 _ (HRF.out.2.1 a ha)), HRF.out.1.t2.kept2 hk (fun a ha => n1 _ (HRF.out.2.2.1 a ha))⟩)
  clear hL hk l1 l2 n1 hF6
  go_wp2_with fail
  refine (new_dir w6).mono ?_
  rintro e w7 ⟨rfl, ha, hb⟩
  obtain ⟨po, hpo⟩ : ∃ po, po = w6.heap.size := ⟨_, rfl⟩
  rw [← hpo] at ha ⊢
  have HU0 := Aside0.mk (show Duo w w7 pd rf po book0 book0 from ⟨HD6.out.later hb, HR6.out.below hb, ⟨ha, below_step HD6.out.fr hb, by rw [hpo]; exact HD6.out.fr.size, book0_wf, HX.out⟩, by rw [hpo]; exact (Nat.ne_of_lt HD6.out.at_.lt).symm, Nat.le_trans (Nat.le_trans HW0.out HW2.out) HRF.out.2.2.2⟩)
  clear ha hb hpo
  go_upto_region 12 with fail
  go_loopg [11] 61 (fun kx s11 wr => ∃ (i : Nat) (B O : Book), s11 = .int .i64 i ∧ i + kx = 61 ∧ Aside0 (i ≤ l.length ∧ i ≤ 60) ∧ Aside0 (Duo w wr pd rf po B O))
  case atStart => exact ⟨0, book0, book0, rfl, by omega, ⟨by omega⟩, ⟨HU0.out⟩⟩
  case round =>
   clear HBD HDH HRF
   obtain ⟨i, B, O, rfl, hik, HI2, HU⟩ := hrel
   have hll := HLL.out
   have hi2 := HI2.out
   by_cases hlt : i < l.length ∧ i < 60
   ·have HLT := Aside0.mk hlt
    obtain ⟨ko, rfl⟩ : ∃ ko, gk = ko + 1 := ⟨gk - 1, by omega⟩
    have HIK := Aside0.mk hik
    have d1 : ((i : Int) < (l.length : Int)) = True := eq_true (by omega)
    have d2 : ((i : Int) < 60) = True := eq_true (by omega)
    have d3 : decide ((i : Int) < (l.length : Int)) = true := decide_eq_true (by omega)
    have d4 : decide ((i : Int) < 60) = true := decide_eq_true (by omega)
    obtain ⟨op, hop⟩ : ∃ op, l[i]? = some op := ⟨_, List.getElem?_eq_getElem hlt.1⟩
    obtain ⟨ad, hAO⟩ : ∃ ad, AO = some ad := by
     cases hA : AO with
     | some a => exact ⟨a, rfl⟩
     | none => exact absurd (HLO.out.2.1 hA) (by omega)
    subst hAO
    obtain ⟨g, o, rfl⟩ := src_bareO HLO.out (by omega)
    have HOP := Aside0.mk (fun (W : World) (hb : Below w.heap.size w W) => load_op HLO.out hb hop)
    have HOI := Aside0.mk (HIN.out op (List.mem_of_getElem? hop))
    have BO := Aside0.mk (buildO5 wr 5 (i : Int))
    have HA1 := Aside0.mk (apply_st w wr po O ⟨5, 0, key0, 0, [], (i : Int)⟩ HU.out.o (by unfold OpIn; simp))
    have HA2 := Aside0.mk (fun (W : World) (h : DirSt w W pd B) => apply_st w W pd B op h HOI.out)
    have HA3 := Aside0.mk (fun (W : World) (h : RDir W rf B) => apply_ref W rf B op h HU.out.d.wf)
    obtain ⟨OA, hOA⟩ : ∃ OA, OA = (encO ⟨5, 0, key0, 0, [], (i : Int)⟩).toArray := ⟨_, rfl⟩
    obtain ⟨PA, hPA⟩ : ∃ PA, PA = (encO op).toArray := ⟨_, rfl⟩
    rw [← hOA] at BO HA1
    rw [← hPA] at HOP HA2 HA3
    obtain ⟨er, her⟩ : ∃ er, er = errOf rulesOf B op := ⟨_, rfl⟩
    obtain ⟨B2, hB2⟩ : ∃ B2, B2 = applyOf rulesOf B op := ⟨_, rfl⟩
    rw [← her, ← hB2] at HA2 HA3
    clear hop hOA hPA her hB2 hlt
    go_wp2_with ((with_reducible refine at_build 36 #[(0, .const (.int .i64 5)), (5, .tmp 62)] ?_); refine wpList_build2 rfl 36 0 5 (.const (.int .i64 5)) (.tmp 62) rfl _ _ rfl rfl _ _ BO.out ?_)
    refine HA1.out.mono ?_
    rintro e y1 ⟨rfl, hs1, hg1⟩
    have HU1 := Aside0.mk (HU.out.do_o hs1 hg1)
    have HF1 := Aside0.mk hs1.fr
    clear hs1 hg1
    have LP := Aside0.mk (HOP.out y1 HF1.out)
    go_wp2_with ((with_reducible refine at_load 36 (.tmp 69) ?_); refine wpList_loadK rfl 36 (.tmp 69) rfl _ rfl _ LP.out ?_)
    refine (HA2.out y1 HU1.out.d).mono ?_
    rintro e y2 ⟨rfl, hs2, hg2⟩
    have HU2 := Aside0.mk (HU1.out.do_d hs2 hg2)
    clear hs2 hg2
    go_upto_region 16 with fail
    obtain ⟨y3, hy3⟩ : ∃ y3, y3 = y2.alloc (.cells #[.int .i64 er, .int .i64 B2.ver] 30) := ⟨_, rfl⟩
    obtain ⟨rs, hrs⟩ : ∃ rs, rs = y2.heap.size := ⟨_, rfl⟩
    have hb9 : Below y2.heap.size y2 y3 := by rw [hy3]; exact (Below.refl _ y2).alloc (Nat.le_refl _) _
    have HRS := Aside0.mk (show y3.heap[rs]? = some (.cells #[.int .i64 er, .int .i64 B2.ver] 30 (0, 0)) by rw [hy3, hrs]; exact heap_alloc_new y2 _)
    have HU3 := Aside0.mk (And.intro (HU2.out.1.later hb9) (And.intro (HU2.out.2.1.below hb9) (HU2.out.2.2.later hb9)))
    rw [← hy3, ← hrs]
    clear hy3 hrs hb9 HU2
    have LP2 := Aside0.mk (HOP.out y3 HU3.out.1.fr)
    go_wp2_with ((with_reducible refine at_load 36 (.tmp 78) ?_); refine wpList_loadK rfl 36 (.tmp 78) rfl _ rfl _ LP2.out ?_)
    refine (HA3.out y3 HU3.out.2.1).mono ?_
    rintro e y4 ⟨rfl, hs4, hg4⟩
    have HU4 := Aside0.mk (do_f HU3.out.1 HU3.out.2.1 HU3.out.2.2 HU1.out.ne HU1.out.low hs4 hg4)
    have HRS4 := Aside0.mk (show y4.heap[rs]? = some (.cells #[.int .i64 er, .int .i64 B2.ver] 30 (0, 0)) from by
     obtain ⟨cs, fr, hq⟩ := HU3.out.2.1.blk
     exact (hg4.block _ (Array.getElem?_eq_some_iff.1 HRS.out).1 (fun e => block_ne HRS.out hq (by decide) (Option.some.inj e))).trans HRS.out)
    clear hs4 hg4
    go_upto_region 17 with fail
    obtain ⟨y5, hy5⟩ : ∃ y5, y5 = y4.alloc (.cells #[.int .i64 er, .int .i64 B2.ver] 30) := ⟨_, rfl⟩
    obtain ⟨ru, hru⟩ : ∃ ru, ru = y4.heap.size := ⟨_, rfl⟩
    have hb9 : Below y4.heap.size y4 y5 := by rw [hy5]; exact (Below.refl _ y4).alloc (Nat.le_refl _) _
    have hr2 : y5.heap[ru]? = some (.cells #[.int .i64 er, .int .i64 B2.ver] 30 (0, 0)) := by rw [hy5, hru]; exact heap_alloc_new y4 _
    have hr1 : y5.heap[rs]? = some (.cells #[.int .i64 er, .int .i64 B2.ver] 30 (0, 0)) := room_at HRS4.out hb9
    have A0 := Aside0.mk (fun (W : World) (hb : Below y5.heap.size y5 W) => (show W.cell? ⟨rs, 0, none⟩ = some (.int .i64 er) by rw [cell_of_heap (room_at hr1 hb)]; rfl))
    have A1 := Aside0.mk (fun (W : World) (hb : Below y5.heap.size y5 W) => (show W.cell? ⟨rs, 1, none⟩ = some (.int .i64 B2.ver) by rw [cell_of_heap (room_at hr1 hb)]; rfl))
    have A2 := Aside0.mk (fun (W : World) (hb : Below y5.heap.size y5 W) => (show W.cell? ⟨ru, 0, none⟩ = some (.int .i64 er) by rw [cell_of_heap (room_at hr2 hb)]; rfl))
    have A3 := Aside0.mk (fun (W : World) (hb : Below y5.heap.size y5 W) => (show W.cell? ⟨ru, 1, none⟩ = some (.int .i64 B2.ver) by rw [cell_of_heap (room_at hr2 hb)]; rfl))
    have HU5 := Aside0.mk (HU4.out.later hb9)
    have hne := neqR2 er B2.ver
    have hgd := fun op a b w => guardR op a b er B2.ver er B2.ver w
    obtain ⟨F1, f1, F2, f2, hF⟩ := HU5.out.f
    have LF := Aside0.mk (fun (W : World) (hb : Below y5.heap.size y5 W) => run_loadAtK Tryz.prog W 43 5 Tryz.isAgg43 Tryz.sizeOf43 rf 0 (bookCells B2 F1 f1 F2 f2) rfl (cells_of_heap (room_at hF.box hb)))
    have HSM := Aside0.mk (fun (E1 : Option Addr) (e1 : Nat) (E2 : Option Addr) (e2 : Nat) (W : World) (hb : Below y5.heap.size y5 W) (hE : SrcB W B2 E1 E2) => same_eq B2 E1 e1 E2 e2 F1 f1 F2 f2 W hE (hF.src.later hb))
    obtain ⟨FA, hFA⟩ : ∃ FA, FA = (bookCells B2 F1 f1 F2 f2).toArray := ⟨_, rfl⟩
    rw [← hFA] at LF HSM
    rw [← hy5, ← hru]
    clear hy5 hru hb9 hr1 hr2 hF hFA HU1 HU3 HU4 HRS HRS4
    refine start_ (n := 19) (S := fun W => Below y5.heap.size y5 W) (ds := []) #[false, false, false, false, false, false, false, false, false, false, false, false, false, false, false, false, false, false, false] (by kernel_rfl) rfl rfl ((Below.refl _ y5).drew) (fun hHeld => ?_)
    generalize World.drew _ = w5 at hHeld ⊢
    refine take_ (i := 0) (N := (some 83)) (v := ?_) (a' := ?_) #[true, false, false, false, false, false, false, false, false, false, false, false, false, false, false, false, false, false, false] rfl rfl (by kernel_rfl) (fun _ _ _ h => h) (Or.inl ⟨by rfl, ?_⟩) hHeld ?_ ?_
    rotate_left
    ·rintro w' hs
     have a0 := A0.out w' hs
     have a1 := A1.out w' hs
     go_simp
     with_reducible rfl
    rotate_left
    ·simp only [Act.put, List.setIfInBounds_toArray, List.set_cons_zero, List.set_cons_succ, i64_w, i32_w]
     rfl
    refine take_ (i := 1) (N := (some 84)) (v := ?_) (a' := ?_) #[true, true, false, false, false, false, false, false, false, false, false, false, false, false, false, false, false, false, false] rfl rfl (by kernel_rfl) (fun _ _ _ h => h) (Or.inl ⟨by rfl, ?_⟩) hHeld ?_ ?_
    rotate_left
    ·rintro w' hs
     have a2 := A2.out w' hs
     have a3 := A3.out w' hs
     go_simp
     with_reducible rfl
    rotate_left
    ·simp only [Act.put, List.setIfInBounds_toArray, List.set_cons_zero, List.set_cons_succ, i64_w, i32_w]
     rfl
    refine pure_ (i := 2) (N := (some 85)) (v := ?_) (a' := ?_) #[true, true, true, false, false, false, false, false, false, false, false, false, false, false, false, false, false, false, false] rfl rfl (by kernel_rfl) (fun _ _ _ h => h) (Or.inl ⟨by rfl, ?_⟩) ?_ ?_
    rotate_left
    ·intro w'
     go_simp
     with_reducible rfl
    rotate_left
    ·simp only [Act.put, List.setIfInBounds_toArray, List.set_cons_zero, List.set_cons_succ, i64_w, i32_w]
     rfl
    refine pure_ (i := 3) (N := (some 86)) (v := ?_) (a' := ?_) #[true, true, true, true, false, false, false, false, false, false, false, false, false, false, false, false, false, false, false] rfl rfl (by kernel_rfl) (fun _ _ _ h => h) (Or.inl ⟨by rfl, ?_⟩) ?_ ?_
    rotate_left
    ·intro w'
     go_simp
     with_reducible rfl
    rotate_left
    ·simp only [Act.put, List.setIfInBounds_toArray, List.set_cons_zero, List.set_cons_succ, i64_w, i32_w]
     rfl
    refine pure_ (i := 4) (N := (some 87)) (v := ?_) (a' := ?_) #[true, true, true, true, true, false, false, false, false, false, false, false, false, false, false, false, false, false, false] rfl rfl (by kernel_rfl) (fun _ _ _ h => h) (Or.inl ⟨by rfl, ?_⟩) ?_ ?_
    rotate_left
    ·intro w'
     go_simp
     with_reducible rfl
    rotate_left
    ·simp only [Act.put, List.setIfInBounds_toArray, List.set_cons_zero, List.set_cons_succ, i64_w, i32_w]
     rfl
    refine pure_ (i := 5) (N := (some 88)) (v := ?_) (a' := ?_) #[true, true, true, true, true, true, false, false, false, false, false, false, false, false, false, false, false, false, false] rfl rfl (by kernel_rfl) (fun _ _ _ h => h) (Or.inl ⟨by rfl, ?_⟩) ?_ ?_
    rotate_left
    ·intro w'
     go_simp
     with_reducible rfl
    rotate_left
    ·simp only [Act.put, List.setIfInBounds_toArray, List.set_cons_zero, List.set_cons_succ, i64_w, i32_w]
     rfl
    refine pure_ (i := 6) (N := (some 89)) (v := ?_) (a' := ?_) #[true, true, true, true, true, true, true, false, false, false, false, false, false, false, false, false, false, false, false] rfl rfl (by kernel_rfl) (fun _ _ _ h => h) (Or.inl ⟨by rfl, ?_⟩) ?_ ?_
    rotate_left
    ·intro w'
     go_simp
     with_reducible rfl
    rotate_left
    ·simp only [Act.put, List.setIfInBounds_toArray, List.set_cons_zero, List.set_cons_succ, i64_w, i32_w]
     rfl
    refine pure_ (i := 7) (N := (some 90)) (v := ?_) (a' := ?_) #[true, true, true, true, true, true, true, true, false, false, false, false, false, false, false, false, false, false, false] rfl rfl (by kernel_rfl) (fun _ _ _ h => h) (Or.inl ⟨by rfl, ?_⟩) ?_ ?_
    rotate_left
    ·intro w'
     go_simp
     with_reducible rfl
    rotate_left
    ·simp only [Act.put, List.setIfInBounds_toArray, List.set_cons_zero, List.set_cons_succ, i64_w, i32_w]
     rfl
    refine pure_ (i := 8) (N := (some 91)) (v := ?_) (a' := ?_) #[true, true, true, true, true, true, true, true, true, false, false, false, false, false, false, false, false, false, false] rfl rfl (by kernel_rfl) (fun _ _ _ h => h) (Or.inl ⟨by rfl, ?_⟩) ?_ ?_
    rotate_left
    ·intro w'
     go_simp
     with_reducible rfl
    rotate_left
    ·simp only [Act.put, List.setIfInBounds_toArray, List.set_cons_zero, List.set_cons_succ, i64_w, i32_w]
     rfl
    refine pure_ (i := 9) (N := (some 92)) (v := ?_) (a' := ?_) #[true, true, true, true, true, true, true, true, true, true, false, false, false, false, false, false, false, false, false] rfl rfl (by kernel_rfl) (fun _ _ _ h => h) (Or.inl ⟨by rfl, ?_⟩) ?_ ?_
    rotate_left
    ·intro w'
     go_simp
     with_reducible rfl
    rotate_left
    ·simp only [Act.put, List.setIfInBounds_toArray, List.set_cons_zero, List.set_cons_succ, i64_w, i32_w]
     rfl
    refine pure_ (i := 12) (N := (some 95)) (v := ?_) (a' := ?_) #[true, true, true, true, true, true, true, true, true, true, false, false, true, false, false, false, false, false, false] rfl rfl (by kernel_rfl) (fun _ _ _ h => h) (Or.inl ⟨by rfl, ?_⟩) ?_ ?_
    rotate_left
    ·intro w'
     go_simp
     with_reducible rfl
    rotate_left
    ·simp only [Act.put, List.setIfInBounds_toArray, List.set_cons_zero, List.set_cons_succ, i64_w, i32_w]
     rfl
    refine pure_ (i := 13) (N := (some 96)) (v := ?_) (a' := ?_) #[true, true, true, true, true, true, true, true, true, true, false, false, true, true, false, false, false, false, false] rfl rfl (by kernel_rfl) (fun _ _ _ h => h) (Or.inl ⟨by rfl, ?_⟩) ?_ ?_
    rotate_left
    ·intro w'
     go_simp
     with_reducible rfl
    rotate_left
    ·simp only [Act.put, List.setIfInBounds_toArray, List.set_cons_zero, List.set_cons_succ, i64_w, i32_w]
     rfl
    refine pure_ (i := 14) (N := (some 97)) (v := ?_) (a' := ?_) #[true, true, true, true, true, true, true, true, true, true, false, false, true, true, true, false, false, false, false] rfl rfl (by kernel_rfl) (fun _ _ _ h => h) (Or.inl ⟨by rfl, ?_⟩) ?_ ?_
    rotate_left
    ·intro w'
     go_simp
     with_reducible rfl
    rotate_left
    ·simp only [Act.put, List.setIfInBounds_toArray, List.set_cons_zero, List.set_cons_succ, i64_w, i32_w]
     rfl
    refine take_ (i := 15) (N := (some 98)) (v := _) (a' := ?_) #[true, true, true, true, true, true, true, true, true, true, false, false, true, true, true, true, false, false, false] rfl rfl (by kernel_rfl) (fun _ _ _ h => h) (Or.inl ⟨by rfl, fun w' hs => yields_load 43 (.tmp 97) _ rfl _ _ rfl _ (LF.out w' hs)⟩) hHeld ?_ ?_
    rotate_left
    ·simp only [Act.put, List.setIfInBounds_toArray, List.set_cons_zero, List.set_cons_succ, i64_w, i32_w]
     rfl
    refine one_ (i := 10) (N := (some 93)) #[true, true, true, true, true, true, true, true, true, true, true, false, true, true, true, true, false, false, false] rfl rfl (by kernel_rfl) (by decide) (fun K hK => ?_)
    refine goes_ Tryz.func17 (by kernel_rfl) rfl #[.pointer (some ⟨pd, 0, none⟩)] (by rfl) rfl rfl (by (try simp only [List.map_toArray, List.map_cons, List.map_nil]); first | done | rfl) ?_
    refine (book_st w _ pd B2 (HU5.out.d.later hHeld)).mono ?_
    rintro e w5c ⟨⟨B1x, d1, B2x, d2, rfl, hL⟩, -, hb⟩
    refine ⟨_, rfl, ?_⟩
    have hS_ := below_step hHeld hb
    have HLX := Aside0.mk (hL.lower hHeld.size)
    clear hL hb
    refine hK.out _ _ hS_ (fun hHeld => ?_)
    clear hK K
    refine norm_ (a' := ?_) ?_ ?_
    rotate_left
    ·show Act.put _ (some 93) _ = _
     simp only [Act.put, List.setIfInBounds_toArray, List.set_cons_zero, List.set_cons_succ, i64_w, i32_w]
     rfl
    refine one_ (i := 11) (N := (some 94)) #[true, true, true, true, true, true, true, true, true, true, true, true, true, true, true, true, false, false, false] rfl rfl (by kernel_rfl) (by decide) (fun K hK => ?_)
    refine goes_ Tryz.func26 (by kernel_rfl) rfl #[.agg (bookCells B2 B1x d1 B2x d2).toArray] (by rfl) rfl rfl (by (try simp only [List.map_toArray, List.map_cons, List.map_nil]); first | done | rfl) ?_
    refine (spoil_any B2 B1x d1 B2x d2 y5.heap.size _ HLX.out (by have := HU5.out.d.wf.few.1; omega) (by have := HU5.out.d.wf.few.2; omega)).mono ?_
    rintro e w5d ⟨E1, e1, E2, e2, rfl, hL, hk⟩
    refine ⟨_, rfl, ?_⟩
    have hS_ : Below y5.heap.size y5 w5d := hHeld.trans (hk.below hHeld.size (fun k hk => (HLX.out.1.lt k hk).1) (fun k hk => (HLX.out.2.1.lt k hk).1))
    have HLY := Aside0.mk (SrcB.of_lists hL HU5.out.d.wf.few)
    clear hL hk
    refine hK.out _ _ hS_ (fun hHeld => ?_)
    clear hK K
    refine norm_ (a' := ?_) ?_ ?_
    rotate_left
    ·show Act.put _ (some 94) _ = _
     simp only [Act.put, List.setIfInBounds_toArray, List.set_cons_zero, List.set_cons_succ, i64_w, i32_w]
     rfl
    refine one_ (i := 16) (N := (some 99)) #[true, true, true, true, true, true, true, true, true, true, true, true, true, true, true, true, true, false, false] rfl rfl (by kernel_rfl) (by decide) (fun K hK => ?_)
    refine goes_ Tryz.func20 (by kernel_rfl) rfl #[.agg (bookCells B2 E1 e1 E2 e2).toArray, .agg FA] (by rfl) rfl rfl (by (try simp only [List.map_toArray, List.map_cons, List.map_nil]); first | done | rfl) ?_
    refine (HSM.out E1 e1 E2 e2 _ hHeld HLY.out).mono ?_
    rintro e w5e ⟨rfl, hb⟩
    refine ⟨_, rfl, ?_⟩
    have hS_ := below_step hHeld hb
    clear hb
    refine hK.out _ _ hS_ (fun hHeld => ?_)
    clear hK K
    refine norm_ (a' := ?_) ?_ ?_
    rotate_left
    ·show Act.put _ (some 99) _ = _
     simp only [Act.put, List.setIfInBounds_toArray, List.set_cons_zero, List.set_cons_succ, i64_w, i32_w]
     rfl
    refine pure_ (i := 17) (N := (some 100)) (v := ?_) (a' := ?_) #[true, true, true, true, true, true, true, true, true, true, true, true, true, true, true, true, true, true, false] rfl rfl (by kernel_rfl) (fun _ _ _ h => h) (Or.inl ⟨by rfl, ?_⟩) ?_ ?_
    rotate_left
    ·intro w'
     go_simp
     with_reducible rfl
    rotate_left
    ·simp only [Act.put, List.setIfInBounds_toArray, List.set_cons_zero, List.set_cons_succ, i64_w, i32_w]
     rfl
    refine pure_ (i := 18) (N := (some 101)) (v := ?_) (a' := ?_) #[true, true, true, true, true, true, true, true, true, true, true, true, true, true, true, true, true, true, true] rfl rfl (by kernel_rfl) (fun _ _ _ h => h) (Or.inl ⟨by rfl, ?_⟩) ?_ ?_
    rotate_left
    ·intro w'
     go_simp
     with_reducible rfl
    rotate_left
    ·simp only [Act.put, List.setIfInBounds_toArray, List.set_cons_zero, List.set_cons_succ, i64_w, i32_w]
     rfl
    refine done_ (by kernel_rfl) ?_
    have HH := Aside0.mk (HU5.out.later hHeld)
    clear hHeld hne hgd
    go_wp2_with fail
    go_roundg ko
    case measure => have := HIK.out; omega
    case rel => exact ⟨i + 1, B2, _, by go_num, by have := HIK.out; omega, ⟨by have := HLT.out; omega⟩, ⟨HH.out⟩⟩
   ·rcases (show l.length ≤ i ∨ (i < l.length ∧ 60 ≤ i) by omega) with hA | hA
    ·have d3 : decide ((i : Int) < (l.length : Int)) = false := decide_eq_false (by omega)
     have d1 : ((i : Int) < (l.length : Int)) = False := eq_false (by omega)
     clear hlt hA
     go_wp2_with fail
     refine (works_any wr HU.out.d.laidW).mono ?_
     rintro e x1 ⟨rfl, hb⟩
     have HB9 := Aside0.mk (below_step HU.out.d.fr hb)
     clear hb
     go_wp2_with fail
     go_ret
     exact ⟨rfl, HB9.out⟩
    ·have d3 : decide ((i : Int) < (l.length : Int)) = true := decide_eq_true (by omega)
     have d4 : decide ((i : Int) < 60) = false := decide_eq_false (by omega)
     have d1 : ((i : Int) < (l.length : Int)) = True := eq_true (by omega)
     have d2 : ((i : Int) < 60) = False := eq_false (by omega)
     clear hlt hA
     go_wp2_with fail
     refine (works_any wr HU.out.d.laidW).mono ?_
     rintro e x1 ⟨rfl, hb⟩
     have HB9 := Aside0.mk (below_step HU.out.d.fr hb)
     clear hb
     go_wp2_with fail
     go_ret
     exact ⟨rfl, HB9.out⟩
end Go.Proofs.YthnpiimiimiijaaGreatDoor.Dir
