/- The document's reader: Get, Bytes, Octets. The document's reader: Bytes, Octets. The document's directory's reader: get, most, key; errors stay. The document's book of bytes: plain; a book on its way. -/
import Derived.Test.YthnpiimiimiijaaGreatDoorKp23
section
namespace Go.Proofs.YthnpiimiimiijaaGreatDoor.Dir
open Go Go.RowKit Go.Proofs Go.Proofs.YthnpiimiimiijaaGreatDoorW.PrintWords Go.Proofs.YthnpiimiimiijaaGreatDoorW.PrintLast Go.Proofs.YthnpiimiimiijaaGreatDoorW.PrintMore
set_option linter.unusedVariables false
set_option linter.unusedSimpArgs false
theorem slice67i (A : Option Addr) (n c lo k : Nat) (h : lo + k ≤ c) (W : World) : (Instr.slice 67 (.slice A n c) (some (.int .i64 lo)) (some (.int .i64 ((lo : Int) + (k : Int)))) none).run Tryz.prog W = .ok (.slice (if c = lo then A else A.map (·.add lo)) k (c - lo)) W := by
 have := slice67 A n c lo (lo + k) (by omega) h W
 rw [show ((lo + k : Nat) : Int) = (lo : Int) + (k : Int) by omega, show lo + k - lo = k by omega] at this
 exact this
theorem rr_src {w W : World} {A : Option Addr} {c pos k base : Nat} {xs : List UInt8} (ho : OwnB w base A c xs) (hb : Below w.heap.size w W) (h : pos + k ≤ xs.length) : SrcAt W (if c = pos then A else A.map (·.add pos)) ((xs.drop pos).take k).length 1 (((xs.drop pos).take k).map byteV) := by
 have := src_slice (c := c) (lo := pos) (hi := pos + k) (ho.src.grown hb) (by omega) (by omega) (own_cap ho)
 rw [show pos + k - pos = k by omega] at this
 rw [List.length_take, List.length_drop, Nat.min_eq_left (by omega)]
 exact this
/-- What Get answers. -/
def RGetEnd (w w' : World) (base br s : Nat) (r : List UInt8) (e : Ending) : Prop :=
 ((r.length < s ∧ e = .returned (.tuple #[.int .i64 0, .int .i64 3]) ∧ RR w' base br r) ∨ (s ≤ r.length ∧ e = .returned (.tuple #[.int .i64 (natB (r.take s) : Nat), .int .i64 0]) ∧ RR w' base br (r.drop s))) ∧ Below base w w' ∧ KeptT [162] w w'
theorem rr_step {w w7 : World} {base br c pos s : Nat} {A : Option Addr} {xs : List UInt8} (ha : w.heap[br]? = some (.cells #[.slice A xs.length c, .int .i64 (pos : Nat)] 162 (0, 0))) (ho : OwnB w base A c xs) (hl : xs.length ≤ 140737488355328) (hb1 : base ≤ br) (hps : pos + s ≤ xs.length) (hb : Below w.heap.size w w7) (hbase : base ≤ w.heap.size) :
  RR (w7.setCell ⟨br, 1, none⟩ (.int .i64 ((pos + s : Nat) : Int))) base br ((xs.drop pos).drop s) ∧ Below base w (w7.setCell ⟨br, 1, none⟩ (.int .i64 ((pos + s : Nat) : Int))) ∧ KeptT [162] w (w7.setCell ⟨br, 1, none⟩ (.int .i64 ((pos + s : Nat) : Int))) := by
 have ha7 := room_at ha hb
 have ho7 := ho.below hb
 refine ⟨⟨A, c, xs, pos + s, ?_, own_setCellT ho7 ha7 (by decide) _, hps, by rw [List.drop_drop], hl, hb1⟩, (hb.mono hbase).setCell hb1 _, (KeptT.below hb).trans (KeptT.setCell ha7 (by decide) _)⟩
 rw [heap_setCell_same w7 br 1 _ _ _ ha7]
 rfl
set_option maxHeartbeats 4000000 in
set_option maxRecDepth 100000 in
theorem get113 (base br s : Nat) (r : List UInt8) (w : World) (h : RR w base br r) (hs1 : 1 ≤ s) (hs7 : s ≤ 7) :
  Calls Tryz.prog 113 #[.pointer (some ⟨br, 0, none⟩), .int .i64 s] w fun e w' => RGetEnd w w' base br s r e := by
 have hlf := Aside0.mk (left78 base br r w h)
 have hsz := Aside0.mk (size101 s w (by omega) (by omega))
 have HRR := Aside0.mk h
 have hbase := h.base_le
 obtain ⟨A, c, xs, pos, ha, ho, hpos, hr, hxl, hb1⟩ := h
 have hcap := own_cap ho
 have hrl : r.length = xs.length - pos := by rw [hr]; exact List.length_drop
 have HA := Aside0.mk (And.intro ha ho)
 have HB := Aside0.mk (And.intro hxl (And.intro hb1 hbase))
 have HR := Aside0.mk (And.intro hr hrl)
 have HC := Aside0.mk (And.intro hpos hcap)
 have i1 : (1 : Int) ≤ (s : Int) := by omega
 have i7 : (s : Int) ≤ 7 := by omega
 obtain ⟨n, hn0⟩ : ∃ n, n = xs.length := ⟨_, rfl⟩
 have HN := Aside0.mk hn0
 obtain ⟨rl, hrl0⟩ : ∃ rl, rl = r.length := ⟨_, rfl⟩
 rw [← hrl0] at hlf
 have HRL := Aside0.mk hrl0
 have HSH := Aside0.mk (show w.heap[br]? = some (.cells #[.slice A n c, .int .i64 pos] 162 (0, 0)) by rw [hn0]; exact ha)
 by_cases hlt : rl < s
 ·have hltz : (rl : Int) < (s : Int) := by omega
  have HLT := Aside0.mk (show r.length < s by omega)
  clear ha ho hpos hr hxl hb1 hbase hcap hrl hn0 hrl0 hlt
  go_enter Tryz.func113, Tryz.ntmps113
  go_upto_region 3 with (go_at_call 101; refine hsz.out.mono ?_; rintro e w' ⟨rfl, rfl⟩)
  go_wp2_with (go_at_call 78; refine hlf.out.mono ?_; rintro e w2 ⟨rfl, hb⟩)
  go_ret2
  exact ⟨.inl ⟨HLT.out, rfl, HRR.out.below hb⟩, hb.mono HB.out.2.2, KeptT.below hb⟩
 ·have hltz : ¬ (rl : Int) < (s : Int) := by omega
  have HLT := Aside0.mk (show s ≤ r.length by omega)
  clear ha ho hpos hr hxl hb1 hbase hcap hrl hn0 hrl0 hlt
  go_enter Tryz.func113, Tryz.ntmps113
  go_upto_region 3 with (go_at_call 101; refine hsz.out.mono ?_; rintro e w' ⟨rfl, rfl⟩)
  go_upto_region 5 with (go_at_call 78; refine hlf.out.mono ?_; rintro e w2 ⟨rfl, hb⟩)
  have HB2 := Aside0.mk hb
  clear hb hlf hsz
  have K0 := Aside0.mk (fun (W : World) (hb : Below w2.heap.size w2 W) => (show W.cell? ⟨br, 0, none⟩ = some (.slice A n c) by rw [cell_of_heap (room_at (room_at HSH.out HB2.out) hb)]; rfl))
  have K1 := Aside0.mk (fun (W : World) (hb : Below w2.heap.size w2 W) => (show W.cell? ⟨br, 1, none⟩ = some (.int .i64 pos) by rw [cell_of_heap (room_at (room_at HSH.out HB2.out) hb)]; rfl))
  have hps : pos + s ≤ n := by have h1 := HLT.out; have h2 := HR.out.2; have h3 := HC.out; have h4 := HN.out; omega
  have hsl := fun W => slice67i A n c pos s (by have h3 := HC.out; have h4 := HN.out; omega) W
  have hpb : pos + s ≤ 140737488355328 := by have h4 := HB.out.1; have h5 := HN.out; omega
  have HNM := Aside0.mk (fun (W : World) (hb : Below w2.heap.size w2 W) => (number115 ((xs.drop pos).take s) s (by rw [List.length_take, List.length_drop]; have := HN.out; omega) (by rw [List.length_take]; omega) (if c = pos then A else A.map (·.add pos)) (c - pos) W (rr_src HA.out.2 (below_step HB2.out hb) (by have := HN.out; omega))).mono fun e w' hh => (⟨hh.1, below_step hb hh.2⟩ : e = .returned (.tuple #[.int .i64 (natB ((xs.drop pos).take s) : Nat), .bool true]) ∧ Below w2.heap.size w2 w'))
  obtain ⟨A', hA'⟩ : ∃ A', A' = (if c = pos then A else A.map (·.add pos)) := ⟨_, rfl⟩
  obtain ⟨nv, hnv⟩ : ∃ nv, nv = natB ((xs.drop pos).take s) := ⟨_, rfl⟩
  rw [← hA'] at hsl
  rw [← hA', ← hnv] at HNM
  have HNV := Aside0.mk (show nv = natB (r.take s) by rw [hnv, HR.out.1])
  clear hA' hnv
  refine region_quietC (C := fun W => Below w2.heap.size w2 W) (by kernel_rfl) (by kernel_rfl) ((Below.refl _ w2).drew) ?_
  repeat (first | ((with_reducible refine at_ql 67 (.tmp 18) ?_); refine wpQuiet_loadK 67 (.tmp 18) rfl _ rfl _ (by kernel_rfl) (fun W hb => run_load1 67 Tryz.isAgg67 (K0.out W hb)) ?_; simp only [Act.put, List.setIfInBounds_toArray, List.set_cons_zero, List.set_cons_succ]) | ((with_reducible refine at_ql 3 (.tmp 22) ?_); refine wpQuiet_loadK 3 (.tmp 22) rfl _ rfl _ (by kernel_rfl) (fun W hb => run_load1 3 Tryz.isAgg3 (K1.out W hb)) ?_; simp only [Act.put, List.setIfInBounds_toArray, List.set_cons_zero, List.set_cons_succ]) | ((with_reducible refine at_ql 3 (.tmp 26) ?_); refine wpQuiet_loadK 3 (.tmp 26) rfl _ rfl _ (by kernel_rfl) (fun W hb => run_load1 3 Tryz.isAgg3 (K1.out W hb)) ?_; simp only [Act.put, List.setIfInBounds_toArray, List.set_cons_zero, List.set_cons_succ]) | ((with_reducible refine at_qc 115 ?_); refine wpQuiet_callK Tryz.func115 (by kernel_rfl) rfl #[.slice A' s (c - pos)] rfl (by simp only [List.map_toArray, List.map_cons, List.map_nil]; rfl) (.tuple #[.int .i64 nv, .bool true]) (by kernel_rfl) HNM.out ?_; simp only [Act.put, List.setIfInBounds_toArray, List.set_cons_zero, List.set_cons_succ]) | go_big_quiet_step (exact fun _ => rfl))
  refine wpQuiet_nil ?_
  rintro wq hq
  have HWQ := Aside0.mk (below_step HB2.out hq)
  clear hq
  have c1 : wq.cell? ⟨br, 1, none⟩ = some (.int .i64 pos) := by rw [cell_of_heap (room_at HSH.out HWQ.out)]; rfl
  have f1 : wq.frozen? ⟨br, 1, none⟩ = false := frozen_of_heap (room_at HSH.out HWQ.out)
  go_wp2_with fail
  go_ret2
  have hst := rr_step (s := s) HA.out.1 HA.out.2 HB.out.1 HB.out.2.1 (by have := HN.out; omega) HWQ.out HB.out.2.2
  rw [← HR.out.1] at hst
  exact ⟨.inr ⟨HLT.out, by rw [← HNV.out]; rfl, hst.1⟩, hst.2.1, hst.2.2⟩
end Go.Proofs.YthnpiimiimiijaaGreatDoor.Dir
end
section
namespace Go.Proofs.YthnpiimiimiijaaGreatDoor.Dir
open Go Go.RowKit Go.Proofs Go.Proofs.YthnpiimiimiijaaGreatDoorW.PrintWords Go.Proofs.YthnpiimiimiijaaGreatDoorW.PrintLast Go.Proofs.YthnpiimiimiijaaGreatDoorW.PrintMore
set_option linter.unusedVariables false
set_option linter.unusedSimpArgs false
/-- What Bytes answers. -/
def RTakeEnd (w w' : World) (base br k : Nat) (r : List UInt8) (e : Ending) : Prop :=
 ((r.length < k ∧ e = .returned (.tuple #[.slice none 0 0, .int .i64 3]) ∧ RR w' base br r) ∨ (k ≤ r.length ∧ ∃ A c, e = .returned (.tuple #[.slice A k c, .int .i64 0]) ∧ OwnB w' w.heap.size A c (r.take k) ∧ RR w' base br (r.drop k))) ∧ Below base w w' ∧ KeptT [162] w w'
set_option maxHeartbeats 4000000 in
set_option maxRecDepth 100000 in
theorem take114 (base br k : Nat) (r : List UInt8) (w : World) (h : RR w base br r) :
  Calls Tryz.prog 114 #[.pointer (some ⟨br, 0, none⟩), .int .i64 k] w fun e w' => RTakeEnd w w' base br k r e := by
 have hlf := Aside0.mk (left78 base br r w h)
 have HRR := Aside0.mk h
 have hbase := h.base_le
 obtain ⟨A, c, xs, pos, ha, ho, hpos, hr, hxl, hb1⟩ := h
 have hcap := own_cap ho
 have hrl : r.length = xs.length - pos := by rw [hr]; exact List.length_drop
 have HA := Aside0.mk (And.intro ha ho)
 have HB := Aside0.mk (And.intro hxl (And.intro hb1 hbase))
 have HR := Aside0.mk (And.intro hr hrl)
 have HC := Aside0.mk (And.intro hpos hcap)
 have k0 : ¬ (k : Int) < 0 := by omega
 obtain ⟨n, hn0⟩ : ∃ n, n = xs.length := ⟨_, rfl⟩
 have HN := Aside0.mk hn0
 obtain ⟨rl, hrl0⟩ : ∃ rl, rl = r.length := ⟨_, rfl⟩
 rw [← hrl0] at hlf
 have HRL := Aside0.mk hrl0
 have HSH := Aside0.mk (show w.heap[br]? = some (.cells #[.slice A n c, .int .i64 pos] 162 (0, 0)) by rw [hn0]; exact ha)
 by_cases hlt : rl < k
 ·have hltz : (rl : Int) < (k : Int) := by omega
  have HLT := Aside0.mk (show r.length < k by omega)
  clear ha ho hpos hr hxl hb1 hbase hcap hrl hn0 hrl0 hlt
  go_enter Tryz.func114, Tryz.ntmps114
  go_wp2_with (go_at_call 78; refine hlf.out.mono ?_; rintro e w2 ⟨rfl, hb⟩)
  go_ret2
  exact ⟨.inl ⟨HLT.out, rfl, HRR.out.below hb⟩, hb.mono HB.out.2.2, KeptT.below hb⟩
 ·have hltz : ¬ (rl : Int) < (k : Int) := by omega
  have HLT := Aside0.mk (show k ≤ r.length by omega)
  clear ha ho hpos hr hxl hb1 hbase hcap hrl hn0 hrl0 hlt
  go_enter Tryz.func114, Tryz.ntmps114
  go_upto_region 5 with (go_at_call 78; refine hlf.out.mono ?_; rintro e w2 ⟨rfl, hb⟩)
  have HB2 := Aside0.mk hb
  have c1 : w2.cell? ⟨br, 1, none⟩ = some (.int .i64 pos) := by rw [cell_of_heap (room_at HSH.out hb)]; rfl
  have f1 : w2.frozen? ⟨br, 1, none⟩ = false := frozen_of_heap (room_at HSH.out hb)
  have hps : pos + k ≤ n := by have h1 := HLT.out; have h2 := HR.out.2; have h3 := HC.out; have h4 := HN.out; omega
  have hpb : pos + k ≤ 140737488355328 := by have h4 := HB.out.1; have h5 := HN.out; omega
  clear hb hlf
  go_upto_region 6 with fail
  obtain ⟨w3, hw3⟩ : ∃ w3, w3 = w2.setCell ⟨br, 1, none⟩ (.int .i64 ((pos : Int) + (k : Int))) := ⟨_, rfl⟩
  have HST := Aside0.mk (show RR w3 base br (r.drop k) ∧ Below base w w3 ∧ KeptT [162] w w3 by
   have hst := rr_step (s := k) HA.out.1 HA.out.2 HB.out.1 HB.out.2.1 (by have := HN.out; omega) HB2.out HB.out.2.2
   rw [← HR.out.1] at hst
   rw [hw3, show (pos : Int) + (k : Int) = ((pos + k : Nat) : Int) by omega]
   exact hst)
  have HS3 := Aside0.mk (show w3.heap[br]? = some (.cells #[.slice A n c, .int .i64 ((pos : Int) + (k : Int))] 162 (0, 0)) by rw [hw3, heap_setCell_same w2 br 1 _ _ _ (room_at HSH.out HB2.out)]; rfl)
  have HO3 := Aside0.mk (show OwnB w3 base A c xs by rw [hw3]; exact own_setCellT (HA.out.2.below HB2.out) (room_at HSH.out HB2.out) (by decide) _)
  rw [← hw3]
  clear hw3 c1 f1
  have hsl := fun W => slice67i A n c pos k (by have h3 := HC.out; have h4 := HN.out; omega) W
  have hwp : Go.RowKit.wrap64 (pos : Int) = (pos : Int) := by unfold Go.RowKit.wrap64; omega
  have HSRC := Aside0.mk (show ∀ W, Below w3.heap.size w3 W → SrcAt W (if c = pos then A else A.map (·.add pos)) k 1 ((r.take k).map byteV) from fun W hb => by
   have := rr_src (k := k) (pos := pos) HO3.out hb (by have := HN.out; omega)
   rw [← HR.out.1, List.length_take, Nat.min_eq_left HLT.out] at this
   exact this)
  obtain ⟨A', hA'⟩ : ∃ A', A' = (if c = pos then A else A.map (·.add pos)) := ⟨_, rfl⟩
  rw [← hA'] at hsl HSRC
  clear hA'
  have HWS := Aside0.mk (show w.heap.size ≤ w3.heap.size from HST.out.2.1.size)
  refine start_ (n := 18) (S := fun W => W.heap[br]? = some (.cells #[.slice A n c, .int .i64 ((pos : Int) + (k : Int))] 162 (0, 0))) (ds := []) #[false, false, false, false, false, false, false, false, false, false, false, false, false, false, false, false, false, false] (by kernel_rfl) rfl rfl (room_at HS3.out ((Below.refl _ w3).drew)) (fun hHeld => ?_)
  obtain ⟨w5, hw5⟩ : ∃ w5, w5 = w3.drew := ⟨_, rfl⟩
  have B5 := Aside0.mk (show Below w3.heap.size w3 w5 by rw [hw5]; exact (Below.refl _ w3).drew)
  rw [← hw5] at hHeld ⊢
  clear hw5
  refine pure_ (i := 0) (N := (some 21)) (v := ?_) (a' := ?_) #[true, false, false, false, false, false, false, false, false, false, false, false, false, false, false, false, false, false] rfl rfl (by kernel_rfl) (fun _ _ _ h => h) (Or.inl ⟨by rfl, ?_⟩) ?_ ?_
  rotate_left
  ·intro w'
   go_simp
   with_reducible rfl
  rotate_left
  ·simp only [Act.put, List.setIfInBounds_toArray, List.set_cons_zero, List.set_cons_succ, i64_w, i32_w]
   rfl
  refine pure_ (i := 1) (N := (some 22)) (v := ?_) (a' := ?_) #[true, true, false, false, false, false, false, false, false, false, false, false, false, false, false, false, false, false] rfl rfl (by kernel_rfl) (fun _ _ _ h => h) (Or.inl ⟨by rfl, ?_⟩) ?_ ?_
  rotate_left
  ·intro w'
   go_simp
   with_reducible rfl
  rotate_left
  ·simp only [Act.put, List.setIfInBounds_toArray, List.set_cons_zero, List.set_cons_succ, i64_w, i32_w]
   rfl
  refine pure_ (i := 2) (N := (some 23)) (v := ?_) (a' := ?_) #[true, true, true, false, false, false, false, false, false, false, false, false, false, false, false, false, false, false] rfl rfl (by kernel_rfl) (fun _ _ _ h => h) (Or.inl ⟨by rfl, ?_⟩) ?_ ?_
  rotate_left
  ·intro w'
   go_simp
   with_reducible rfl
  rotate_left
  ·simp only [Act.put, List.setIfInBounds_toArray, List.set_cons_zero, List.set_cons_succ, i64_w, i32_w]
   rfl
  refine pure_ (i := 4) (N := (some 25)) (v := ?_) (a' := ?_) #[true, true, true, false, true, false, false, false, false, false, false, false, false, false, false, false, false, false] rfl rfl (by kernel_rfl) (fun _ _ _ h => h) (Or.inl ⟨by rfl, ?_⟩) ?_ ?_
  rotate_left
  ·intro w'
   go_simp
   with_reducible rfl
  rotate_left
  ·simp only [Act.put, List.setIfInBounds_toArray, List.set_cons_zero, List.set_cons_succ, i64_w, i32_w]
   rfl
  refine pure_ (i := 5) (N := (some 26)) (v := ?_) (a' := ?_) #[true, true, true, false, true, true, false, false, false, false, false, false, false, false, false, false, false, false] rfl rfl (by kernel_rfl) (fun _ _ _ h => h) (Or.inl ⟨by rfl, ?_⟩) ?_ ?_
  rotate_left
  ·intro w'
   go_simp
   with_reducible rfl
  rotate_left
  ·simp only [Act.put, List.setIfInBounds_toArray, List.set_cons_zero, List.set_cons_succ, i64_w, i32_w]
   rfl
  refine pure_ (i := 6) (N := (some 27)) (v := ?_) (a' := ?_) #[true, true, true, false, true, true, true, false, false, false, false, false, false, false, false, false, false, false] rfl rfl (by kernel_rfl) (fun _ _ _ h => h) (Or.inl ⟨by rfl, ?_⟩) ?_ ?_
  rotate_left
  ·intro w'
   go_simp
   with_reducible rfl
  rotate_left
  ·simp only [Act.put, List.setIfInBounds_toArray, List.set_cons_zero, List.set_cons_succ, i64_w, i32_w]
   rfl
  refine pure_ (i := 8) (N := (some 29)) (v := ?_) (a' := ?_) #[true, true, true, false, true, true, true, false, true, false, false, false, false, false, false, false, false, false] rfl rfl (by kernel_rfl) (fun _ _ _ h => h) (Or.inl ⟨by rfl, ?_⟩) ?_ ?_
  rotate_left
  ·intro w'
   go_simp
   with_reducible rfl
  rotate_left
  ·simp only [Act.put, List.setIfInBounds_toArray, List.set_cons_zero, List.set_cons_succ, i64_w, i32_w]
   rfl
  refine pure_ (i := 10) (N := (some 31)) (v := ?_) (a' := ?_) #[true, true, true, false, true, true, true, false, true, false, true, false, false, false, false, false, false, false] rfl rfl (by kernel_rfl) (fun _ _ _ h => h) (Or.inl ⟨by rfl, ?_⟩) ?_ ?_
  rotate_left
  ·intro w'
   go_simp
   with_reducible rfl
  rotate_left
  ·simp only [Act.put, List.setIfInBounds_toArray, List.set_cons_zero, List.set_cons_succ, i64_w, i32_w]
   rfl
  refine pure_ (i := 11) (N := (some 32)) (v := ?_) (a' := ?_) #[true, true, true, false, true, true, true, false, true, false, true, true, false, false, false, false, false, false] rfl rfl (by kernel_rfl) (fun _ _ _ h => h) (Or.inl ⟨by rfl, ?_⟩) ?_ ?_
  rotate_left
  ·intro w'
   go_simp
   with_reducible rfl
  rotate_left
  ·simp only [Act.put, List.setIfInBounds_toArray, List.set_cons_zero, List.set_cons_succ, i64_w, i32_w]
   rfl
  refine pure_ (i := 12) (N := (some 33)) (v := ?_) (a' := ?_) #[true, true, true, false, true, true, true, false, true, false, true, true, true, false, false, false, false, false] rfl rfl (by kernel_rfl) (fun _ _ _ h => h) (Or.inl ⟨by rfl, ?_⟩) ?_ ?_
  rotate_left
  ·intro w'
   go_simp
   with_reducible rfl
  rotate_left
  ·simp only [Act.put, List.setIfInBounds_toArray, List.set_cons_zero, List.set_cons_succ, i64_w, i32_w]
   rfl
  refine take_ (i := 3) (N := (some 24)) (v := ?_) (a' := ?_) #[true, true, true, true, true, true, true, false, true, false, true, true, true, false, false, false, false, false] rfl rfl (by kernel_rfl) (fun _ _ _ h => h) (Or.inl ⟨by rfl, ?_⟩) hHeld ?_ ?_
  rotate_left
  ·rintro w' hs
   have s0 : w'.cell? ⟨br, 0, none⟩ = some (.slice A n c) := by rw [cell_of_heap hs]; rfl
   go_simp
   with_reducible rfl
  rotate_left
  ·simp only [Act.put, List.setIfInBounds_toArray, List.set_cons_zero, List.set_cons_succ, i64_w, i32_w]
   rfl
  refine take_ (i := 7) (N := (some 28)) (v := ?_) (a' := ?_) #[true, true, true, true, true, true, true, true, true, false, true, true, true, false, false, false, false, false] rfl rfl (by kernel_rfl) (fun _ _ _ h => h) (Or.inl ⟨by rfl, ?_⟩) hHeld ?_ ?_
  rotate_left
  ·rintro w' hs
   have s1 : w'.cell? ⟨br, 1, none⟩ = some (.int .i64 ((pos : Int) + (k : Int))) := by rw [cell_of_heap hs]; rfl
   go_simp
   with_reducible rfl
  rotate_left
  ·simp only [Act.put, List.setIfInBounds_toArray, List.set_cons_zero, List.set_cons_succ, i64_w, i32_w]
   rfl
  refine pure_ (i := 9) (N := (some 30)) (v := ?_) (a' := ?_) #[true, true, true, true, true, true, true, true, true, true, true, true, true, false, false, false, false, false] rfl rfl (by kernel_rfl) (fun _ _ _ h => h) (Or.inl ⟨by rfl, ?_⟩) ?_ ?_
  rotate_left
  ·intro w'
   go_simp
   with_reducible rfl
  rotate_left
  ·simp only [Act.put, List.setIfInBounds_toArray, List.set_cons_zero, List.set_cons_succ, i64_w, i32_w]
   rfl
  refine take_ (i := 13) (N := (some 34)) (v := ?_) (a' := ?_) #[true, true, true, true, true, true, true, true, true, true, true, true, true, true, false, false, false, false] rfl rfl (by kernel_rfl) (fun _ _ _ h => h) (Or.inl ⟨by rfl, ?_⟩) hHeld ?_ ?_
  rotate_left
  ·rintro w' hs
   have s1 : w'.cell? ⟨br, 1, none⟩ = some (.int .i64 ((pos : Int) + (k : Int))) := by rw [cell_of_heap hs]; rfl
   go_simp
   with_reducible rfl
  rotate_left
  ·simp only [Act.put, List.setIfInBounds_toArray, List.set_cons_zero, List.set_cons_succ, i64_w, i32_w]
   rfl
  refine pure_ (i := 14) (N := (some 35)) (v := ?_) (a' := ?_) #[true, true, true, true, true, true, true, true, true, true, true, true, true, true, true, false, false, false] rfl rfl (by kernel_rfl) (fun _ _ _ h => h) (Or.inl ⟨by rfl, ?_⟩) ?_ ?_
  rotate_left
  ·intro w'
   go_simp
   with_reducible rfl
  rotate_left
  ·simp only [Act.put, List.setIfInBounds_toArray, List.set_cons_zero, List.set_cons_succ, i64_w, i32_w]
   rfl
  obtain ⟨A3, c3, w6, hr, g2, g3⟩ := run_app appB w5 67 w5.heap.size 0 0 k (c - pos) none A' [] ((r.take k).map byteV) (World.ownsRow_nil _ _ _ _) (HSRC.out w5 B5.out) (bytes_one _) (by have := HB.out.1; have := HN.out; omega) (by have := HB.out.1; have := HN.out; unfold maxLen; omega) (Nat.le_refl _)
  refine one_ (i := 15) (N := (some 36)) #[true, true, true, true, true, true, true, true, true, true, true, true, true, true, true, true, false, false] rfl rfl (by kernel_rfl) (by decide) (fun K hK => ?_)
  refine value_ (v := .slice A3 (0 + k) c3) (w1 := w6) (by rfl) rfl ?_ ?_
  ·exact runs_append 67 (.const (.slice none 0 0)) (.tmp 35) _ rfl _ (.slice none 0 0) (.slice A' k (c - pos)) _ rfl rfl hr
  have HB6 := Aside0.mk (show Below w5.heap.size w5 w6 from below_grownBy g3)
  have HO6 := Aside0.mk g2
  have hS_ : w6.heap[br]? = some (.cells #[.slice A n c, .int .i64 ((pos : Int) + (k : Int))] 162 (0, 0)) := room_at hHeld HB6.out
  clear hr g2 g3
  refine hK.out _ _ hS_ (fun hHeld => ?_)
  clear hK K
  refine norm_ (a' := ?_) ?_ ?_
  rotate_left
  ·show Act.put _ (some 36) _ = _
   simp only [Act.put, List.setIfInBounds_toArray, List.set_cons_zero, List.set_cons_succ, i64_w, i32_w]
   rfl
  refine pure_ (i := 16) (N := (some 4)) (v := ?_) (a' := ?_) #[true, true, true, true, true, true, true, true, true, true, true, true, true, true, true, true, true, false] rfl rfl (by kernel_rfl) (fun _ _ _ h => h) (Or.inl ⟨by rfl, ?_⟩) ?_ ?_
  rotate_left
  ·intro w'
   go_simp
   with_reducible rfl
  rotate_left
  ·simp only [Act.put, List.setIfInBounds_toArray, List.set_cons_zero, List.set_cons_succ, i64_w, i32_w]
   rfl
  refine pure_ (i := 17) (N := (some 5)) (v := ?_) (a' := ?_) #[true, true, true, true, true, true, true, true, true, true, true, true, true, true, true, true, true, true] rfl rfl (by kernel_rfl) (fun _ _ _ h => h) (Or.inl ⟨by rfl, ?_⟩) ?_ ?_
  rotate_left
  ·intro w'
   go_simp
   with_reducible rfl
  rotate_left
  ·simp only [Act.put, List.setIfInBounds_toArray, List.set_cons_zero, List.set_cons_succ, i64_w, i32_w]
   rfl
  refine done_ (by kernel_rfl) ?_
  clear hHeld
  go_wp2_with fail
  go_ret2
  have hb56 := below_step B5.out HB6.out
  refine ⟨.inr ⟨HLT.out, A3, c3, by first | rfl | (show Ending.returned (.tuple #[.slice A3 (0 + k) c3, .int .i64 0]) = _; rw [Nat.zero_add]), ?_, HST.out.1.below hb56⟩, HST.out.2.1.trans (hb56.mono (Nat.le_trans HB.out.2.2 HWS.out)), HST.out.2.2.trans (KeptT.below hb56)⟩
  have := own_weaken HO6.out (Nat.le_trans HWS.out B5.out.size)
  unfold OwnB
  rw [List.length_take, Nat.min_eq_left HLT.out]
  rw [Nat.zero_add, List.nil_append] at this
  exact this
/-- What Octets answers. -/
def ROctEnd (w w' : World) (base br m : Nat) (r : List UInt8) (e : Ending) : Prop :=
 ((∃ c, c ≠ 0 ∧ octP m r = .error c ∧ e = .returned (.tuple #[.slice none 0 0, .int .i64 c])) ∨ (∃ a r' A c, octP m r = .ok (a, r') ∧ e = .returned (.tuple #[.slice A a.length c, .int .i64 0]) ∧ OwnB w' w.heap.size A c a ∧ RR w' base br r')) ∧ Below base w w' ∧ KeptT [162] w w'
set_option maxHeartbeats 4000000 in
set_option maxRecDepth 100000 in
theorem octets77 (base br m : Nat) (r : List UInt8) (w : World) (h : RR w base br r) :
  Calls Tryz.prog 77 #[.pointer (some ⟨br, 0, none⟩), .int .i64 m] w fun e w' => ROctEnd w w' base br m r e := by
 have hlf := Aside0.mk (left78 base br r w h)
 have HRR := Aside0.mk h
 have hbase := h.base_le
 obtain ⟨A, c, xs, pos, ha, ho, hpos, hr, hxl, hb1⟩ := h
 have hcap := own_cap ho
 have hrl : r.length = xs.length - pos := by rw [hr]; exact List.length_drop
 have HA := Aside0.mk (And.intro ha ho)
 have HB := Aside0.mk (And.intro hxl (And.intro hb1 hbase))
 have HR := Aside0.mk (And.intro hr hrl)
 have HC := Aside0.mk (And.intro hpos hcap)
 obtain ⟨n, hn0⟩ : ∃ n, n = xs.length := ⟨_, rfl⟩
 have HN := Aside0.mk hn0
 obtain ⟨rl, hrl0⟩ : ∃ rl, rl = r.length := ⟨_, rfl⟩
 rw [← hrl0] at hlf
 have HRL := Aside0.mk hrl0
 have HSH := Aside0.mk (show w.heap[br]? = some (.cells #[.slice A n c, .int .i64 pos] 162 (0, 0)) by rw [hn0]; exact ha)
 by_cases hlt : rl < 2
 ·have hltz : (rl : Int) < 2 := by omega
  have HLT := Aside0.mk (show octP m r = .error 3 by unfold octP; rw [getP_no (by omega)])
  clear ha ho hpos hr hxl hb1 hbase hcap hrl hn0 hrl0 hlt
  go_enter Tryz.func77, Tryz.ntmps77
  go_wp2_with (go_at_call 78; refine hlf.out.mono ?_; rintro e w2 ⟨rfl, hb⟩)
  go_ret2
  exact ⟨.inl ⟨3, by decide, HLT.out, rfl⟩, hb.mono HB.out.2.2, KeptT.below hb⟩
 ·have hltz : ¬ (rl : Int) < 2 := by omega
  have HLT := Aside0.mk (show 2 ≤ r.length by omega)
  clear ha ho hpos hr hxl hb1 hbase hcap hrl hn0 hrl0 hlt
  go_enter Tryz.func77, Tryz.ntmps77
  go_upto_region 3 with (go_at_call 78; refine hlf.out.mono ?_; rintro e w2 ⟨rfl, hb⟩)
  have HB2 := Aside0.mk hb
  clear hb hlf
  have K0 := Aside0.mk (fun (W : World) (hb : Below w2.heap.size w2 W) => (show W.cell? ⟨br, 0, none⟩ = some (.slice A n c) by rw [cell_of_heap (room_at (room_at HSH.out HB2.out) hb)]; rfl))
  have K1 := Aside0.mk (fun (W : World) (hb : Below w2.heap.size w2 W) => (show W.cell? ⟨br, 1, none⟩ = some (.int .i64 pos) by rw [cell_of_heap (room_at (room_at HSH.out HB2.out) hb)]; rfl))
  have hps : pos + 2 ≤ n := by have h1 := HLT.out; have h2 := HR.out.2; have h3 := HC.out; have h4 := HN.out; omega
  have hsl : ∀ W, (Instr.slice 67 (.slice A n c) (some (.int .i64 pos)) (some (.int .i64 ((pos : Int) + 2))) none).run Tryz.prog W = .ok (.slice (if c = pos then A else A.map (·.add pos)) 2 (c - pos)) W := fun W => slice67i A n c pos 2 (by have h3 := HC.out; have h4 := HN.out; omega) W
  have hpb : pos + 2 ≤ 140737488355328 := by have h4 := HB.out.1; have h5 := HN.out; omega
  have HNM := Aside0.mk (fun (W : World) (hb : Below w2.heap.size w2 W) => (number115 ((xs.drop pos).take 2) 2 (by rw [List.length_take, List.length_drop]; have := HN.out; omega) (by rw [List.length_take]; omega) (if c = pos then A else A.map (·.add pos)) (c - pos) W (rr_src HA.out.2 (below_step HB2.out hb) (by have := HN.out; omega))).mono fun e w' hh => (⟨hh.1, below_step hb hh.2⟩ : e = .returned (.tuple #[.int .i64 (natB ((xs.drop pos).take 2) : Nat), .bool true]) ∧ Below w2.heap.size w2 w'))
  obtain ⟨A', hA'⟩ : ∃ A', A' = (if c = pos then A else A.map (·.add pos)) := ⟨_, rfl⟩
  obtain ⟨nv, hnv⟩ : ∃ nv, nv = natB ((xs.drop pos).take 2) := ⟨_, rfl⟩
  rw [← hA'] at hsl
  rw [← hA', ← hnv] at HNM
  have HNV := Aside0.mk (show getP 2 r = .ok (nv, r.drop 2) by rw [getP_yes HLT.out, hnv, HR.out.1])
  clear hA' hnv
  refine region_quietC (C := fun W => Below w2.heap.size w2 W) (by kernel_rfl) (by kernel_rfl) ((Below.refl _ w2).drew) ?_
  repeat (first | ((with_reducible refine at_ql 67 (.tmp 14) ?_); refine wpQuiet_loadK 67 (.tmp 14) rfl _ rfl _ (by kernel_rfl) (fun W hb => run_load1 67 Tryz.isAgg67 (K0.out W hb)) ?_; simp only [Act.put, List.setIfInBounds_toArray, List.set_cons_zero, List.set_cons_succ]) | ((with_reducible refine at_ql 3 (.tmp 18) ?_); refine wpQuiet_loadK 3 (.tmp 18) rfl _ rfl _ (by kernel_rfl) (fun W hb => run_load1 3 Tryz.isAgg3 (K1.out W hb)) ?_; simp only [Act.put, List.setIfInBounds_toArray, List.set_cons_zero, List.set_cons_succ]) | ((with_reducible refine at_ql 3 (.tmp 22) ?_); refine wpQuiet_loadK 3 (.tmp 22) rfl _ rfl _ (by kernel_rfl) (fun W hb => run_load1 3 Tryz.isAgg3 (K1.out W hb)) ?_; simp only [Act.put, List.setIfInBounds_toArray, List.set_cons_zero, List.set_cons_succ]) | ((with_reducible refine at_qc 115 ?_); refine wpQuiet_callK Tryz.func115 (by kernel_rfl) rfl #[.slice A' 2 (c - pos)] rfl (by simp only [List.map_toArray, List.map_cons, List.map_nil]; rfl) (.tuple #[.int .i64 nv, .bool true]) (by kernel_rfl) HNM.out ?_; simp only [Act.put, List.setIfInBounds_toArray, List.set_cons_zero, List.set_cons_succ]) | go_big_quiet_step (exact fun _ => rfl))
  refine wpQuiet_nil ?_
  rintro wq hq
  have HWQ := Aside0.mk (below_step HB2.out hq)
  clear hq
  by_cases hm : m < nv
  ·have hmz : (m : Int) < (nv : Int) := by omega
   have HE := Aside0.mk (show octP m r = .error 5 by unfold octP; rw [HNV.out]; exact if_pos hm)
   clear hm
   go_wp2_with fail
   go_ret2
   exact ⟨.inl ⟨5, by decide, HE.out, rfl⟩, HWQ.out.mono HB.out.2.2, KeptT.below HWQ.out⟩
  have hmz : ¬ (m : Int) < (nv : Int) := by omega
  have HOC := Aside0.mk (show octP m r = takeP nv (r.drop 2) by unfold octP; rw [HNV.out]; exact if_neg hm)
  have hlf := Aside0.mk (left78 base br r wq (HRR.out.below HWQ.out))
  have hrb : rl ≤ 140737488355328 := by have h1 := HRL.out; have h2 := HR.out.2; have h3 := HB.out.1; omega
  rw [← HRL.out] at hlf
  clear hm
  by_cases hk : rl - 2 < nv
  ·have hkz : (rl : Int) - 2 < (nv : Int) := by omega
   have HE := Aside0.mk (show octP m r = .error 3 by rw [HOC.out]; exact takeP_no (by rw [List.length_drop]; have := HRL.out; omega))
   clear hk
   go_wp2_with (go_at_call 78; refine hlf.out.mono ?_; rintro e w4 ⟨rfl, hb⟩)
   go_ret2
   exact ⟨.inl ⟨3, by decide, HE.out, rfl⟩, (below_step HWQ.out hb).mono HB.out.2.2, KeptT.below (below_step HWQ.out hb)⟩
  have hkz : ¬ (rl : Int) - 2 < (nv : Int) := by omega
  have HNL := Aside0.mk (show nv ≤ (r.drop 2).length by rw [List.length_drop]; have := HRL.out; omega)
  clear hk
  go_upto_region 8 with (go_at_call 78; refine hlf.out.mono ?_; rintro e w4 ⟨rfl, hb⟩)
  have HB4 := Aside0.mk (below_step HWQ.out hb)
  have c1 : w4.cell? ⟨br, 1, none⟩ = some (.int .i64 pos) := by rw [cell_of_heap (room_at HSH.out HB4.out)]; rfl
  have f1 : w4.frozen? ⟨br, 1, none⟩ = false := frozen_of_heap (room_at HSH.out HB4.out)
  clear hb
  go_upto_region 9 with fail
  obtain ⟨w5, hw5⟩ : ∃ w5, w5 = w4.setCell ⟨br, 1, none⟩ (.int .i64 ((pos : Int) + 2)) := ⟨_, rfl⟩
  have HST := Aside0.mk (show RR w5 base br (r.drop 2) ∧ Below base w w5 ∧ KeptT [162] w w5 by
   have hst := rr_step (s := 2) HA.out.1 HA.out.2 HB.out.1 HB.out.2.1 (by have := HN.out; omega) HB4.out HB.out.2.2
   rw [← HR.out.1] at hst
   rw [hw5, show (pos : Int) + 2 = ((pos + 2 : Nat) : Int) by omega]
   exact hst)
  rw [← hw5]
  have HT := Aside0.mk (take114 base br nv (r.drop 2) w5 HST.out.1)
  clear hw5 c1 f1
  go_wp2_with fail
  refine HT.out.mono ?_
  rintro e w6 ⟨hs, hb, hk⟩
  rcases hs with ⟨hlt, -, -⟩ | ⟨hle, A3, c3, rfl, ho3, hr3⟩
  ·exact absurd HNL.out (by omega)
  have HF := Aside0.mk (And.intro (own_weaken ho3 HST.out.2.1.size) (And.intro hr3 (And.intro (HST.out.2.1.trans hb) (HST.out.2.2.trans hk))))
  have HTL := Aside0.mk (show ((r.drop 2).take nv).length = nv by rw [List.length_take]; omega)
  clear hb hk hle ho3 hr3
  go_wp2_with fail
  go_ret2
  exact ⟨.inr ⟨(r.drop 2).take nv, (r.drop 2).drop nv, A3, c3, by rw [HOC.out, takeP_yes HNL.out], by rw [HTL.out]; rfl, HF.out.1, HF.out.2.1⟩, HF.out.2.2.1, HF.out.2.2.2⟩
end Go.Proofs.YthnpiimiimiijaaGreatDoor.Dir
end
section
namespace Go.Proofs.YthnpiimiimiijaaGreatDoor.Dir
open Go Go.RowKit Go.Proofs Go.Proofs.YthnpiimiimiijaaGreatDoorW.PrintWords Go.Proofs.YthnpiimiimiijaaGreatDoorW.PrintLast Go.Proofs.YthnpiimiimiijaaGreatDoorW.PrintMore
set_option linter.unusedVariables false
set_option linter.unusedSimpArgs false
/-- A state: the error, and what is left. -/
abbrev St2 := Int × List UInt8
def stG (s : Nat) (st : St2) : Nat × St2 :=
 if st.1 ≠ 0 then (0, st) else
 match getP s st.2 with
 | .error c => (0, (c, st.2))
 | .ok (n, r) => (n, (0, r))
def stM (n m : Nat) (st : St2) : Nat × St2 := if st.1 = 0 ∧ m < n then (0, (4, st.2)) else (n, st)
def stK (st : St2) : Key × St2 :=
 if st.1 ≠ 0 then (key0, st) else
 match takeP 32 st.2 with
 | .error c => (key0, (c, st.2))
 | .ok (a, r) => (toKey a, (0, r))
/-- The reader in the block xr. -/
def RSt (w : World) (base xr : Nat) (st : St2) : Prop := ∃ br, w.heap[xr]? = some (.cells #[.pointer (some ⟨br, 0, none⟩), .int .i64 st.1] 119 (0, 0)) ∧ RR w base br st.2 ∧ base ≤ xr
theorem RSt.kept {w w' : World} {base xr : Nat} {st : St2} {ts : List TypeId} (h : RSt w base xr st) (hk : KeptT ts w w') (h1 : 119 ∉ ts) (h2 : 162 ∉ ts) (h3 : 5 ∉ ts) : RSt w' base xr st := by
 obtain ⟨br, ha, hr, hb⟩ := h
 exact ⟨br, hk _ _ _ _ ha h1, hr.kept hk h2 h3, hb⟩
theorem RSt.below {w w' : World} {base xr : Nat} {st : St2} (h : RSt w base xr st) (hb : Below w.heap.size w w') : RSt w' base xr st := h.kept (ts := []) (KeptT.below hb) (by simp) (by simp) (by simp)
theorem RSt.base_le {w : World} {base xr : Nat} {st : St2} (h : RSt w base xr st) : base ≤ w.heap.size := by
 obtain ⟨br, ha, hr, hb⟩ := h
 exact hr.base_le
theorem RSt.cell {w : World} {base xr : Nat} {st : St2} (h : RSt w base xr st) : w.cell? ⟨xr, 1, none⟩ = some (.int .i64 st.1) ∧ w.frozen? ⟨xr, 1, none⟩ = false := by
 obtain ⟨br, ha, hr, hb⟩ := h
 exact ⟨by rw [cell_of_heap ha]; rfl, frozen_of_heap ha⟩
/-- The error is set. -/
theorem RSt.set {w : World} {base xr : Nat} {e : Int} {r : List UInt8} (h : RSt w base xr (e, r)) (v : Int) : RSt (w.setCell ⟨xr, 1, none⟩ (.int .i64 v)) base xr (v, r) ∧ Below base w (w.setCell ⟨xr, 1, none⟩ (.int .i64 v)) ∧ KeptT [119, 162] w (w.setCell ⟨xr, 1, none⟩ (.int .i64 v)) := by
 obtain ⟨br, ha, hr, hb⟩ := h
 have k1 := KeptT.setCell (j := 1) ha (by decide : (119 : Nat) ∈ [119]) (.int .i64 v)
 refine ⟨⟨br, ?_, hr.kept k1 (by decide) (by decide), hb⟩, (Below.refl _ _).setCell hb _, KeptT.setCell ha (by decide) _⟩
 rw [heap_setCell_same w xr 1 _ _ _ ha]
 rfl
theorem KeptT.more {ts us : List TypeId} {w w' : World} (h : KeptT ts w w') (hs : ∀ t, t ∈ ts → t ∈ us) : KeptT us w w' := fun g cs T fr hg ht => h g cs T fr hg (fun e => ht (hs _ e))
/-- What a step answers. -/
def SEnd {α : Type} (w w' : World) (base xr : Nat) (f : α → Value) (x : α × St2) (e : Ending) : Prop := e = .returned (f x.1) ∧ RSt w' base xr x.2 ∧ Below base w w' ∧ KeptT [119, 162] w w'
set_option maxHeartbeats 4000000 in
set_option maxRecDepth 100000 in
theorem get74 (base xr s : Nat) (st : St2) (w : World) (h : RSt w base xr st) (hs1 : 1 ≤ s) (hs7 : s ≤ 7) :
  Calls Tryz.prog 74 #[.pointer (some ⟨xr, 0, none⟩), .int .i64 s] w fun e w' => SEnd w w' base xr (fun n : Nat => .int .i64 (n : Nat)) (stG s st) e := by
 obtain ⟨ev, r⟩ := st
 have c1 : w.cell? ⟨xr, 1, none⟩ = some (.int .i64 ev) := h.cell.1
 have HS := Aside0.mk h
 by_cases h0 : ev = 0
 ·subst h0
  obtain ⟨br, ha, hr, hb⟩ := id h
  have c0 : w.cell? ⟨xr, 0, none⟩ = some (.pointer (some ⟨br, 0, none⟩)) := by rw [cell_of_heap ha]; rfl
  have HG := Aside0.mk (get113 base br s r w hr hs1 hs7)
  have HA := Aside0.mk (And.intro ha hb)
  clear h ha hr hb hs1 hs7
  go_enter Tryz.func74, Tryz.ntmps74
  go_wp2_with fail
  refine HG.out.mono ?_
  rintro e w1 ⟨hs, hb, hk⟩
  have HB := Aside0.mk (And.intro hb hk)
  have ha1 := hk _ _ _ _ HA.out.1 (by decide)
  have d1 : w1.cell? ⟨xr, 1, none⟩ = some (.int .i64 0) := by rw [cell_of_heap ha1]; rfl
  have f1 : w1.frozen? ⟨xr, 1, none⟩ = false := frozen_of_heap ha1
  clear hb hk c0 c1
  rcases hs with ⟨hlt, rfl, hr1⟩ | ⟨hle, rfl, hr1⟩
  ·have HE := Aside0.mk (show stG s (0, r) = (0, (3, r)) by simp [stG, getP_no hlt])
   have HF := Aside0.mk ((show RSt w1 base xr (0, r) from ⟨br, ha1, hr1, HA.out.2⟩).set 3)
   clear hlt hr1 ha1
   go_wp2_with fail
   go_ret
   rw [HE.out]
   exact ⟨rfl, HF.out.1, HB.out.1.trans HF.out.2.1, (HB.out.2.more (by simp)).trans HF.out.2.2⟩
  ·have HE := Aside0.mk (show stG s (0, r) = (natB (r.take s), (0, r.drop s)) by simp [stG, getP_yes hle])
   have HF := Aside0.mk ((show RSt w1 base xr (0, r.drop s) from ⟨br, ha1, hr1, HA.out.2⟩).set 0)
   clear hle hr1 ha1
   go_wp2_with fail
   go_ret
   rw [HE.out]
   exact ⟨rfl, HF.out.1, HB.out.1.trans HF.out.2.1, (HB.out.2.more (by simp)).trans HF.out.2.2⟩
 ·have hne : (ev != 0) = true := by simpa using h0
  have HE := Aside0.mk (show stG s (ev, r) = (0, (ev, r)) by simp [stG, h0])
  clear h h0 hs1 hs7
  go_enter Tryz.func74, Tryz.ntmps74
  go_wp2_with fail
  go_ret
  rw [HE.out]
  exact ⟨rfl, HS.out, Below.refl _ _, KeptT.refl _ _⟩
set_option maxHeartbeats 4000000 in
set_option maxRecDepth 100000 in
theorem most75 (base xr n m : Nat) (st : St2) (w : World) (h : RSt w base xr st) :
  Calls Tryz.prog 75 #[.pointer (some ⟨xr, 0, none⟩), .int .i64 n, .int .i64 m] w fun e w' => SEnd w w' base xr (fun n : Nat => .int .i64 (n : Nat)) (stM n m st) e := by
 obtain ⟨ev, r⟩ := st
 have c1 : w.cell? ⟨xr, 1, none⟩ = some (.int .i64 ev) := h.cell.1
 have f1 := h.cell.2
 have HS := Aside0.mk h
 by_cases h0 : ev = 0
 ·subst h0
  by_cases hm : m < n
  ·have hmz : decide ((m : Int) < (n : Int)) = true := decide_eq_true (by omega)
   have HE := Aside0.mk (show stM n m (0, r) = (0, (4, r)) by simp [stM, hm])
   have HF := Aside0.mk (h.set 4)
   clear h
   go_enter Tryz.func75, Tryz.ntmps75
   go_wp2_with fail
   go_ret
   rw [HE.out]
   exact ⟨rfl, HF.out⟩
  ·have hmz : decide ((m : Int) < (n : Int)) = false := decide_eq_false (by omega)
   have HE := Aside0.mk (show stM n m (0, r) = (n, (0, r)) by simp [stM, hm])
   clear h
   go_enter Tryz.func75, Tryz.ntmps75
   go_wp2_with fail
   go_ret
   rw [HE.out]
   exact ⟨rfl, HS.out, Below.refl _ _, KeptT.refl _ _⟩
 ·have hne : (ev == 0) = false := by simpa using h0
  have HE := Aside0.mk (show stM n m (ev, r) = (n, (ev, r)) by simp [stM, h0])
  clear h h0
  go_enter Tryz.func75, Tryz.ntmps75
  go_wp2_with fail
  go_ret
  rw [HE.out]
  exact ⟨rfl, HS.out, Below.refl _ _, KeptT.refl _ _⟩
def arrV (l : List UInt8) (kk : Nat) : List Value := (l.take kk).map byteV ++ List.replicate (32 - kk) (.int .u8 0)
theorem arrV_get (l : List UInt8) {kk : Nat} (h : kk < l.length) (h2 : kk < 32) : (arrV l kk)[kk]? = some (.int .u8 0) := by
 unfold arrV
 rw [List.getElem?_append_right (by simp; omega), List.getElem?_replicate]
 simp
 omega
theorem arrV_set {l : List UInt8} {kk : Nat} {b : UInt8} (hb : l[kk]? = some b) (h2 : kk < 32) : (arrV l kk).toArray.setIfInBounds kk (.int .u8 (b.toNat : Int)) = (arrV l (kk + 1)).toArray := by
 have hl := (List.getElem?_eq_some_iff.1 hb).1
 unfold arrV
 rw [List.setIfInBounds_toArray, List.set_append_right _ _ (by rw [List.length_map, List.length_take]; omega), List.take_add_one, hb]
 congr 1
 have e : 32 - kk = (32 - (kk + 1)) + 1 := by omega
 rw [e, List.replicate_succ, show kk - ((l.take kk).map byteV).length = 0 by rw [List.length_map, List.length_take]; omega]
 simp [byteV]
theorem toKey_arr {l : List UInt8} (h : l.length ≤ 32) : encK (toKey l) = arrV l l.length := by
 unfold encK toKey arrV
 show ((l ++ List.replicate 32 0).take 32).map byteV = _
 rw [List.take_append, List.take_of_length_le h, List.take_length, List.take_replicate, Nat.min_eq_left (by omega), List.map_append, List.map_replicate]
 rfl
theorem toKey_nil : toKey [] = key0 := rfl
set_option maxHeartbeats 8000000 in
set_option maxRecDepth 100000 in
theorem key76 (base xr : Nat) (st : St2) (w : World) (h : RSt w base xr st) :
  Calls Tryz.prog 76 #[.pointer (some ⟨xr, 0, none⟩)] w fun e w' => SEnd w w' base xr keyV (stK st) e := by
 obtain ⟨ev, r⟩ := st
 obtain ⟨p, hp⟩ : ∃ p, p = w.heap.size := ⟨_, rfl⟩
 obtain ⟨W1, hW1⟩ : ∃ W1, W1 = (w.alloc (.cells zeroKey 34)).alloc (.cells zeroKey 34) := ⟨_, rfl⟩
 have hb1 : Below w.heap.size w W1 := by rw [hW1]; exact ((Below.refl _ w).alloc (Nat.le_refl _) _).alloc (by simp) _
 have q0 : W1.heap[p]? = some (.cells (encK key0).toArray 34 (0, 0)) := by rw [hW1, hp, zeroKey_eq, Below.heap_alloc _ _ _ (by simp)]; exact heap_alloc_new w _
 have q1 : W1.heap[p + 1]? = some (.cells (encK key0).toArray 34 (0, 0)) := by rw [hW1, hp, zeroKey_eq]; have := heap_alloc_new (w.alloc (.cells zeroKey 34)) (.cells zeroKey 34); rw [World.size_alloc] at this; exact this
 have hsz : (w.alloc (.cells zeroKey 34)).heap.size = p + 1 := by rw [hp]; simp
 have h1 := h.below hb1
 have HB1 := Aside0.mk (And.intro (hb1.mono h.base_le) (And.intro hp h.base_le))
 have HK1 := Aside0.mk (KeptT.below (ts := [119, 162]) hb1)
 have HS := Aside0.mk h1
 have HQ := Aside0.mk (And.intro q0 q1)
 have c1 : W1.cell? ⟨xr, 1, none⟩ = some (.int .i64 ev) := h1.cell.1
 have LK := Aside0.mk (fun (W : World) (k : Key) (hW : W.heap[p + 1]? = some (.cells (encK k).toArray 34 (0, 0))) => run_loadAtK Tryz.prog W 34 32 Tryz.isAgg34 Tryz.sizeOf34 (p + 1) 0 (encK k) (encK_len k) (cells_of_heap hW))
 have ST := Aside0.mk (fun (W : World) (k : Key) (hW : W.heap[p]? = some (.cells (encK key0).toArray 34 (0, 0))) => store_full W 34 32 p Tryz.sizeOf34 (encK key0) (encK k) hW (encK_len _) (encK_len _) (encK_one _))
 have HEND := Aside0.mk (show ∀ (W : World) (k : Key) (st2 : St2), W.heap[p]? = some (.cells (encK key0).toArray 34 (0, 0)) → RSt W base xr st2 → Below base w W → KeptT [119, 162] w W → RSt (W.setRow p (encK k).toArray) base xr st2 ∧ Below base w (W.setRow p (encK k).toArray) ∧ KeptT [119, 162] w (W.setRow p (encK k).toArray) from fun W k st2 hq hr hb hk =>
  ⟨hr.kept (KeptT.setRow hq (by decide : (34 : Nat) ∈ [34]) _) (by decide) (by decide) (by decide), below_setRow hb (by have := HB1.out.2.1; have := HB1.out.2.2; omega) _, hk.newRow (by have := HB1.out.2.1; omega) hb.size _⟩)
 by_cases h0 : ev = 0
 ·subst h0
  obtain ⟨br, ha, hr, hb⟩ := id h1
  have c0 : W1.cell? ⟨xr, 0, none⟩ = some (.pointer (some ⟨br, 0, none⟩)) := by rw [cell_of_heap ha]; rfl
  have HG : Aside0 (Calls Tryz.prog 114 #[.pointer (some ⟨br, 0, none⟩), .int .i64 32] W1 fun e w' => RTakeEnd W1 w' base br 32 r e) := ⟨take114 base br 32 r W1 hr⟩
  have HA := Aside0.mk (And.intro ha hb)
  clear h h1 ha hr hb hb1 q0 q1
  go_enter Tryz.func76, Tryz.ntmps76
  go_upto_region 2 with fail
  change Code.wp _ _ _ _ ((w.alloc (.cells zeroKey 34)).alloc (.cells zeroKey 34))
  rw [← hW1]
  try rw [hsz]
  rw [← hp]
  clear hW1 hsz hp
  go_wp2_with fail
  refine HG.out.mono ?_
  rintro e w1 ⟨hs, hb, hk⟩
  have hex : ∃ (l : List UInt8) (A : Option Addr) (c : Nat) (cd : Int) (r' : List UInt8), e = .returned (.tuple #[.slice A l.length c, .int .i64 cd]) ∧ (∀ W, KeptT [34, 119] w1 W → SrcAt W A l.length 1 (l.map byteV)) ∧ l.length ≤ 32 ∧ RR w1 base br r' ∧ stK (0, r) = (toKey l, (cd, r')) := by
   rcases hs with ⟨hlt, rfl, hr1⟩ | ⟨hle, A, c, rfl, ho, hr1⟩
   ·exact ⟨[], none, 0, 3, r, rfl, fun _ _ => src_none, by simp, hr1, by simp [stK, takeP_no hlt, toKey_nil]⟩
   ·have hl : (r.take 32).length = 32 := by rw [List.length_take]; omega
    refine ⟨r.take 32, A, c, 0, r.drop 32, by rw [hl], ?_, by omega, hr1, by simp [stK, takeP_yes hle]⟩
    intro W hW
    exact OwnB.src (own_keptT ho hW (by decide))
  obtain ⟨l, A, c, cd, r', rfl, hsrc, hl32, hr1, hst⟩ := hex
  have ha1 := hk _ _ _ _ HA.out.1 (by decide)
  have d1 : w1.cell? ⟨xr, 1, none⟩ = some (.int .i64 0) := by rw [cell_of_heap ha1]; rfl
  have f1 : w1.frozen? ⟨xr, 1, none⟩ = false := frozen_of_heap ha1
  have hset := (show RSt w1 base xr (0, r') from ⟨br, ha1, hr1, HA.out.2⟩).set cd
  obtain ⟨W2, hW2⟩ : ∃ W2, W2 = w1.setCell ⟨xr, 1, none⟩ (.int .i64 cd) := ⟨_, rfl⟩
  have k2 : KeptT [119] w1 W2 := by rw [hW2]; exact KeptT.setCell ha1 (by decide) _
  have HR2 := Aside0.mk (show RSt W2 base xr (cd, r') ∧ Below base w W2 ∧ KeptT [119, 162] w W2 by
   rw [hW2]
   exact ⟨hset.1, (HB1.out.1.trans hb).trans hset.2.1, (HK1.out.trans (hk.more (by simp))).trans hset.2.2⟩)
  have HQ2 := Aside0.mk (show W2.heap[p]? = some (.cells (encK key0).toArray 34 (0, 0)) ∧ W2.heap[p + 1]? = some (.cells (arrV l 0).toArray 34 (0, 0)) from ⟨k2 _ _ _ _ (hk _ _ _ _ HQ.out.1 (by decide)) (by decide), by
   have := k2 _ _ _ _ (hk _ _ _ _ HQ.out.2 (by decide)) (by decide)
   rw [this]
   rfl⟩)
  have HSRC := Aside0.mk (show ∀ W, KeptT [34] W2 W → SrcAt W A l.length 1 (l.map byteV) from fun W hW => hsrc W ((k2.more (by simp)).trans (hW.more (by simp))))
  have HST := Aside0.mk hst
  have HPB := Aside0.mk (show base ≤ p + 1 ∧ w.heap.size ≤ p + 1 by have := HB1.out.2.1; have := HB1.out.2.2; omega)
  clear hb hk hs hsrc hr1 hst ha1 hset k2 c0 c1
  go_upto_region 6 with fail
  rw [← hW2]
  clear hW2 d1 f1
  go_upto_region 7 with fail
  go_loopg [6] l.length (fun kx s6 wr => ∃ kk : Nat, s6 = .int .i64 kk ∧ kk + kx = l.length ∧ Aside0 (KeptT [34] W2 wr ∧ Below base w wr ∧ KeptT [119, 162] w wr ∧ wr.heap[p]? = some (.cells (encK key0).toArray 34 (0, 0)) ∧ wr.heap[p + 1]? = some (.cells (arrV l kk).toArray 34 (0, 0))))
  case atStart => exact ⟨0, rfl, by omega, ⟨KeptT.refl _ _, HR2.out.2.1, HR2.out.2.2, HQ2.out.1, HQ2.out.2⟩⟩
  case round =>
   obtain ⟨kk, rfl, hkk, HT⟩ := hrel
   by_cases hlt : kk < l.length
   ·have hltz : (kk : Int) < (l.length : Int) := by omega
    have h32z : (kk : Int) < 32 := by omega
    have h32 : kk < 32 := by omega
    obtain ⟨b, hb⟩ : ∃ b, l[kk]? = some b := ⟨_, List.getElem?_eq_getElem hlt⟩
    obtain ⟨g, o, hA, e1⟩ := src_byte (HSRC.out wr HT.out.1) (Below.refl _ _) hb
    subst hA
    unfold byteV at e1
    have e2 : wr.cell? ⟨p + 1, kk, none⟩ = some (.int .u8 0) := by rw [cell_of_heap HT.out.2.2.2.2]; exact arrV_get l hlt h32
    have f2 : wr.frozen? ⟨p + 1, kk, none⟩ = false := frozen_of_heap HT.out.2.2.2.2
    have HSET := Aside0.mk (arrV_set hb h32)
    have HKK := Aside0.mk hkk
    obtain ⟨x, hx⟩ : ∃ x : Int, x = (b.toNat : Int) := ⟨_, rfl⟩
    rw [← hx] at e1 HSET
    obtain ⟨ko, rfl⟩ : ∃ ko, gk = ko + 1 := ⟨gk - 1, by omega⟩
    clear hb hx hkk
    go_wp2_with fail
    go_roundg ko
    case measure => have := HKK.out; omega
    case rel =>
     refine ⟨kk + 1, by go_num, by have := HKK.out; omega, ⟨HT.out.1.trans (KeptT.setCell HT.out.2.2.2.2 (by decide) _), HT.out.2.1.setCell HPB.out.1 _, HT.out.2.2.1.new HPB.out.2 _ _, (Below.heap_setCell _ _ _ _ (by simp)).trans HT.out.2.2.2.1, ?_⟩⟩
     rw [heap_setCell_same wr (p + 1) kk _ _ _ HT.out.2.2.2.2, HSET.out]
   ·have hltz : ¬ (kk : Int) < (l.length : Int) := by omega
    have hk : kk = l.length := by omega
    have hq1 : wr.heap[p + 1]? = some (.cells (encK (toKey l)).toArray 34 (0, 0)) := by rw [toKey_arr hl32, ← hk]; exact HT.out.2.2.2.2
    have L0 := Aside0.mk (LK.out wr (toKey l) hq1)
    have S0 := Aside0.mk (ST.out wr (toKey l) HT.out.2.2.2.1)
    have HQ3 := Aside0.mk (setRow_heap wr p _ (encK (toKey l)).toArray 34 (0, 0) HT.out.2.2.2.1)
    have HF := Aside0.mk (HEND.out wr (toKey l) (cd, r') HT.out.2.2.2.1 (HR2.out.1.kept HT.out.1 (by decide) (by decide) (by decide)) HT.out.2.1 HT.out.2.2.1)
    obtain ⟨KA, hKA⟩ : ∃ KA, KA = (encK (toKey l)).toArray := ⟨_, rfl⟩
    have HKA := Aside0.mk hKA
    rw [← hKA] at L0 S0 HQ3 HF
    clear hlt hkk hk hq1 hKA
    go_wp2_with (first | ((with_reducible refine at_load 34 (.tmp 3) ?_); refine wpList_loadK rfl 34 (.tmp 3) rfl _ rfl _ L0.out ?_) | ((with_reducible refine at_store 34 (.tmp 2) (.tmp 37) ?_); refine wpList_storeK rfl 34 (.tmp 2) (.tmp 37) rfl rfl _ _ rfl rfl _ S0.out ?_))
    try simp only [Exit.inBlock, Exit.then]
    refine bodyPost_ret (results_cell_row rfl _ _ p 34 _ (0, 0) _ rfl HQ3.out Tryz.underlying34 rfl (by rw [HKA.out, size34']; simp [encK_len])) rfl ?_
    rw [HST.out]
    exact ⟨by unfold keyV; rw [HKA.out], HF.out⟩
 ·have hne : (ev != 0) = true := by simpa using h0
  have HE := Aside0.mk (show stK (ev, r) = (key0, (ev, r)) by simp [stK, h0])
  have L0 := Aside0.mk (LK.out W1 key0 q1)
  have S0 := Aside0.mk (ST.out W1 key0 q0)
  have HQ3 := Aside0.mk (setRow_heap W1 p _ (encK key0).toArray 34 (0, 0) q0)
  have HF := Aside0.mk (HEND.out W1 key0 (ev, r) q0 HS.out HB1.out.1 HK1.out)
  obtain ⟨KA, hKA⟩ : ∃ KA, KA = (encK key0).toArray := ⟨_, rfl⟩
  have HKA := Aside0.mk hKA
  rw [← hKA] at L0 S0 HQ3 HF
  clear h h1 hb1 q0 q1 h0 hKA
  go_enter Tryz.func76, Tryz.ntmps76
  go_upto_region 2 with fail
  change Code.wp _ _ _ _ ((w.alloc (.cells zeroKey 34)).alloc (.cells zeroKey 34))
  rw [← hW1]
  try rw [hsz]
  rw [← hp]
  clear hW1 hsz hp
  go_wp2_with (first | ((with_reducible refine at_load 34 (.tmp 3) ?_); refine wpList_loadK rfl 34 (.tmp 3) rfl _ rfl _ L0.out ?_) | ((with_reducible refine at_store 34 (.tmp 2) (.tmp 12) ?_); refine wpList_storeK rfl 34 (.tmp 2) (.tmp 12) rfl rfl _ _ rfl rfl _ S0.out ?_))
  try simp only [Exit.inBlock, Exit.then]
  refine bodyPost_ret (results_cell_row rfl _ _ p 34 _ (0, 0) _ rfl HQ3.out Tryz.underlying34 rfl (by rw [HKA.out, size34']; simp [encK_len])) rfl ?_
  rw [HE.out]
  exact ⟨by unfold keyV; rw [HKA.out], HF.out⟩
end Go.Proofs.YthnpiimiimiijaaGreatDoor.Dir
end
section
namespace Go.Proofs.YthnpiimiimiijaaGreatDoor.Dir
open Go Go.RowKit Go.Proofs Go.Proofs.YthnpiimiimiijaaGreatDoorW.PrintWords Go.Proofs.YthnpiimiimiijaaGreatDoorW.PrintLast Go.Proofs.YthnpiimiimiijaaGreatDoorW.PrintMore
set_option linter.unusedVariables false
set_option linter.unusedSimpArgs false
def stDev (st : St2) : Dev × St2 :=
 let a := stG 1 st
 let b := stK a.2
 let c := stG 7 b.2
 let d := stG 1 c.2
 let e := stM d.1 1 d.2
 (⟨(a.1 : Int), b.1, (c.1 : Int), decide (e.1 = 1)⟩, e.2)
def stMany {α : Type} (f : St2 → α × St2) : Nat → St2 → List α × St2
 | 0, st => ([], st)
 | n + 1, st => if st.1 ≠ 0 then ([], st) else ((f st).1 :: (stMany f n (f st).2).1, (stMany f n (f st).2).2)
/-- An answer and a state that fit. -/
def Fits {α : Type} (x : Except Int (α × List UInt8)) (y : α × St2) : Prop :=
 match x with
 | .error c => c ≠ 0 ∧ y.2.1 = c
 | .ok (a, r) => y = (a, (0, r))
theorem stG_bad {s : Nat} {st : St2} (h : st.1 ≠ 0) : stG s st = (0, st) := if_pos h
theorem stK_bad {st : St2} (h : st.1 ≠ 0) : stK st = (key0, st) := if_pos h
theorem stM_bad {n m : Nat} {st : St2} (h : st.1 ≠ 0) : stM n m st = (n, st) := if_neg (fun e => h e.1)
theorem stMany_bad {α : Type} {f : St2 → α × St2} {n : Nat} {st : St2} (h : st.1 ≠ 0) : stMany f n st = ([], st) := by
 cases n with
 | zero => rfl
 | succ n => exact if_pos h
theorem fit_take (s : Nat) (l : List UInt8) {c : Int} (h : takeP s l = .error c) : c ≠ 0 := by
 unfold takeP at h
 split at h
 ·cases h; decide
 ·cases h
theorem fit_G (s : Nat) (l : List UInt8) : Fits (getP s l) (stG s (0, l)) := by
 unfold stG getP
 rw [if_neg (by simp)]
 cases h : takeP s l with
 | error c => simp only; exact ⟨fit_take s l h, rfl⟩
 | ok p => obtain ⟨a, r⟩ := p; rfl
theorem fit_K (l : List UInt8) : Fits (keyP l) (stK (0, l)) := by
 unfold stK keyP
 rw [if_neg (by simp)]
 cases h : takeP 32 l with
 | error c => exact ⟨fit_take 32 l h, rfl⟩
 | ok p => obtain ⟨a, r⟩ := p; rfl
theorem fit_M (m : Nat) (l : List UInt8) : Fits (mostP m l) (stM (stG 1 (0, l)).1 m (stG 1 (0, l)).2) := by
 have h := fit_G 1 l
 unfold mostP
 cases hg : getP 1 l with
 | error c =>
  rw [hg] at h
  have h2 : (stG 1 (0, l)).2.1 ≠ 0 := by rw [h.2]; exact h.1
  rw [stM_bad h2]
  exact h
 | ok p =>
  obtain ⟨n, r⟩ := p
  rw [hg] at h
  have e : stG 1 (0, l) = (n, (0, r)) := h
  rw [e]
  show Fits (if m < n then .error 4 else .ok (n, r)) (stM n m (0, r))
  unfold stM
  by_cases hm : m < n
  ·rw [if_pos hm, if_pos ⟨rfl, hm⟩]; exact ⟨by decide, rfl⟩
  ·rw [if_neg hm, if_neg (fun e => hm e.2)]; rfl
theorem fit_dev (l : List UInt8) : Fits (devP l) (stDev (0, l)) := by
 unfold devP stDev
 have h1 := fit_G 1 l
 cases g1 : getP 1 l with
 | error c =>
  rw [g1] at h1
  have b : (stG 1 (0, l)).2.1 ≠ 0 := by rw [h1.2]; exact h1.1
  simp only
  rw [stK_bad b]; simp only
  rw [stG_bad b]; simp only
  rw [stG_bad b]; simp only
  rw [stM_bad b]
  exact ⟨h1.1, h1.2⟩
 | ok p1 =>
  obtain ⟨n, r1⟩ := p1
  rw [g1] at h1
  have e1 : stG 1 (0, l) = (n, (0, r1)) := h1
  rw [e1]
  simp only
  have h2 := fit_K r1
  cases g2 : keyP r1 with
  | error c =>
   rw [g2] at h2
   have b : (stK (0, r1)).2.1 ≠ 0 := by rw [h2.2]; exact h2.1
   simp only
   rw [stG_bad b]; simp only
   rw [stG_bad b]; simp only
   rw [stM_bad b]
   exact ⟨h2.1, h2.2⟩
  | ok p2 =>
   obtain ⟨k, r2⟩ := p2
   rw [g2] at h2
   have e2 : stK (0, r1) = (k, (0, r2)) := h2
   rw [e2]
   simp only
   have h3 := fit_G 7 r2
   cases g3 : getP 7 r2 with
   | error c =>
    rw [g3] at h3
    have b : (stG 7 (0, r2)).2.1 ≠ 0 := by rw [h3.2]; exact h3.1
    simp only
    rw [stG_bad b]; simp only
    rw [stM_bad b]
    exact ⟨h3.1, h3.2⟩
   | ok p3 =>
    obtain ⟨e, r3⟩ := p3
    rw [g3] at h3
    have e3 : stG 7 (0, r2) = (e, (0, r3)) := h3
    rw [e3]
    simp only
    have h4 := fit_M 1 r3
    cases g4 : mostP 1 r3 with
    | error c => rw [g4] at h4; exact h4
    | ok p4 =>
     obtain ⟨v, r4⟩ := p4
     rw [g4] at h4
     have e4 : stM (stG 1 (0, r3)).1 1 (stG 1 (0, r3)).2 = (v, (0, r4)) := h4
     rw [e4]
     rfl
theorem fit_many {α : Type} {p : List UInt8 → Except Int (α × List UInt8)} {f : St2 → α × St2} (hf : ∀ l, Fits (p l) (f (0, l))) : ∀ (n : Nat) (l : List UInt8), Fits (manyP p n l) (stMany f n (0, l))
 | 0, l => rfl
 | n + 1, l => by
  have h1 := hf l
  show Fits (match p l with | .error c => .error c | .ok (d, r) => match manyP p n r with | .error c => .error c | .ok (ds, r') => .ok (d :: ds, r')) (if (0 : Int) ≠ 0 then ([], (0, l)) else ((f (0, l)).1 :: (stMany f n (f (0, l)).2).1, (stMany f n (f (0, l)).2).2))
  rw [if_neg (by simp)]
  cases g1 : p l with
  | error c =>
   rw [g1] at h1
   have b : (f (0, l)).2.1 ≠ 0 := by rw [h1.2]; exact h1.1
   rw [stMany_bad b]
   exact ⟨h1.1, h1.2⟩
  | ok p1 =>
   obtain ⟨d, r⟩ := p1
   rw [g1] at h1
   have e1 : f (0, l) = (d, (0, r)) := h1
   rw [e1]
   simp only
   have h2 := fit_many hf n r
   cases g2 : manyP p n r with
   | error c => rw [g2] at h2; exact ⟨h2.1, h2.2⟩
   | ok p2 =>
    obtain ⟨ds, r'⟩ := p2
    rw [g2] at h2
    have e2 : stMany f n (0, r) = (ds, (0, r')) := h2
    rw [e2]
    rfl
/-- What the document reads, up to the text. -/
structure StB where
 v : Nat
 k : Nat
 n : Nat
 ds : List Dev
 m : Nat
 ks : List Key
 st : St2
def stBook (l : List UInt8) : StB :=
 let a1 := stG 7 (0, l)
 let a2 := stG 7 a1.2
 let a3 := stG 1 a2.2
 let a4 := stM a3.1 8 a3.2
 let a5 := stMany stDev a4.1 a4.2
 let a6 := stG 1 a5.2
 let a7 := stM a6.1 64 a6.2
 let a8 := stMany stK a7.1 a7.2
 ⟨a1.1, a2.1, a4.1, a5.1, a7.1, a8.1, a8.2⟩
theorem st_raw (l : List UInt8) : rawP l = if (stBook l).st.1 ≠ 0 then .error (stBook l).st.1 else
  match octP 1024 (stBook l).st.2 with
  | .error c => .error c
  | .ok (t, r) => .ok (⟨((stBook l).v : Int), ((stBook l).k : Int), (stBook l).ds, (stBook l).ks, t⟩, r) := by
 unfold rawP stBook
 have h1 := fit_G 7 l
 cases g1 : getP 7 l with
 | error c =>
  rw [g1] at h1
  have b : (stG 7 (0, l)).2.1 ≠ 0 := by rw [h1.2]; exact h1.1
  simp only
  try simp only [stG_bad b, stM_bad b, stMany_bad b]
  rw [if_pos b, h1.2]
 | ok p1 =>
  obtain ⟨vn, r1⟩ := p1
  rw [g1] at h1
  have e1 : stG 7 (0, l) = (vn, (0, r1)) := h1
  simp only [e1]
  have h2 := fit_G 7 r1
  cases g2 : getP 7 r1 with
  | error c =>
   rw [g2] at h2
   have b : (stG 7 (0, r1)).2.1 ≠ 0 := by rw [h2.2]; exact h2.1
   simp only
   try simp only [stG_bad b, stM_bad b, stMany_bad b]
   rw [if_pos b, h2.2]
  | ok p2 =>
   obtain ⟨cn, r2⟩ := p2
   rw [g2] at h2
   have e2 : stG 7 (0, r1) = (cn, (0, r2)) := h2
   simp only [e2]
   have h3 := fit_M 8 r2
   cases g3 : mostP 8 r2 with
   | error c =>
    rw [g3] at h3
    have b : (stM (stG 1 (0, r2)).1 8 (stG 1 (0, r2)).2).2.1 ≠ 0 := by rw [h3.2]; exact h3.1
    simp only
    try simp only [stG_bad b, stM_bad b, stMany_bad b]
    rw [if_pos b, h3.2]
   | ok p3 =>
    obtain ⟨n, r3⟩ := p3
    rw [g3] at h3
    have e3 : stM (stG 1 (0, r2)).1 8 (stG 1 (0, r2)).2 = (n, (0, r3)) := h3
    simp only [e3]
    have h4 := fit_many fit_dev n r3
    cases g4 : manyP devP n r3 with
    | error c =>
     rw [g4] at h4
     have b : (stMany stDev n (0, r3)).2.1 ≠ 0 := by rw [h4.2]; exact h4.1
     simp only
     try simp only [stG_bad b, stM_bad b, stMany_bad b]
     rw [if_pos b, h4.2]
    | ok p4 =>
     obtain ⟨ds, r4⟩ := p4
     rw [g4] at h4
     have e4 : stMany stDev n (0, r3) = (ds, (0, r4)) := h4
     simp only [e4]
     have h5 := fit_M 64 r4
     cases g5 : mostP 64 r4 with
     | error c =>
      rw [g5] at h5
      have b : (stM (stG 1 (0, r4)).1 64 (stG 1 (0, r4)).2).2.1 ≠ 0 := by rw [h5.2]; exact h5.1
      simp only
      try simp only [stG_bad b, stM_bad b, stMany_bad b]
      rw [if_pos b, h5.2]
     | ok p5 =>
      obtain ⟨m, r5⟩ := p5
      rw [g5] at h5
      have e5 : stM (stG 1 (0, r4)).1 64 (stG 1 (0, r4)).2 = (m, (0, r5)) := h5
      simp only [e5]
      have h6 := fit_many fit_K m r5
      cases g6 : manyP keyP m r5 with
      | error c =>
       rw [g6] at h6
       have b : (stMany stK m (0, r5)).2.1 ≠ 0 := by rw [h6.2]; exact h6.1
       simp only
       try simp only [stG_bad b, stM_bad b, stMany_bad b]
       rw [if_pos b, h6.2]
      | ok p6 =>
       obtain ⟨ks, r6⟩ := p6
       rw [g6] at h6
       have e6 : stMany stK m (0, r5) = (ks, (0, r6)) := h6
       simp only [e6]
       rw [if_neg (by simp)]
       first | rfl | (cases octP 1024 r6 <;> rfl)
end Go.Proofs.YthnpiimiimiijaaGreatDoor.Dir
end
