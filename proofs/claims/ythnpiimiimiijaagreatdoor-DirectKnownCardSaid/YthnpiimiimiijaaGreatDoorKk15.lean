/- The document's Same, at two books that read alike. Arrays of thirty cells beside a directory; which keys the asks name. direct.Load; two directories side by side. The document's directory, word by word: what its functions read and write. The document's directory: number, Less, find, keys, free. The document's directory: fresh, spend, put. The document's directory: spend, put. The document's direct -/
import Derived.Test.YthnpiimiimiijaaGreatDoorKk14
import Derived.Test.YthnpiimiimiijaaGreatDoorKk10
import Derived.Lib.MapLaws
import Derived.Lib.IndexMore
import Derived.Lib.AtoiAllCases
import Derived.Lib.ItoaMem
section
namespace Go.Proofs.YthnpiimiimiijaaGreatDoor.Dir
open Go Go.RowKit Go.Proofs Go.Proofs.YthnpiimiimiijaaGreatDoorW.PrintWords Go.Proofs.YthnpiimiimiijaaGreatDoorW.PrintLast Go.Proofs.YthnpiimiimiijaaGreatDoorW.PrintMore
set_option linter.unusedVariables false
set_option linter.unusedSimpArgs false
theorem partD_node (d : Dev) (w : World) : (part 3 (encD d).toArray 0).run Tryz.prog w = .ok (.int .i64 d.node) w := by
 simp [part, Tryz.isAgg3, encD]
theorem partD_key (d : Dev) (w : World) : (part 34 (encD d).toArray 1).run Tryz.prog w = .ok (.agg (encK d.key).toArray) w := by
 have e : List.take 32 (encD d).tail = encK d.key := by
  show ((encK d.key ++ [Value.int .i64 d.exp, Value.bool d.rev]).take 32) = _
  rw [List.take_append_of_le_length (by rw [encK_len]; exact Nat.le_refl _), List.take_of_length_le (by rw [encK_len]; exact Nat.le_refl _)]
 simp [part, Tryz.isAgg34, Tryz.sizeOf34, e]
theorem partD_exp (d : Dev) (w : World) : (part 3 (encD d).toArray 33).run Tryz.prog w = .ok (.int .i64 d.exp) w := by
 simp [part, Tryz.isAgg3, encD, encK_len]
theorem partD_rev (d : Dev) (w : World) : (part 4 (encD d).toArray 34).run Tryz.prog w = .ok (.bool d.rev) w := by
 simp [part, Tryz.isAgg4, encD, encK_len]
theorem neqD_same (d : Dev) (w : World) : (binOp .neq 46 (.agg (encD d).toArray) (.agg (encD d).toArray)).run Tryz.prog w = .ok (.bool false) w := by
 have hS : Tryz.prog.underlying 46 = some (.struct (Tryz.prog.fieldsOf 46)) := by kernel_rfl
 have hp : Tryz.prog.stoodInHeld 46 = false := by kernel_rfl
 have hf : Tryz.prog.fieldsOf 46 = #[{ name := "Node", type := 3, offset := 0, embedded := false, tag := "", pkgPath := "", byteOffset := 0 },
    { name := "Key", type := 34, offset := 1, embedded := false, tag := "", pkgPath := "", byteOffset := 8 },
    { name := "Expiry", type := 3, offset := 33, embedded := false, tag := "", pkgPath := "", byteOffset := 40 },
    { name := "Revoked", type := 4, offset := 34, embedded := false, tag := "", pkgPath := "", byteOffset := 48 }] := by kernel_rfl
 rw [run_neq_struct, show (10000 : Nat) = 9999 + 1 from rfl, run_equalIn_agg w 9999 46 _ _ hS hp, hf]
 have h3 : ∀ a w, (Op.equalIn 9999 3 (.int .i64 a) (.int .i64 a)).run Tryz.prog w = .ok true w := fun a w => by
  rw [show (9999 : Nat) = 9998 + 1 from rfl, run_equalIn_int w 9998 3 .i64 .i64 a a Tryz.underlying3]; simp
 have h4 : ∀ a w, (Op.equalIn 9999 4 (.bool a) (.bool a)).run Tryz.prog w = .ok true w := fun a w => by
  rw [show (9999 : Nat) = 9998 + 1 from rfl, run_equalIn_bool' w 9998 4 a a Tryz.underlying4]; simp
 have hk : ∀ a w, (Op.equalIn 9999 34 (.agg (encK a).toArray) (.agg (encK a).toArray)).run Tryz.prog w = .ok true w := fun a w => by
  rw [show (9999 : Nat) = 9997 + 2 from rfl, equalIn_key]; simp
 simp [Op.eqFields, partD_node, partD_key, partD_exp, partD_rev, h3, h4, hk]
theorem guardD (op : BinOp) (a b : Operand) (x y : Dev) (w : World) : (eqGuard op 46 a b (.agg (encD x).toArray) (.agg (encD y).toArray)).run Tryz.prog w = .ok () w := run_eqGuard_agg w op 46 a b _ _ (by kernel_rfl)
theorem src_dev {w : World} {g o n : Nat} {l : List Dev} (h : SrcAt w (some ⟨g, o, none⟩) n 35 (flatD l)) {j : Nat} {d : Dev} (hj : l[j]? = some d) {W : World} (hb : Below w.heap.size w W) :
  (Instr.loadAt 46 (.pointer (some ⟨g, o + j * 35, none⟩))).run Tryz.prog W = .ok (.agg (encD d).toArray) W := load_devS h hb hj
theorem src_bareD {w : World} {a : Addr} {n : Nat} {l : List Dev} (h : SrcAt w (some a) n 35 (flatD l)) (hn : 0 < l.length) : ∃ g o, a = ⟨g, o, none⟩ := by
 have hv : (encD l[0])[0]? = some ((encD l[0])[0]'(by rw [encD_len]; omega)) := List.getElem?_eq_getElem _
 have := h.2.2 a rfl _ _ (flatMap_at encD 35 encD_len l 0 l[0] (List.getElem?_eq_getElem hn) 0 _ hv)
 obtain ⟨b, off, sp⟩ := a
 cases sp with
 | none => exact ⟨b, off, rfl⟩
 | some s =>
  have hn : w.cell? ((⟨b, off, some s⟩ : Addr).add (0 * 35 + 0)) = none := by
   unfold World.cell?
   split
   ·rfl
   ·rfl
  rw [hn] at this
  cases this
structure SrcB (w : World) (B : Book) (A1 : Option Addr) (A2 : Option Addr) : Prop where
 devs : SrcAt w A1 B.devs.length 35 (flatD B.devs)
 spent : SrcAt w A2 B.spent.length 32 (flatK B.spent)
 few : B.devs.length ≤ 4611686018427387904
 len : B.spent.length ≤ 4611686018427387904
theorem SrcB.later {w W : World} {B : Book} {A1 A2 : Option Addr} (h : SrcB w B A1 A2) (hb : Below w.heap.size w W) : SrcB W B A1 A2 := ⟨h.devs.grown hb, h.spent.grown hb, h.few, h.len⟩
theorem SrcB.dev {w : World} {B : Book} {A1 A2 : Option Addr} (h : SrcB w B A1 A2) {j : Nat} {d : Dev} (hd : B.devs[j]? = some d) : ∃ g o, A1 = some ⟨g, o, none⟩ ∧ ∀ W, Below w.heap.size w W → (Instr.loadAt 46 (.pointer (some ⟨g, o + j * 35, none⟩))).run Tryz.prog W = .ok (.agg (encD d).toArray) W := by
 have hlt := (List.getElem?_eq_some_iff.1 hd).1
 obtain ⟨a, hA⟩ : ∃ a, A1 = some a := by
  cases hA : A1 with
  | some a => exact ⟨a, rfl⟩
  | none => exact absurd (h.devs.2.1 hA) (by omega)
 subst hA
 obtain ⟨g, o, rfl⟩ := src_bareD h.devs (by omega)
 exact ⟨g, o, rfl, fun W hb => src_dev h.devs hd hb⟩
theorem SrcB.key {w : World} {B : Book} {A1 A2 : Option Addr} (h : SrcB w B A1 A2) {j : Nat} {d : Key} (hd : B.spent[j]? = some d) : ∃ g o, A2 = some ⟨g, o, none⟩ ∧ ∀ W, Below w.heap.size w W → (Instr.loadAt 34 (.pointer (some ⟨g, o + j * 32, none⟩))).run Tryz.prog W = .ok (.agg (encK d).toArray) W := by
 have hlt := (List.getElem?_eq_some_iff.1 hd).1
 obtain ⟨a, hA⟩ : ∃ a, A2 = some a := by
  cases hA : A2 with
  | some a => exact ⟨a, rfl⟩
  | none => exact absurd (h.spent.2.1 hA) (by omega)
 subst hA
 obtain ⟨g, o, rfl⟩ := src_bare h.spent (by omega)
 exact ⟨g, o, rfl, fun W hb => src_key h.spent hd hb⟩
set_option maxHeartbeats 8000000 in
set_option maxRecDepth 100000 in
theorem same_eq (B : Book) (A1 : Option Addr) (c1 : Nat) (A2 : Option Addr) (c2 : Nat) (A3 : Option Addr) (c3 : Nat) (A4 : Option Addr) (c4 : Nat) (w : World) (ha : SrcB w B A1 A2) (hb : SrcB w B A3 A4) :
  Calls Tryz.prog 20 #[.agg (bookCells B A1 c1 A2 c2).toArray, .agg (bookCells B A3 c3 A4 c4).toArray] w fun e w' => e = .returned (.bool true) ∧ Below w.heap.size w w' := by
 obtain ⟨W0, hW0⟩ : ∃ W0, W0 = (w.alloc (.cells (bookCells B A1 c1 A2 c2).toArray 43)).alloc (.cells (bookCells B A3 c3 A4 c4).toArray 43) := ⟨_, rfl⟩
 have hb0 : Below w.heap.size w W0 := by rw [hW0]; exact ((Below.refl _ w).alloc (Nat.le_refl _) _).alloc (by simp) _
 obtain ⟨b0, hb0'⟩ : ∃ b0, b0 = w.heap.size := ⟨_, rfl⟩
 have q1 : W0.heap[b0]? = some (.cells (bookCells B A1 c1 A2 c2).toArray 43 (0, 0)) := by rw [hW0, hb0', Below.heap_alloc _ _ _ (by simp)]; exact heap_alloc_new w _
 have q2 : W0.heap[b0 + 1]? = some (.cells (bookCells B A3 c3 A4 c4).toArray 43 (0, 0)) := by rw [hW0, hb0']; have := heap_alloc_new (w.alloc (.cells (bookCells B A1 c1 A2 c2).toArray 43)) (.cells (bookCells B A3 c3 A4 c4).toArray 43); simpa using this
 have HA := Aside0.mk (ha.later hb0)
 have HB := Aside0.mk (hb.later hb0)
 have HB0 := Aside0.mk hb0
 have cA : ∀ W, Below W0.heap.size W0 W → ∀ j v, (bookCells B A1 c1 A2 c2)[j]? = some v → W.cell? ⟨b0, j, none⟩ = some v := fun W hb j v hj => by rw [cell_of_heap ((hb.block _ (Array.getElem?_eq_some_iff.1 q1).1).trans q1)]; exact hj
 have cB : ∀ W, Below W0.heap.size W0 W → ∀ j v, (bookCells B A3 c3 A4 c4)[j]? = some v → W.cell? ⟨b0 + 1, j, none⟩ = some v := fun W hb j v hj => by rw [cell_of_heap ((hb.block _ (Array.getElem?_eq_some_iff.1 q2).1).trans q2)]; exact hj
 have CA := Aside0.mk cA
 have CB := Aside0.mk cB
 have hb1 := Below.refl W0.heap.size W0
 have a0 := cA W0 hb1 0 _ rfl
 have a1 := cA W0 hb1 1 _ rfl
 have a2 := cA W0 hb1 2 _ rfl
 have a3 := cA W0 hb1 3 _ rfl
 have a4 := cA W0 hb1 4 _ rfl
 have e0 := cB W0 hb1 0 _ rfl
 have e1 := cB W0 hb1 1 _ rfl
 have e2 := cB W0 hb1 2 _ rfl
 have e3 := cB W0 hb1 3 _ rfl
 have e4 := cB W0 hb1 4 _ rfl
 clear ha hb q1 q2 cA cB hb0 hb1
 have hsz : (w.alloc (.cells (bookCells B A1 c1 A2 c2).toArray 43)).heap.size = b0 + 1 := by rw [hb0']; simp
 go_enter Tryz.func20, Tryz.ntmps20
 go_upto_region 1 with fail
 rw [← hW0]
 try rw [hsz]
 try rw [← hb0']
 have HEQ := Aside0.mk (And.intro hW0 (And.intro hb0' hsz))
 clear hW0 hb0' hsz
 go_upto_region 4 with fail
 clear a0 a1 a2 a3 a4 e0 e1 e2 e3 e4
 go_loopg [5] B.devs.length (fun kx s5 wr => ∃ kk : Nat, s5 = .int .i64 kk ∧ kk + kx = B.devs.length ∧ Aside0 (Below W0.heap.size W0 wr))
 case atStart => exact ⟨0, rfl, by omega, ⟨Below.refl _ _⟩⟩
 case round =>
  obtain ⟨kk, rfl, hkk, BW⟩ := hrel
  have hfew := HA.out.few
  have k2 := CA.out wr BW.out 2 _ rfl
  by_cases hlt : kk < B.devs.length
  ·have hltz : (kk : Int) < (B.devs.length : Int) := by omega
   obtain ⟨d, hd⟩ : ∃ d, B.devs[kk]? = some d := ⟨_, List.getElem?_eq_getElem hlt⟩
   obtain ⟨g, o, rfl, hl3⟩ := HA.out.dev hd
   obtain ⟨g', o', rfl, hl4⟩ := HB.out.dev hd
   have he := neqD_same d
   have hgd := fun op a b w => guardD op a b d d w
   obtain ⟨XA, hXA⟩ : ∃ XA, XA = (encD d).toArray := ⟨_, rfl⟩
   rw [← hXA] at hl3 hl4 he hgd
   have H3 := Aside0.mk hl3
   have H4 := Aside0.mk hl4
   clear hl3 hl4 hXA hd
   go_wp2_with fail
   refine start_ (n := 11) (S := fun W => Below W0.heap.size W0 W) (ds := []) #[false, false, false, false, false, false, false, false, false, false, false] (by kernel_rfl) rfl rfl BW.out.drew (fun hHeld => ?_)
   generalize World.drew _ = w5 at hHeld ⊢
   refine pure_ (i := 0) (N := (some 51)) (v := ?_) (a' := ?_) #[true, false, false, false, false, false, false, false, false, false, false] rfl rfl (by kernel_rfl) (fun _ _ _ h => h) (Or.inl ⟨by rfl, ?_⟩) ?_ ?_
   rotate_left
   ·intro w'
    go_simp
    with_reducible rfl
   rotate_left
   ·simp only [Act.put, List.setIfInBounds_toArray, List.set_cons_zero, List.set_cons_succ, i64_w, i32_w]
    rfl
   refine pure_ (i := 2) (N := (some 53)) (v := ?_) (a' := ?_) #[true, false, true, false, false, false, false, false, false, false, false] rfl rfl (by kernel_rfl) (fun _ _ _ h => h) (Or.inl ⟨by rfl, ?_⟩) ?_ ?_
   rotate_left
   ·intro w'
    go_simp
    with_reducible rfl
   rotate_left
   ·simp only [Act.put, List.setIfInBounds_toArray, List.set_cons_zero, List.set_cons_succ, i64_w, i32_w]
    rfl
   refine pure_ (i := 5) (N := (some 56)) (v := ?_) (a' := ?_) #[true, false, true, false, false, true, false, false, false, false, false] rfl rfl (by kernel_rfl) (fun _ _ _ h => h) (Or.inl ⟨by rfl, ?_⟩) ?_ ?_
   rotate_left
   ·intro w'
    go_simp
    with_reducible rfl
   rotate_left
   ·simp only [Act.put, List.setIfInBounds_toArray, List.set_cons_zero, List.set_cons_succ, i64_w, i32_w]
    rfl
   refine pure_ (i := 7) (N := (some 58)) (v := ?_) (a' := ?_) #[true, false, true, false, false, true, false, true, false, false, false] rfl rfl (by kernel_rfl) (fun _ _ _ h => h) (Or.inl ⟨by rfl, ?_⟩) ?_ ?_
   rotate_left
   ·intro w'
    go_simp
    with_reducible rfl
   rotate_left
   ·simp only [Act.put, List.setIfInBounds_toArray, List.set_cons_zero, List.set_cons_succ, i64_w, i32_w]
    rfl
   refine take_ (i := 1) (N := (some 52)) (v := ?_) (a' := ?_) #[true, true, true, false, false, true, false, true, false, false, false] rfl rfl (by kernel_rfl) (fun _ _ _ h => h) (Or.inl ⟨by rfl, ?_⟩) hHeld ?_ ?_
   rotate_left
   ·rintro w' hs
    have k2 := CA.out w' hs 2 _ rfl
    go_simp
    with_reducible rfl
   rotate_left
   ·simp only [Act.put, List.setIfInBounds_toArray, List.set_cons_zero, List.set_cons_succ, i64_w, i32_w]
    rfl
   refine pure_ (i := 3) (N := (some 54)) (v := ?_) (a' := ?_) #[true, true, true, true, false, true, false, true, false, false, false] rfl rfl (by kernel_rfl) (fun _ _ _ h => h) (Or.inl ⟨by rfl, ?_⟩) ?_ ?_
   rotate_left
   ·intro w'
    go_simp
    with_reducible rfl
   rotate_left
   ·simp only [Act.put, List.setIfInBounds_toArray, List.set_cons_zero, List.set_cons_succ, i64_w, i32_w]
    rfl
   refine take_ (i := 4) (N := (some 55)) (v := _) (a' := ?_) #[true, true, true, true, true, true, false, true, false, false, false] rfl rfl (by kernel_rfl) (fun _ _ _ h => h) (Or.inl ⟨by rfl, fun w' hs => yields_load 46 (.tmp 54) _ rfl _ _ rfl _ (H3.out w' hs)⟩) hHeld ?_ ?_
   rotate_left
   ·simp only [Act.put, List.setIfInBounds_toArray, List.set_cons_zero, List.set_cons_succ, i64_w, i32_w]
    rfl
   refine take_ (i := 6) (N := (some 57)) (v := ?_) (a' := ?_) #[true, true, true, true, true, true, true, true, false, false, false] rfl rfl (by kernel_rfl) (fun _ _ _ h => h) (Or.inl ⟨by rfl, ?_⟩) hHeld ?_ ?_
   rotate_left
   ·rintro w' hs
    have k3 := CB.out w' hs 2 _ rfl
    go_simp
    with_reducible rfl
   rotate_left
   ·simp only [Act.put, List.setIfInBounds_toArray, List.set_cons_zero, List.set_cons_succ, i64_w, i32_w]
    rfl
   refine pure_ (i := 8) (N := (some 59)) (v := ?_) (a' := ?_) #[true, true, true, true, true, true, true, true, true, false, false] rfl rfl (by kernel_rfl) (fun _ _ _ h => h) (Or.inl ⟨by rfl, ?_⟩) ?_ ?_
   rotate_left
   ·intro w'
    go_simp
    with_reducible rfl
   rotate_left
   ·simp only [Act.put, List.setIfInBounds_toArray, List.set_cons_zero, List.set_cons_succ, i64_w, i32_w]
    rfl
   refine take_ (i := 9) (N := (some 60)) (v := _) (a' := ?_) #[true, true, true, true, true, true, true, true, true, true, false] rfl rfl (by kernel_rfl) (fun _ _ _ h => h) (Or.inl ⟨by rfl, fun w' hs => yields_load 46 (.tmp 59) _ rfl _ _ rfl _ (H4.out w' hs)⟩) hHeld ?_ ?_
   rotate_left
   ·simp only [Act.put, List.setIfInBounds_toArray, List.set_cons_zero, List.set_cons_succ, i64_w, i32_w]
    rfl
   refine pure_ (i := 10) (N := (some 61)) (v := ?_) (a' := ?_) #[true, true, true, true, true, true, true, true, true, true, true] rfl rfl (by kernel_rfl) (fun _ _ _ h => h) (Or.inl ⟨by rfl, ?_⟩) ?_ ?_
   rotate_left
   ·intro w'
    go_simp
    with_reducible rfl
   rotate_left
   ·simp only [Act.put, List.setIfInBounds_toArray, List.set_cons_zero, List.set_cons_succ, i64_w, i32_w]
    rfl
   refine done_ (by kernel_rfl) ?_
   have HH := Aside0.mk hHeld
   clear hHeld he hgd
   go_wp2_with fail
   obtain ⟨k2, rfl⟩ : ∃ k2, gk = k2 + 1 := ⟨gk - 1, by omega⟩
   go_roundg k2
   case measure => omega
   case rel => exact ⟨kk + 1, by go_num, by omega, ⟨HH.out⟩⟩
  ·have hltz : ¬ (kk : Int) < (B.devs.length : Int) := by omega
   have : kk = B.devs.length := by omega
   subst this
   obtain ⟨wB, rfl⟩ : ∃ x, x = wr := ⟨wr, rfl⟩
   have BWB := BW
   go_upto_region 9 with fail
   clear k2 hltz hkk hlt hfew
   go_loopg [6] B.spent.length (fun kx s6 wr => ∃ kk : Nat, s6 = .int .i64 kk ∧ kk + kx = B.spent.length ∧ Aside0 (Below W0.heap.size W0 wr))
   case atStart => exact ⟨0, rfl, by omega, ⟨BWB.out⟩⟩
   case round =>
    obtain ⟨kk, rfl, hkk, BW⟩ := hrel
    have hfew := HA.out.len
    have k3 := CA.out wr BW.out 3 _ rfl
    by_cases hlt : kk < B.spent.length
    ·have hltz : (kk : Int) < (B.spent.length : Int) := by omega
     obtain ⟨d, hd⟩ : ∃ d, B.spent[kk]? = some d := ⟨_, List.getElem?_eq_getElem hlt⟩
     obtain ⟨g, o, rfl, hl3⟩ := HA.out.key hd
     obtain ⟨g', o', rfl, hl4⟩ := HB.out.key hd
     have he := neqK d d
     simp only [decide_true, Bool.not_true] at he
     have hgd := fun op a b w => guardK op a b d d w
     obtain ⟨XA, hXA⟩ : ∃ XA, XA = (encK d).toArray := ⟨_, rfl⟩
     rw [← hXA] at hl3 hl4 he hgd
     have H3 := Aside0.mk hl3
     have H4 := Aside0.mk hl4
     clear hl3 hl4 hXA hd
     go_wp2_with fail
     refine start_ (n := 11) (S := fun W => Below W0.heap.size W0 W) (ds := []) #[false, false, false, false, false, false, false, false, false, false, false] (by kernel_rfl) rfl rfl BW.out.drew (fun hHeld => ?_)
     generalize World.drew _ = w5 at hHeld ⊢
     refine pure_ (i := 0) (N := (some 69)) (v := ?_) (a' := ?_) #[true, false, false, false, false, false, false, false, false, false, false] rfl rfl (by kernel_rfl) (fun _ _ _ h => h) (Or.inl ⟨by rfl, ?_⟩) ?_ ?_
     rotate_left
     ·intro w'
      go_simp
      with_reducible rfl
     rotate_left
     ·simp only [Act.put, List.setIfInBounds_toArray, List.set_cons_zero, List.set_cons_succ, i64_w, i32_w]
      rfl
     refine pure_ (i := 2) (N := (some 71)) (v := ?_) (a' := ?_) #[true, false, true, false, false, false, false, false, false, false, false] rfl rfl (by kernel_rfl) (fun _ _ _ h => h) (Or.inl ⟨by rfl, ?_⟩) ?_ ?_
     rotate_left
     ·intro w'
      go_simp
      with_reducible rfl
     rotate_left
     ·simp only [Act.put, List.setIfInBounds_toArray, List.set_cons_zero, List.set_cons_succ, i64_w, i32_w]
      rfl
     refine pure_ (i := 5) (N := (some 74)) (v := ?_) (a' := ?_) #[true, false, true, false, false, true, false, false, false, false, false] rfl rfl (by kernel_rfl) (fun _ _ _ h => h) (Or.inl ⟨by rfl, ?_⟩) ?_ ?_
     rotate_left
     ·intro w'
      go_simp
      with_reducible rfl
     rotate_left
     ·simp only [Act.put, List.setIfInBounds_toArray, List.set_cons_zero, List.set_cons_succ, i64_w, i32_w]
      rfl
     refine pure_ (i := 7) (N := (some 76)) (v := ?_) (a' := ?_) #[true, false, true, false, false, true, false, true, false, false, false] rfl rfl (by kernel_rfl) (fun _ _ _ h => h) (Or.inl ⟨by rfl, ?_⟩) ?_ ?_
     rotate_left
     ·intro w'
      go_simp
      with_reducible rfl
     rotate_left
     ·simp only [Act.put, List.setIfInBounds_toArray, List.set_cons_zero, List.set_cons_succ, i64_w, i32_w]
      rfl
     refine take_ (i := 1) (N := (some 70)) (v := ?_) (a' := ?_) #[true, true, true, false, false, true, false, true, false, false, false] rfl rfl (by kernel_rfl) (fun _ _ _ h => h) (Or.inl ⟨by rfl, ?_⟩) hHeld ?_ ?_
     rotate_left
     ·rintro w' hs
      have k2 := CA.out w' hs 3 _ rfl
      go_simp
      with_reducible rfl
     rotate_left
     ·simp only [Act.put, List.setIfInBounds_toArray, List.set_cons_zero, List.set_cons_succ, i64_w, i32_w]
      rfl
     refine pure_ (i := 3) (N := (some 72)) (v := ?_) (a' := ?_) #[true, true, true, true, false, true, false, true, false, false, false] rfl rfl (by kernel_rfl) (fun _ _ _ h => h) (Or.inl ⟨by rfl, ?_⟩) ?_ ?_
     rotate_left
     ·intro w'
      go_simp
      with_reducible rfl
     rotate_left
     ·simp only [Act.put, List.setIfInBounds_toArray, List.set_cons_zero, List.set_cons_succ, i64_w, i32_w]
      rfl
     refine take_ (i := 4) (N := (some 73)) (v := _) (a' := ?_) #[true, true, true, true, true, true, false, true, false, false, false] rfl rfl (by kernel_rfl) (fun _ _ _ h => h) (Or.inl ⟨by rfl, fun w' hs => yields_load 34 (.tmp 72) _ rfl _ _ rfl _ (H3.out w' hs)⟩) hHeld ?_ ?_
     rotate_left
     ·simp only [Act.put, List.setIfInBounds_toArray, List.set_cons_zero, List.set_cons_succ, i64_w, i32_w]
      rfl
     refine take_ (i := 6) (N := (some 75)) (v := ?_) (a' := ?_) #[true, true, true, true, true, true, true, true, false, false, false] rfl rfl (by kernel_rfl) (fun _ _ _ h => h) (Or.inl ⟨by rfl, ?_⟩) hHeld ?_ ?_
     rotate_left
     ·rintro w' hs
      have k3 := CB.out w' hs 3 _ rfl
      go_simp
      with_reducible rfl
     rotate_left
     ·simp only [Act.put, List.setIfInBounds_toArray, List.set_cons_zero, List.set_cons_succ, i64_w, i32_w]
      rfl
     refine pure_ (i := 8) (N := (some 77)) (v := ?_) (a' := ?_) #[true, true, true, true, true, true, true, true, true, false, false] rfl rfl (by kernel_rfl) (fun _ _ _ h => h) (Or.inl ⟨by rfl, ?_⟩) ?_ ?_
     rotate_left
     ·intro w'
      go_simp
      with_reducible rfl
     rotate_left
     ·simp only [Act.put, List.setIfInBounds_toArray, List.set_cons_zero, List.set_cons_succ, i64_w, i32_w]
      rfl
     refine take_ (i := 9) (N := (some 78)) (v := _) (a' := ?_) #[true, true, true, true, true, true, true, true, true, true, false] rfl rfl (by kernel_rfl) (fun _ _ _ h => h) (Or.inl ⟨by rfl, fun w' hs => yields_load 34 (.tmp 77) _ rfl _ _ rfl _ (H4.out w' hs)⟩) hHeld ?_ ?_
     rotate_left
     ·simp only [Act.put, List.setIfInBounds_toArray, List.set_cons_zero, List.set_cons_succ, i64_w, i32_w]
      rfl
     refine pure_ (i := 10) (N := (some 79)) (v := ?_) (a' := ?_) #[true, true, true, true, true, true, true, true, true, true, true] rfl rfl (by kernel_rfl) (fun _ _ _ h => h) (Or.inl ⟨by rfl, ?_⟩) ?_ ?_
     rotate_left
     ·intro w'
      go_simp
      with_reducible rfl
     rotate_left
     ·simp only [Act.put, List.setIfInBounds_toArray, List.set_cons_zero, List.set_cons_succ, i64_w, i32_w]
      rfl
     refine done_ (by kernel_rfl) ?_
     have HH := Aside0.mk hHeld
     clear hHeld he hgd
     go_wp2_with fail
     obtain ⟨k2, rfl⟩ : ∃ k2, gk = k2 + 1 := ⟨gk - 1, by omega⟩
     go_roundg k2
     case measure => omega
     case rel => exact ⟨kk + 1, by go_num, by omega, ⟨HH.out⟩⟩
    ·have hltz : ¬ (kk : Int) < (B.spent.length : Int) := by omega
     have : kk = B.spent.length := by omega
     subst this
     go_wp2_with fail
     go_ret
     exact ⟨rfl, below_step HB0.out BW.out⟩
end Go.Proofs.YthnpiimiimiijaaGreatDoor.Dir
/- Books that a directory has are let in; versions. -/
namespace Go.Proofs.YthnpiimiimiijaaGreatDoor.Dir
open Go Go.RowKit Go.Proofs Go.Proofs.YthnpiimiimiijaaGreatDoorW.PrintWords Go.Proofs.YthnpiimiimiijaaGreatDoorW.PrintLast Go.Proofs.YthnpiimiimiijaaGreatDoorW.PrintMore
set_option linter.unusedVariables false
set_option linter.unusedSimpArgs false
theorem devsOk_of : ∀ (l : List Dev) (last : Int), (∀ d ∈ l, last < d.node) → l.Pairwise (fun a b => a.node < b.node) → (∀ d ∈ l, 1 ≤ d.node ∧ d.node ≤ 8) → (∀ d ∈ l, 1 ≤ d.exp ∧ d.exp ≤ maxN) → devsOk last l = true
 | [], _, _, _, _, _ => rfl
 | d :: l, last, h0, hp, hn, he => by
  obtain ⟨p1, p2⟩ := List.pairwise_cons.1 hp
  have hd := he d (List.mem_cons_self ..)
  unfold devsOk
  rw [devsOk_of l d.node p1 p2 (fun x hx => hn x (List.mem_cons_of_mem _ hx)) (fun x hx => he x (List.mem_cons_of_mem _ hx))]
  unfold number
  simp only [Bool.and_true, Bool.and_eq_true, decide_eq_true_eq]
  have h1 := h0 d (List.mem_cons_self ..)
  have h2 := hn d (List.mem_cons_self ..)
  exact ⟨⟨⟨h1, h2.2⟩, hd.1⟩, ⟨by omega, hd.2⟩⟩
theorem ok_of {B : Book} (hw : WF B) (ha : rulesOf B.acl = 0) : OkB B where
 ver := decide_eq_true hw.ver
 clock := decide_eq_true hw.clock
 few := hw.few.1
 len := hw.few.2
 devs := devsOk_of _ _ (fun d hd => by have := (hw.nodes d hd).1; omega) hw.devs hw.nodes hw.exps
 acl := ha
 sorted := fun i x y hx hy => by
  obtain ⟨h1, e1⟩ := List.getElem?_eq_some_iff.1 hx
  obtain ⟨h2, e2⟩ := List.getElem?_eq_some_iff.1 hy
  have := List.pairwise_iff_getElem.1 hw.spent i (i + 1) h1 h2 (by omega)
  rw [e1, e2] at this
  exact ltK_asymm this
 apart := fun i x y hx hy e => by
  have hn : (sortL (takenB B)).Nodup := (sortL_perm (takenB B)).nodup_iff.2 hw.keys
  obtain ⟨h1, e1⟩ := List.getElem?_eq_some_iff.1 hx
  obtain ⟨h2, e2⟩ := List.getElem?_eq_some_iff.1 hy
  have := List.pairwise_iff_getElem.1 hn i (i + 1) h1 h2 (by omega)
  rw [e1, e2] at this
  exact this e.symm
 nonzero := hw.nonzero
end Go.Proofs.YthnpiimiimiijaaGreatDoor.Dir
end
section
namespace Go.Proofs.YthnpiimiimiijaaGreatDoor.Dir
open Go Go.RowKit Go.Proofs Go.Proofs.YthnpiimiimiijaaGreatDoorW.PrintWords Go.Proofs.YthnpiimiimiijaaGreatDoorW.PrintLast Go.Proofs.YthnpiimiimiijaaGreatDoorW.PrintMore
set_option linter.unusedVariables false
set_option linter.unusedSimpArgs false
def row30 (V : Nat → Value) : List Value := (List.range 30).map V
theorem row30_get (V : Nat → Value) (n : Nat) (hn : n < 30) : (row30 V)[n]? = some (V n) := by simp [row30, hn]
structure Arr (w : World) (g : Nat) (T : TypeId) (V : Nat → Value) : Prop where
 at_ : w.heap[g]? = some (.cells (row30 V).toArray T (0, 0))
theorem Arr.cell {w : World} {g : Nat} {T : TypeId} {V : Nat → Value} (h : Arr w g T V) (n : Nat) (hn : n < 30) : w.cell? ⟨g, n, none⟩ = some (V n) := by
 rw [cell_of_heap h.at_]
 exact row30_get V n hn
theorem Arr.lt {w : World} {g : Nat} {T : TypeId} {V : Nat → Value} (h : Arr w g T V) : g < w.heap.size := (Array.getElem?_eq_some_iff.1 h.at_).1
theorem Arr.later {w w' : World} {g : Nat} {T : TypeId} {V : Nat → Value} (h : Arr w g T V) (hb : Below w.heap.size w w') : Arr w' g T V := ⟨(hb.block _ h.lt).trans h.at_⟩
theorem Arr.grown {w w' : World} {g q : Nat} {T : TypeId} {V : Nat → Value} (h : Arr w g T V) (hb : w.grownBy w' (some q)) (hq : g ≠ q) : Arr w' g T V := ⟨(hb.block _ h.lt (fun e => hq (Option.some.inj e))).trans h.at_⟩
theorem Arr.congr {w : World} {g : Nat} {T : TypeId} {V V' : Nat → Value} (h : Arr w g T V) (he : ∀ n, n < 30 → V n = V' n) : Arr w g T V' := by
 refine ⟨?_⟩
 rw [h.at_, show row30 V = row30 V' from List.map_congr_left fun n hn => he n (by simpa using hn)]
theorem DirAt.other {w w' : World} {p : Nat} {B : Book} (h : DirAt w p B) {g : Nat} {cs : Array Value} {T : TypeId} {fr : Nat × Nat} (hg : w.heap[g]? = some (.cells cs T fr)) (h1 : T ≠ 83) (h2 : T ≠ 46) (h3 : T ≠ 34) (hw : w.grownBy w' (some g)) : DirAt w' p B := by
 obtain ⟨A1, c1, A2, c2, q1, q2, q3, q4⟩ := h
 have ne : ∀ {b : Nat} {ds : Array Value} {T' : TypeId} {fr' : Nat × Nat}, w.heap[b]? = some (.cells ds T' fr') → T ≠ T' → b ≠ g := fun hb hT e => by
  subst e
  rw [hg] at hb
  injection hb with hb; injection hb with _ hb
  exact hT hb
 refine ⟨A1, c1, A2, c2, (hw.block _ (Array.getElem?_eq_some_iff.1 q1).1 (fun e => ne q1 h1 (Option.some.inj e))).trans q1, ?_, q3, q4⟩
 refine ListsAt.kept q2 hw ?_ ?_
 ·rcases q2.1.2 with ⟨e, _⟩ | ⟨b, _, _, e, _, hb, _⟩
  ·rw [e]; exact .inl rfl
  ·rw [e]; exact .inr fun e => ne hb h2 (Option.some.inj e)
 ·rcases q2.2.1.2 with ⟨e, _⟩ | ⟨b, _, _, e, _, hb, _⟩
  ·rw [e]; exact .inl rfl
  ·rw [e]; exact .inr fun e => ne hb h3 (Option.some.inj e)
theorem Lists.other {w w' : World} {base : Nat} {B : Book} {A1 A2 : Option Addr} {c1 c2 : Nat} (q2 : Lists w base B A1 c1 A2 c2) {g : Nat} {cs : Array Value} {T : TypeId} {fr : Nat × Nat} (hg : w.heap[g]? = some (.cells cs T fr)) (h2 : T ≠ 46) (h3 : T ≠ 34) (hw : w.grownBy w' (some g)) : Lists w' base B A1 c1 A2 c2 := by
 have ne : ∀ {b : Nat} {ds : Array Value} {T' : TypeId} {fr' : Nat × Nat}, w.heap[b]? = some (.cells ds T' fr') → T ≠ T' → b ≠ g := fun hb hT e => by
  subst e
  rw [hg] at hb
  injection hb with hb; injection hb with _ hb
  exact hT hb
 refine ListsAt.kept q2 hw ?_ ?_
 ·rcases q2.1.2 with ⟨e, _⟩ | ⟨b, _, _, e, _, hb, _⟩
  ·rw [e]; exact .inl rfl
  ·rw [e]; exact .inr fun e => ne hb h2 (Option.some.inj e)
 ·rcases q2.2.1.2 with ⟨e, _⟩ | ⟨b, _, _, e, _, hb, _⟩
  ·rw [e]; exact .inl rfl
  ·rw [e]; exact .inr fun e => ne hb h3 (Option.some.inj e)
theorem DirSt.other {w W W' : World} {p : Nat} {B : Book} (h : DirSt w W p B) {g : Nat} {cs : Array Value} {T : TypeId} {fr : Nat × Nat} (hg : W.heap[g]? = some (.cells cs T fr)) (h1 : T ≠ 83) (h2 : T ≠ 46) (h3 : T ≠ 34) (hn : w.heap.size ≤ g) (hw : W.grownBy W' (some g)) : DirSt w W' p B :=
 ⟨h.at_.other hg h1 h2 h3 hw, h.fr.grown hw h.fr.size (fun k hk => by have : g = k := Option.some.inj hk; omega), h.new, h.wf, h.laid⟩
theorem DirAt.block {w : World} {p : Nat} {B : Book} (h : DirAt w p B) : ∃ cs fr, w.heap[p]? = some (.cells cs 83 fr) := by
 obtain ⟨A1, c1, A2, c2, q1, _⟩ := h
 exact ⟨_, _, q1⟩
theorem block_ne {w : World} {p g : Nat} {cs ds : Array Value} {S T : TypeId} {fr fr' : Nat × Nat} (h1 : w.heap[p]? = some (.cells cs S fr)) (h2 : w.heap[g]? = some (.cells ds T fr')) (h : S ≠ T) : p ≠ g := fun e => by
 subst e
 rw [h1] at h2
 injection h2 with h2; injection h2 with _ h2
 exact h h2
structure BkSt (w : World) (bk : Nat) (B : Book) (A1 : Option Addr) (c1 : Nat) (A2 : Option Addr) (c2 : Nat) : Prop where
 at_ : w.heap[bk]? = some (.cells (bookCells B A1 c1 A2 c2).toArray 43 (0, 0))
 lists : Lists w 0 B A1 c1 A2 c2
section
variable {w w' : World} {bk : Nat} {B : Book} {A1 A2 : Option Addr} {c1 c2 : Nat}
theorem BkSt.lt (h : BkSt w bk B A1 c1 A2 c2) : bk < w.heap.size := (Array.getElem?_eq_some_iff.1 h.at_).1
theorem BkSt.later (h : BkSt w bk B A1 c1 A2 c2) (hb : Below w.heap.size w w') : BkSt w' bk B A1 c1 A2 c2 := ⟨(hb.block _ h.lt).trans h.at_, h.lists.below hb⟩
theorem BkSt.other (h : BkSt w bk B A1 c1 A2 c2) {g : Nat} {cs : Array Value} {T : TypeId} {fr : Nat × Nat} (hg : w.heap[g]? = some (.cells cs T fr)) (h1 : T ≠ 43) (h2 : T ≠ 46) (h3 : T ≠ 34) (hw : w.grownBy w' (some g)) : BkSt w' bk B A1 c1 A2 c2 :=
 ⟨(hw.block _ h.lt (fun e => block_ne h.at_ hg (Ne.symm h1) (Option.some.inj e))).trans h.at_, h.lists.other hg h2 h3 hw⟩
theorem BkSt.dev (h : BkSt w bk B A1 c1 A2 c2) {j : Nat} {d : Dev} (hd : B.devs[j]? = some d) : ∃ g, A1 = some ⟨g, 0, none⟩ ∧ ∀ i v, (encD d)[i]? = some v → w.cell? ⟨g, j * 35 + i, none⟩ = some v := by
 have hlt := (List.getElem?_eq_some_iff.1 hd).1
 obtain ⟨g, rfl⟩ := owned_at h.lists.1 (by omega)
 exact ⟨g, rfl, fun i v hv => row_cell h.lists.1 (Below.refl _ w) (flatMap_at encD 35 encD_len B.devs j d hd i v hv)⟩
theorem BkSt.key (h : BkSt w bk B A1 c1 A2 c2) {j : Nat} {d : Key} (hd : B.spent[j]? = some d) : ∃ g, A2 = some ⟨g, 0, none⟩ ∧ ∀ i v, (encK d)[i]? = some v → w.cell? ⟨g, j * 32 + i, none⟩ = some v := by
 have hlt := (List.getElem?_eq_some_iff.1 hd).1
 obtain ⟨g, rfl⟩ := owned_at h.lists.2.1 (by omega)
 exact ⟨g, rfl, fun i v hv => row_cell h.lists.2.1 (Below.refl _ w) (flatMap_at encK 32 encK_len B.spent j d hd i v hv)⟩
end
end Go.Proofs.YthnpiimiimiijaaGreatDoor.Dir
end
section
namespace Go.Proofs.YthnpiimiimiijaaGreatDoor.Dir
open Go Go.RowKit Go.Proofs Go.Proofs.YthnpiimiimiijaaGreatDoorW.PrintWords Go.Proofs.YthnpiimiimiijaaGreatDoorW.PrintLast Go.Proofs.YthnpiimiimiijaaGreatDoorW.PrintMore
set_option linter.unusedVariables false
set_option linter.unusedSimpArgs false
theorem dirAt_of {w : World} {base : Nat} {B : Book} {A1 A2 : Option Addr} {c1 c2 : Nat} (h : Lists w base B A1 c1 A2 c2) : DirAt (w.alloc (.cells (.bool true :: bookCells B A1 c1 A2 c2).toArray 83)) w.heap.size B :=
 ⟨A1, c1, A2, c2, heap_alloc_new w _, (h.lower (Nat.zero_le _)).below ((Below.refl _ w).alloc (Nat.le_refl _) _), fun k hk => Nat.ne_of_lt (h.1.lt k hk).2, fun k hk => Nat.ne_of_lt (h.2.1.lt k hk).2⟩
def LoadEnd (w w' : World) (B : Book) (e : Ending) : Prop :=
 (∃ p, e = .returned (.tuple #[.pointer (some ⟨p, 0, none⟩), .int .i64 0]) ∧ OkB B ∧ DirAt w' p B ∧ w.heap.size ≤ p) ∨ (e = .returned (.tuple #[.pointer none, .int .i64 2]) ∧ ¬ OkB B)
set_option maxHeartbeats 4000000 in
set_option maxRecDepth 100000 in
theorem load_any (B : Book) (A1 : Option Addr) (c1 : Nat) (A2 : Option Addr) (c2 : Nat) (w : World) (h : SrcB w B A1 A2) (hbare : Bare A1) (hx : PA.LaidW w) :
  Calls Tryz.prog 23 #[.agg (bookCells B A1 c1 A2 c2).toArray] w fun e w' => LoadEnd w w' B e ∧ Below w.heap.size w w' := by
 obtain ⟨W0, hW0⟩ : ∃ W0, W0 = w.alloc (.cells (bookCells B A1 c1 A2 c2).toArray 43) := ⟨_, rfl⟩
 have hb0 : Below w.heap.size w W0 := by rw [hW0]; exact (Below.refl _ w).alloc (Nat.le_refl _) _
 obtain ⟨b0, hb0'⟩ : ∃ b0, b0 = w.heap.size := ⟨_, rfl⟩
 have q1 : W0.heap[b0]? = some (.cells (bookCells B A1 c1 A2 c2).toArray 43 (0, 0)) := by rw [hW0, hb0']; exact heap_alloc_new w _
 have l1 := run_loadAtK Tryz.prog W0 43 5 Tryz.isAgg43 Tryz.sizeOf43 b0 0 (bookCells B A1 c1 A2 c2) rfl (cells_of_heap q1)
 have hS := h.later hb0
 have hck := check_any B A1 c1 A2 c2 W0 hS.devs hS.spent hS.few hS.len hbare (hx.below hb0)
 obtain ⟨BA, hBA⟩ : ∃ BA, BA = (bookCells B A1 c1 A2 c2).toArray := ⟨_, rfl⟩
 have LW : ∀ W, Below W0.heap.size W0 W → (Instr.loadAt 43 (.pointer (some ⟨b0, 0, none⟩))).run Tryz.prog W = .ok (.agg BA) W := fun W hb => by
  rw [hBA]; exact run_loadAtK Tryz.prog W 43 5 Tryz.isAgg43 Tryz.sizeOf43 b0 0 (bookCells B A1 c1 A2 c2) rfl (cells_of_heap ((hb.block _ (Array.getElem?_eq_some_iff.1 q1).1).trans q1))
 have HOWN := Aside0.mk (fun (W : World) (hb : Below W0.heap.size W0 W) (hf : Few B) => own_book B A1 A2 c1 c2 W (hS.later hb).devs (hS.later hb).spent hf)
 rw [← hBA] at l1 hck HOWN hW0 ⊢
 have L1 := Aside0.mk l1
 have HCK := Aside0.mk hck
 have HLW := Aside0.mk LW
 have HB0 := Aside0.mk hb0
 clear h hbare hx hb0 q1 l1 hS hck hBA LW
 go_enter Tryz.func23, Tryz.ntmps23
 go_upto_region 1 with fail
 rw [← hW0, ← hb0']
 have HB0' := Aside0.mk hb0'
 clear hW0 hb0'
 go_wp2_with ((with_reducible refine at_load 43 (.tmp 1) ?_); refine wpList_loadK rfl 43 (.tmp 1) rfl _ rfl _ L1.out ?_)
 refine HCK.out.mono ?_
 rintro e w1 ⟨hce, hb1⟩
 have HB1 := Aside0.mk hb1
 clear hb1
 rcases hce with ⟨rfl, hok⟩ | ⟨rfl, hno⟩
 ·have HOK := Aside0.mk hok
  have L2 := Aside0.mk (HLW.out w1 HB1.out)
  have HO := Aside0.mk (HOWN.out w1 HB1.out ⟨hok.few, hok.len⟩)
  clear hok
  go_wp2_with ((with_reducible refine at_load 43 (.tmp 1) ?_); refine wpList_loadK rfl 43 (.tmp 1) rfl _ rfl _ L2.out ?_)
  refine HO.out.mono ?_
  rintro e w2 ⟨A3, c3, A4, c4, rfl, hL, -, -, hb2⟩
  have HL := Aside0.mk hL
  have HB2 := Aside0.mk (below_step HB1.out hb2)
  clear hL hb2
  rw [show (bookCells B A3 c3 A4 c4).toArray = #[.int .i64 B.ver, .int .i64 B.clock, .slice A3 B.devs.length c3, .slice A4 B.spent.length c4, .string (str B.acl)] from rfl]
  go_wp2_with fail
  go_ret2
  refine ⟨.inl ⟨w2.heap.size, rfl, HOK.out, ?_, ?_⟩, ?_⟩
  ·exact dirAt_of HL.out
  ·exact Nat.le_trans HB0.out.size HB2.out.size
  ·exact (below_step HB0.out HB2.out).alloc (Nat.le_trans HB0.out.size HB2.out.size) _
 ·have HNO := Aside0.mk hno
  clear hno
  go_wp2_with fail
  go_ret2
  exact ⟨.inr ⟨rfl, HNO.out⟩, below_step HB0.out HB1.out⟩
theorem DirAt.beside {w w' : World} {p q : Nat} {B : Book} (h : DirAt w q B) {cs : Array Value} {fr : Nat × Nat} (hp : w.heap[p]? = some (.cells cs 83 fr)) (hne : q ≠ p) (hw : w.grownBy w' (some p)) : DirAt w' q B := by
 obtain ⟨A1, c1, A2, c2, q1, q2, q3, q4⟩ := h
 exact ⟨A1, c1, A2, c2, (hw.block _ (Array.getElem?_eq_some_iff.1 q1).1 (fun e => hne (Option.some.inj e))).trans q1, q2.other hp (by decide) (by decide) hw, q3, q4⟩
theorem DirSt.beside {w W W' : World} {p q : Nat} {B C : Book} (h : DirSt w W q C) (hp : DirSt w W p B) (hne : q ≠ p) (hw : W.grownBy W' (some p)) : DirSt w W' q C := by
 obtain ⟨cs, fr, hc⟩ := hp.at_.block
 exact ⟨h.at_.beside hc hne hw, h.fr.grown hw h.fr.size (fun k hk => by have := hp.new; have : p = k := Option.some.inj hk; omega), h.new, h.wf, h.laid⟩
theorem pairwise_of_adj : ∀ (l : List Key), (∀ i x y, l[i]? = some x → l[i + 1]? = some y → ltK x y = true) → l.Pairwise (fun a b => ltK a b = true)
 | [], _ => List.Pairwise.nil
 | [a], _ => List.pairwise_singleton _ a
 | a :: b :: r, h => by
  have ih := pairwise_of_adj (b :: r) (fun i x y hx hy => h (i + 1) x y (by simpa using hx) (by simpa using hy))
  refine List.pairwise_cons.2 ⟨fun c hc => ?_, ih⟩
  have hab := h 0 a b rfl rfl
  rcases List.mem_cons.1 hc with e | e
  ·rw [e]; exact hab
  ·exact ltK_trans hab ((List.pairwise_cons.1 ih).1 c e)
theorem nodup_of_lt {l : List Key} (h : l.Pairwise (fun a b => ltK a b = true)) : l.Nodup := h.imp fun {a b} hab e => by
 subst e
 rw [ltK_irrefl] at hab; cases hab
theorem devsOk_to : ∀ (l : List Dev) (last : Int), devsOk last l = true → (∀ d ∈ l, last < d.node) ∧ l.Pairwise (fun a b => a.node < b.node) ∧ (∀ d ∈ l, d.node ≤ 8) ∧ (∀ d ∈ l, 1 ≤ d.exp ∧ d.exp ≤ maxN)
 | [], _, _ => ⟨by simp, List.Pairwise.nil, by simp, by simp⟩
 | d :: l, last, h => by
  unfold devsOk number at h
  simp only [Bool.and_eq_true, decide_eq_true_eq] at h
  obtain ⟨⟨⟨⟨h1, h2⟩, h3⟩, h4⟩, h5⟩ := h
  obtain ⟨i1, i2, i3, i4⟩ := devsOk_to l d.node h5
  refine ⟨fun x hx => ?_, List.pairwise_cons.2 ⟨i1, i2⟩, fun x hx => ?_, fun x hx => ?_⟩
  ·rcases List.mem_cons.1 hx with e | e
   ·rw [e]; exact h1
   ·have := i1 x e; omega
  ·rcases List.mem_cons.1 hx with e | e
   ·rw [e]; exact h2
   ·exact i3 x e
  ·rcases List.mem_cons.1 hx with e | e
   ·rw [e]; exact ⟨h3, h4.2⟩
   ·exact i4 x e
theorem wf_of_ok {B : Book} (h : OkB B) : WF B := by
 obtain ⟨d1, d2, d3, d4⟩ := devsOk_to _ _ h.devs
 have hs : (sortL (takenB B)).Pairwise (fun a b => ltK a b = true) := pairwise_of_adj _ fun i x y hx hy => by
  obtain ⟨h1, e1⟩ := List.getElem?_eq_some_iff.1 hx
  obtain ⟨h2, e2⟩ := List.getElem?_eq_some_iff.1 hy
  have h3 := List.pairwise_iff_getElem.1 (sortL_sorted (takenB B)) i (i + 1) h1 h2 (by omega)
  rw [e1, e2] at h3
  rcases ltK_tri x y with e | e | e
  ·exact e
  ·exact absurd e.symm (h.apart i x y hx hy)
  ·rw [h3] at e; cases e
 have hn : (takenB B).Nodup := (sortL_perm (takenB B)).nodup_iff.1 (nodup_of_lt hs)
 refine ⟨of_decide_eq_true h.ver, of_decide_eq_true h.clock, d2, fun d hd => ⟨by have := d1 d hd; omega, d3 d hd⟩, d4, pairwise_of_adj _ fun i x y hx hy => ?_, h.len, hn, h.nonzero⟩
 have h3 := h.sorted i x y hx hy
 rcases ltK_tri x y with e | e | e
 ·exact e
 ·exfalso
  obtain ⟨h1, e1⟩ := List.getElem?_eq_some_iff.1 hx
  obtain ⟨h2, e2⟩ := List.getElem?_eq_some_iff.1 hy
  have := List.pairwise_iff_getElem.1 (List.nodup_append.1 hn).1 i (i + 1) h1 h2 (by omega)
  rw [e1, e2] at this
  exact this e
 ·rw [h3] at e; cases e
end Go.Proofs.YthnpiimiimiijaaGreatDoor.Dir
end
section
namespace Go.Proofs.YthnpiimiimiijaaGreatDoor.Dir
open Go Go.RowKit Go.Proofs Go.Proofs.YthnpiimiimiijaaGreatDoorW.PrintWords Go.Proofs.YthnpiimiimiijaaGreatDoorW.PrintLast Go.Proofs.YthnpiimiimiijaaGreatDoorW.PrintMore
set_option linter.unusedVariables false
set_option linter.unusedSimpArgs false
structure InB (w W : World) (b : Nat) (B : Book) (A1 : Option Addr) (c1 : Nat) (A2 : Option Addr) (c2 : Nat) : Prop where
 fr : Below w.heap.size w W
 bx : W.heap[b]? = some (.cells (bookCells B A1 c1 A2 c2).toArray 43 (0, 0))
 src : SrcB W B A1 A2
section
variable {w W W' : World} {b : Nat} {B : Book} {A1 : Option Addr} {c1 : Nat} {A2 : Option Addr} {c2 : Nat}
theorem InB.start (h : SrcB w B A1 A2) : InB w (w.alloc (.cells (bookCells B A1 c1 A2 c2).toArray 43)) w.heap.size B A1 c1 A2 c2 :=
 ⟨(Below.refl _ w).alloc (Nat.le_refl _) _, heap_alloc_new w _, h.later ((Below.refl _ w).alloc (Nat.le_refl _) _)⟩
theorem InB.later (h : InB w W b B A1 c1 A2 c2) (hb : Below W.heap.size W W') : InB w W' b B A1 c1 A2 c2 :=
 ⟨below_step h.fr hb, (hb.block _ (Array.getElem?_eq_some_iff.1 h.bx).1).trans h.bx, h.src.later hb⟩
theorem InB.base {V : World} (h : InB w W b B A1 c1 A2 c2) (h0 : Below V.heap.size V W) (h1 : Below V.heap.size W W') (hV : InB w V b B A1 c1 A2 c2) : InB w W' b B A1 c1 A2 c2 := hV.later (h0.trans h1)
theorem InB.lt (h : InB w W b B A1 c1 A2 c2) : b < W.heap.size := (Array.getElem?_eq_some_iff.1 h.bx).1
theorem InB.cells (h : InB w W b B A1 c1 A2 c2) : W.cell? ⟨b, 0, none⟩ = some (.int .i64 B.ver) ∧ W.cell? ⟨b, 1, none⟩ = some (.int .i64 B.clock) ∧ W.cell? ⟨b, 2, none⟩ = some (.slice A1 B.devs.length c1) ∧ W.cell? ⟨b, 3, none⟩ = some (.slice A2 B.spent.length c2) ∧ W.cell? ⟨b, 4, none⟩ = some (.string (str B.acl)) := by
 have hq := h.bx
 refine ⟨?_, ?_, ?_, ?_, ?_⟩ <;> (rw [cell_of_heap hq]; rfl)
theorem InB.load (h : InB w W b B A1 c1 A2 c2) : (Instr.loadAt 43 (.pointer (some ⟨b, 0, none⟩))).run Tryz.prog W = .ok (.agg (bookCells B A1 c1 A2 c2).toArray) W :=
 run_loadAtK Tryz.prog W 43 5 Tryz.isAgg43 Tryz.sizeOf43 b 0 (bookCells B A1 c1 A2 c2) rfl (cells_of_heap h.bx)
theorem SrcB.devc (h : SrcB w B A1 A2) {j : Nat} {d : Dev} (hd : B.devs[j]? = some d) : ∃ g o, A1 = some ⟨g, o, none⟩ ∧ ∀ W, Below w.heap.size w W → ∀ i v, (encD d)[i]? = some v → W.cell? ⟨g, o + j * 35 + i, none⟩ = some v := by
 obtain ⟨g, o, rfl, -⟩ := h.dev hd
 exact ⟨g, o, rfl, fun W hb i v hv => by rw [Nat.add_assoc]; exact src_cell h.devs hb (flatMap_at encD 35 encD_len B.devs j d hd i v hv)⟩
end
theorem bdn {B : Nat} {a w : World} (h : Below B a w) (n : Nat) : Below B a (w.drewN n) := h.trans ⟨rfl, rfl, rfl, Nat.le_refl _, fun _ _ => rfl⟩
def OwnK (w : World) (base : Nat) (A : Option Addr) (c : Nat) (l : List Key) : Prop := w.ownsRow base 34 32 (.slice A l.length c) l.length (flatK l)
def OwnD (w : World) (base : Nat) (A : Option Addr) (c : Nat) (l : List Dev) : Prop := w.ownsRow base 46 35 (.slice A l.length c) l.length (flatD l)
theorem ownK_nil (w : World) (base : Nat) : OwnK w base none 0 [] := World.ownsRow_nil _ _ _ _
theorem ownD_nil (w : World) (base : Nat) : OwnD w base none 0 [] := World.ownsRow_nil _ _ _ _
theorem OwnK.below {w W : World} {base : Nat} {A : Option Addr} {c : Nat} {l : List Key} (h : OwnK w base A c l) (hb : Below w.heap.size w W) : OwnK W base A c l := pw_own_below h hb
theorem OwnD.below {w W : World} {base : Nat} {A : Option Addr} {c : Nat} {l : List Dev} (h : OwnD w base A c l) (hb : Below w.heap.size w W) : OwnD W base A c l := pw_own_below h hb
theorem OwnK.src {w : World} {base : Nat} {A : Option Addr} {c : Nat} {l : List Key} (h : OwnK w base A c l) : SrcAt w A l.length 32 (flatK l) := by
 obtain ⟨A', c', e, hs, -⟩ := src_owns h
 cases e
 exact hs
theorem OwnD.src {w : World} {base : Nat} {A : Option Addr} {c : Nat} {l : List Dev} (h : OwnD w base A c l) : SrcAt w A l.length 35 (flatD l) := by
 obtain ⟨A', c', e, hs, -⟩ := src_owns h
 cases e
 exact hs
theorem below_own {w w' : World} {base : Nat} {e : TypeId} {size n : Nat} {v : Value} {xs : List Value} (h : w.ownsRow base e size v n xs) (hg : w.grownBy w' v.ownBlock) (hb : base ≤ w.heap.size) : Below base w w' :=
 (Below.refl base w).grown hg hb (fun k hk => own_base h k hk)
def AppT (t e : TypeId) (size bytes : Nat) : Prop := Tryz.prog.underlying t = some (.slice e) ∧ ∃ i z, Tryz.prog.info? e = some i ∧ i.zero = some z ∧ i.size = size ∧ i.bytes = bytes ∧ z.cells.size = size ∧ 0 < size
theorem appT_of {t e : TypeId} {size bytes : Nat} (ht : Tryz.prog.underlying t = some (.slice e)) (hi : (Tryz.prog.info? e).map (fun i => (i.size, i.bytes)) = some (size, bytes)) (hz : ∃ z, ((Tryz.prog.info? e).bind (·.zero)) = some z ∧ z.cells.size = size) (hp : 0 < size) : AppT t e size bytes := by
 obtain ⟨z, hz, hzs⟩ := hz
 obtain ⟨i0, hi0⟩ : ∃ i0, Tryz.prog.info? e = some i0 := by
  cases h : Tryz.prog.info? e with
  | some i => exact ⟨i, rfl⟩
  | none => rw [h] at hi; cases hi
 rw [hi0] at hi hz
 simp only [Option.map_some, Option.some.injEq, Prod.mk.injEq, Option.bind_some] at hi hz
 exact ⟨ht, i0, z, hi0, hz, hi.1, hi.2, hzs, hp⟩
theorem appK : AppT 41 34 32 32 := appT_of Tryz.underlying41 info34 zero34 (by decide)
theorem appD : AppT 40 46 35 56 := appT_of Tryz.underlying40 info46 zero46 (by decide)
theorem appB : AppT 67 5 1 1 := appT_of Tryz.underlying67 info5 zero5 (by decide)
theorem run_app {t e : TypeId} {size bytes : Nat} (T : AppT t e size bytes) (w : World) (ty : TypeId) (base n c m c2 : Nat) (A A2 : Option Addr) (xs ys : List Value) (hown : w.ownsRow base e size (.slice A n c) n xs) (hs : SrcAt w A2 m size ys) (h1 : ∀ u ∈ ys, u.oneCell' = true) (hsz : (n + m) * bytes ≤ 140737488355328) (hmx : n + m ≤ maxLen) (hb : base ≤ w.heap.size) :
  ∃ A' c' w', (Builtin.append_ #[t, t] ty #[.slice A n c, .slice A2 m c2]).run Tryz.prog w = .ok (.slice A' (n + m) c') w' ∧ w'.ownsRow base e size (.slice A' (n + m) c') (n + m) (xs ++ ys) ∧ w.grownBy w' (Value.slice A n c).ownBlock := by
 obtain ⟨ht, i, z, hi, hz, e1, e2, e3, e4⟩ := T
 cases A2 with
 | some a =>
  obtain ⟨v', w', hr, h2, h3, -⟩ := run_append_own (P := Tryz.prog) w base t ty e i z size bytes ht hi hz e1 e2 e3 e4 (.slice A n c) n xs hown a m c2 ys hs.1 (hs.2.2 a rfl) h1 hmx hsz hb
  obtain ⟨A', c', rfl, -, -⟩ := src_owns h2
  exact ⟨A', c', w', hr, h2, h3⟩
 | none =>
  obtain rfl := hs.2.1 rfl
  have : ys = [] := List.eq_nil_of_length_eq_zero (by simpa using hs.1)
  subst this
  refine ⟨A, c, w, ?_, by simpa using hown, grownBy_refl _ _⟩
  rcases hown.2 with ⟨he, _⟩ | ⟨g, cap, cur, he, _, _, hnc, _⟩
  ·cases he
   simp [Builtin.append_, run_underlying ht, sizeOf, typeInfo, hi, Builtin.lenOf, Builtin.firstCells]
  ·cases he
   simp [Builtin.append_, run_underlying ht, sizeOf, typeInfo, hi, Builtin.lenOf, Builtin.firstCells, hnc, storeCells]
theorem exec_app {t e : TypeId} {size bytes : Nat} (T : AppT t e size bytes) (w : World) (base n c m c2 : Nat) (A A2 : Option Addr) (xs ys : List Value) (hown : w.ownsRow base e size (.slice A n c) n xs) (hs : SrcAt w A2 m size ys) (h1 : ∀ u ∈ ys, u.oneCell' = true) (hsz : (n + m) * bytes ≤ 140737488355328) (hmx : n + m ≤ maxLen) (hb : base ≤ w.heap.size)
  (o : Oper) (s x : Operand) (a : Act) (ho : o.op = .call { callee := .builtin .append, args := #[s, x], argTypes := #[t, t] }) (es : a.eval s = .slice A n c) (ex : a.eval x = .slice A2 m c2) :
  ∃ A' c' w', (execOp a.eval o).run Tryz.prog w = .ok (.value (.slice A' (n + m) c')) w' ∧ w'.ownsRow base e size (.slice A' (n + m) c') (n + m) (xs ++ ys) ∧ w.grownBy w' (Value.slice A n c).ownBlock := by
 obtain ⟨A', c', w', hr, h2, h3⟩ := run_app T w o.type base n c m c2 A A2 xs ys hown hs h1 hsz hmx hb
 refine ⟨A', c', w', ?_, h2, h3⟩
 unfold execOp
 simp only [ho, resolve, invoke, builtin, Sem.run_bind, Sem.run_pure, Result.andThen_ok, List.map_toArray, List.map_cons, List.map_nil, es, ex, hr]
section
variable {w : World} {ops : Array Oper} {rest : List Oper} {o : Oper} {a : Act} {Q : Exit → Act → World → Prop}
theorem wpList_app (hgd : o.guard = none) (s x : Operand) {t e : TypeId} {size bytes : Nat} (T : AppT t e size bytes) (ho : o.op = .call { callee := .builtin .append, args := #[s, x], argTypes := #[t, t] })
  (base n c m c2 : Nat) (A A2 : Option Addr) (xs ys : List Value) (es : a.eval s = .slice A n c) (hown : w.ownsRow base e size (.slice A n c) n xs) (ex : a.eval x = .slice A2 m c2) (hs : SrcAt w A2 m size ys) (h1 : ∀ u ∈ ys, u.oneCell' = true) (hsz : (n + m) * bytes ≤ 140737488355328) (hmx : n + m ≤ maxLen) (hb : base ≤ w.heap.size)
  (h : ∀ A' c' w', w'.ownsRow base e size (.slice A' (n + m) c') (n + m) (xs ++ ys) → w.grownBy w' (Value.slice A n c).ownBlock → wpList Tryz.prog ops Q rest (a.put o.dst (.slice A' (n + m) c')) w') : wpList Tryz.prog ops Q (o :: rest) a w := by
 refine wpList_plain hgd fun K hK => ?_
 obtain ⟨A', c', w', hr, h2, h3⟩ := exec_app T w base n c m c2 A A2 xs ys hown hs h1 hsz hmx hb o s x a ho es ex
 unfold Oper.wp
 rw [hr]
 exact hK _ _ (h A' c' w' h2 h3)
theorem flatD_append (a b : List Dev) : flatD (a ++ b) = flatD a ++ flatD b := List.flatMap_append
theorem flatD_one' (l : List Dev) : ∀ u ∈ flatD l, u.oneCell' = true := fun u hu => by
 obtain ⟨d, -, hd⟩ := List.mem_flatMap.1 hu
 exact encD_one d u hd
theorem src_new {T : TypeId} {size : Nat} {cs : List Value} {b : Nat} (h : w.heap[b]? = some (.cells cs.toArray T (0, 0))) (hl : cs.length = size) : SrcAt w (some ⟨b, 0, none⟩) 1 size cs :=
 ⟨by omega, fun e => (by cases e), fun a ha j u hj => (by cases ha; rw [add_at, Nat.zero_add, cell_of_heap h]; exact hj)⟩
end
end Go.Proofs.YthnpiimiimiijaaGreatDoor.Dir
end
section
namespace Go.Proofs.YthnpiimiimiijaaGreatDoor.Dir
open Go Go.RowKit Go.Proofs Go.Proofs.YthnpiimiimiijaaGreatDoorW.PrintWords Go.Proofs.YthnpiimiimiijaaGreatDoorW.PrintLast Go.Proofs.YthnpiimiimiijaaGreatDoorW.PrintMore
set_option linter.unusedVariables false
set_option linter.unusedSimpArgs false
end Go.Proofs.YthnpiimiimiijaaGreatDoor.Dir
end
section
namespace Go.Proofs.YthnpiimiimiijaaGreatDoor.Dir
open Go Go.RowKit Go.Proofs Go.Proofs.YthnpiimiimiijaaGreatDoorW.PrintWords Go.Proofs.YthnpiimiimiijaaGreatDoorW.PrintLast Go.Proofs.YthnpiimiimiijaaGreatDoorW.PrintMore
set_option linter.unusedVariables false
set_option linter.unusedSimpArgs false
structure InO (w W : World) (b q : Nat) (B : Book) (A1 : Option Addr) (c1 : Nat) (A2 : Option Addr) (c2 : Nat) (o : Op) : Prop where
 bk : InB w W b B A1 c1 A2 c2
 op : W.heap[q]? = some (.cells (encO o).toArray 36 (0, 0))
section
variable {w W W' : World} {b q : Nat} {B : Book} {A1 : Option Addr} {c1 : Nat} {A2 : Option Addr} {c2 : Nat} {o : Op}
theorem InO.later (h : InO w W b q B A1 c1 A2 c2 o) (hb : Below W.heap.size W W') : InO w W' b q B A1 c1 A2 c2 o :=
 ⟨h.bk.later hb, (hb.block _ (Array.getElem?_eq_some_iff.1 h.op).1).trans h.op⟩
theorem InO.start (h : SrcB w B A1 A2) : InO w ((w.alloc (.cells (bookCells B A1 c1 A2 c2).toArray 43)).alloc (.cells (encO o).toArray 36)) w.heap.size (w.heap.size + 1) B A1 c1 A2 c2 o :=
 ⟨(InB.start h).later ((Below.refl _ _).alloc (Nat.le_refl _) _), by have := heap_alloc_new (w.alloc (.cells (bookCells B A1 c1 A2 c2).toArray 43)) (.cells (encO o).toArray 36); simpa using this⟩
theorem InO.cells (h : InO w W b q B A1 c1 A2 c2 o) : W.cell? ⟨q, 0, none⟩ = some (.int .i64 o.kind) ∧ W.cell? ⟨q, 1, none⟩ = some (.int .i64 o.node) ∧ W.cell? ⟨q, 34, none⟩ = some (.int .i64 o.exp) ∧ W.cell? ⟨q, 35, none⟩ = some (.string (str o.text)) ∧ W.cell? ⟨q, 36, none⟩ = some (.int .i64 o.at_) := by
 have hq := h.op
 refine ⟨?_, ?_, ?_, ?_, ?_⟩
 ·rw [cell_of_heap hq]; rfl
 ·rw [cell_of_heap hq]; rfl
 ·rw [cell_of_heap hq]; exact tailOfO o 0
 ·rw [cell_of_heap hq]; exact tailOfO o 1
 ·rw [cell_of_heap hq]; exact tailOfO o 2
theorem InO.load (h : InO w W b q B A1 c1 A2 c2 o) : (Instr.loadAt 36 (.pointer (some ⟨q, 0, none⟩))).run Tryz.prog W = .ok (.agg (encO o).toArray) W :=
 run_loadAtK Tryz.prog W 36 37 Tryz.isAgg36 Tryz.sizeOf36 q 0 (encO o) (encO_len o) (cells_of_heap h.op)
theorem InO.key (h : InO w W b q B A1 c1 A2 c2 o) : (Instr.loadAt 34 (.pointer (some ⟨q, 2, none⟩))).run Tryz.prog W = .ok (.agg (encK o.key).toArray) W :=
 run_loadAtK Tryz.prog W 34 32 Tryz.isAgg34 Tryz.sizeOf34 q 2 (encK o.key) (encK_len _) (fun j v hj => by rw [cell_of_heap h.op]; exact keyOfO o j v hj)
end
end Go.Proofs.YthnpiimiimiijaaGreatDoor.Dir
end
section
namespace Go.Proofs.YthnpiimiimiijaaGreatDoor.Dir
open Go Go.RowKit Go.Proofs Go.Proofs.YthnpiimiimiijaaGreatDoorW.PrintWords Go.Proofs.YthnpiimiimiijaaGreatDoorW.PrintLast Go.Proofs.YthnpiimiimiijaaGreatDoorW.PrintMore
set_option linter.unusedVariables false
set_option linter.unusedSimpArgs false
def TyA (W : World) (A : Option Addr) (T : TypeId) : Prop := ∀ a, A = some a → ∃ cs fr, W.heap[a.block]? = some (.cells cs T fr)
theorem TyA.below {W W' : World} {A : Option Addr} {T : TypeId} (h : TyA W A T) (hb : Below W.heap.size W W') : TyA W' A T := fun a ha => by
 obtain ⟨cs, fr, hq⟩ := h a ha
 exact ⟨cs, fr, (hb.block _ (Array.getElem?_eq_some_iff.1 hq).1).trans hq⟩
theorem TyA.setRow {W : World} {A : Option Addr} {T : TypeId} (h : TyA W A T) (g : Nat) (cs : Array Value) : TyA (W.setRow g cs) A T := fun a ha => by
 obtain ⟨cs', fr, hq⟩ := h a ha
 by_cases e : a.block = g
 ·rw [e] at hq ⊢; exact ⟨cs, fr, setRow_heap _ _ _ _ _ _ hq⟩
 ·exact ⟨cs', fr, by rw [setRow_other _ _ _ _ e]; exact hq⟩
theorem own_typed {w : World} {base : Nat} {e : TypeId} {size n c : Nat} {A : Option Addr} {xs : List Value} (h : w.ownsRow base e size (.slice A n c) n xs) : TyA w A e := fun a ha => by
 subst ha
 rcases h.2 with ⟨e, -⟩ | ⟨g, cap, cur, e, hb, hg, -⟩
 ·cases e
 ·cases e; exact ⟨_, _, hg⟩
def NewT (n : Nat) (W : World) (T : TypeId) (A : Option Addr) : Prop := ∀ a, A = some a → n ≤ a.block ∧ ∃ cs fr, W.heap[a.block]? = some (.cells cs T fr)
theorem NewT.ty {n : Nat} {W : World} {T : TypeId} {A : Option Addr} (h : NewT n W T A) : TyA W A T := fun a ha => (h a ha).2
def NewA (n : Nat) (W : World) (T : TypeId) (A A' : Option Addr) : Prop := A' = A ∨ NewT n W T A'
end Go.Proofs.YthnpiimiimiijaaGreatDoor.Dir
end
section
namespace Go.Proofs.YthnpiimiimiijaaGreatDoor.Dir
open Go Go.RowKit Go.Proofs Go.Proofs.YthnpiimiimiijaaGreatDoorW.PrintWords Go.Proofs.YthnpiimiimiijaaGreatDoorW.PrintLast Go.Proofs.YthnpiimiimiijaaGreatDoorW.PrintMore
set_option linter.unusedVariables false
set_option linter.unusedSimpArgs false
end Go.Proofs.YthnpiimiimiijaaGreatDoor.Dir
end
section
namespace Go.Proofs.YthnpiimiimiijaaGreatDoor.Acl
open Go.Lib
def begun (r : List UInt8) (st : Option Nat) (pos : Nat) : List UInt8 := match st with | none => [] | some a => (r.take pos).drop a
end Go.Proofs.YthnpiimiimiijaaGreatDoor.Acl
end
section
namespace Go.Proofs.YthnpiimiimiijaaGreatDoor.Acl
open Go.Lib Go.RowKit Go.Proofs.YthnpiimiimiijaaGreatDoor.PA Go.Proofs.YthnpiimiimiijaaGreatDoorW.PrintWords Go.Proofs.YthnpiimiimiijaaGreatDoorW.PrintLast Go.Proofs.YthnpiimiimiijaaGreatDoorW.PrintMore
end Go.Proofs.YthnpiimiimiijaaGreatDoor.Acl
end
