/- The document's Same, at two books that read alike. -/
import Derived.Test.YthnpiimiimiijaaGreatDoorDirCheck
import Derived.Test.YthnpiimiimiijaaGreatDoorDirArg
namespace Go.Proofs.YthnpiimiimiijaaGreatDoor.Dir
open Go Go.RowKit Go.Proofs Go.Proofs.YthnpiimiimiijaaGreatDoorW.PrintWords Go.Proofs.YthnpiimiimiijaaGreatDoorW.PrintLast Go.Proofs.YthnpiimiimiijaaGreatDoorW.PrintMore
set_option linter.unusedVariables false
set_option linter.unusedSimpArgs false
theorem partD_node (d : Dev) (w : World) : (part 3 (encD d).toArray 0).run Tryz.prog w = .ok (.int .i64 d.node) w := by
 simp [part, Tryz.isAgg3, encD]
theorem partD_key (d : Dev) (w : World) : (part 34 (encD d).toArray 1).run Tryz.prog w = .ok (.agg (encK d.key).toArray) w := by
 have e : List.take 32 (encD d).tail = encK d.key := by
  show ((encK d.key ++ [Value.int .i64 d.exp, Value.bool d.rev]).take 32) = _
  rw [List.take_append_of_le_length (by rw [encK_len]; exact Nat.le_refl _), List.take_of_length_le (by rw [encK_len]; exact Nat.le_refl _)]
 simp [part, Tryz.isAgg34, Tryz.sizeOf34, e]
theorem partD_exp (d : Dev) (w : World) : (part 3 (encD d).toArray 33).run Tryz.prog w = .ok (.int .i64 d.exp) w := by
 simp [part, Tryz.isAgg3, encD, encK_len]
theorem partD_rev (d : Dev) (w : World) : (part 4 (encD d).toArray 34).run Tryz.prog w = .ok (.bool d.rev) w := by
 simp [part, Tryz.isAgg4, encD, encK_len]
theorem neqD_same (d : Dev) (w : World) : (binOp .neq 46 (.agg (encD d).toArray) (.agg (encD d).toArray)).run Tryz.prog w = .ok (.bool false) w := by
 have hS : Tryz.prog.underlying 46 = some (.struct (Tryz.prog.fieldsOf 46)) := by kernel_rfl
 have hp : Tryz.prog.stoodInHeld 46 = false := by kernel_rfl
 have hf : Tryz.prog.fieldsOf 46 = #[{ name := "Node", type := 3, offset := 0, embedded := false, tag := "", pkgPath := "", byteOffset := 0 },
    { name := "Key", type := 34, offset := 1, embedded := false, tag := "", pkgPath := "", byteOffset := 8 },
    { name := "Expiry", type := 3, offset := 33, embedded := false, tag := "", pkgPath := "", byteOffset := 40 },
    { name := "Revoked", type := 4, offset := 34, embedded := false, tag := "", pkgPath := "", byteOffset := 48 }] := by kernel_rfl
 rw [run_neq_struct, show (10000 : Nat) = 9999 + 1 from rfl, run_equalIn_agg w 9999 46 _ _ hS hp, hf]
 have h3 : ∀ a w, (Op.equalIn 9999 3 (.int .i64 a) (.int .i64 a)).run Tryz.prog w = .ok true w := fun a w => by
  rw [show (9999 : Nat) = 9998 + 1 from rfl, run_equalIn_int w 9998 3 .i64 .i64 a a Tryz.underlying3]; simp
 have h4 : ∀ a w, (Op.equalIn 9999 4 (.bool a) (.bool a)).run Tryz.prog w = .ok true w := fun a w => by
  rw [show (9999 : Nat) = 9998 + 1 from rfl, run_equalIn_bool' w 9998 4 a a Tryz.underlying4]; simp
 have hk : ∀ a w, (Op.equalIn 9999 34 (.agg (encK a).toArray) (.agg (encK a).toArray)).run Tryz.prog w = .ok true w := fun a w => by
  rw [show (9999 : Nat) = 9997 + 2 from rfl, equalIn_key]; simp
 simp [Op.eqFields, partD_node, partD_key, partD_exp, partD_rev, h3, h4, hk]
theorem guardD (op : BinOp) (a b : Operand) (x y : Dev) (w : World) : (eqGuard op 46 a b (.agg (encD x).toArray) (.agg (encD y).toArray)).run Tryz.prog w = .ok () w := run_eqGuard_agg w op 46 a b _ _ (by kernel_rfl)
theorem src_dev {w : World} {g o n : Nat} {l : List Dev} (h : SrcAt w (some ⟨g, o, none⟩) n 35 (flatD l)) {j : Nat} {d : Dev} (hj : l[j]? = some d) {W : World} (hb : Below w.heap.size w W) :
  (Instr.loadAt 46 (.pointer (some ⟨g, o + j * 35, none⟩))).run Tryz.prog W = .ok (.agg (encD d).toArray) W := load_devS h hb hj
theorem src_bareD {w : World} {a : Addr} {n : Nat} {l : List Dev} (h : SrcAt w (some a) n 35 (flatD l)) (hn : 0 < l.length) : ∃ g o, a = ⟨g, o, none⟩ := by
 have hv : (encD l[0])[0]? = some ((encD l[0])[0]'(by rw [encD_len]; omega)) := List.getElem?_eq_getElem _
 have := h.2.2 a rfl _ _ (flatMap_at encD 35 encD_len l 0 l[0] (List.getElem?_eq_getElem hn) 0 _ hv)
 obtain ⟨b, off, sp⟩ := a
 cases sp with
 | none => exact ⟨b, off, rfl⟩
 | some s =>
  have hn : w.cell? ((⟨b, off, some s⟩ : Addr).add (0 * 35 + 0)) = none := by
   unfold World.cell?
   split
   ·rfl
   ·rfl
  rw [hn] at this
  cases this
/-- A book whose lists lie there to be read. -/
structure SrcB (w : World) (B : Book) (A1 : Option Addr) (A2 : Option Addr) : Prop where
 devs : SrcAt w A1 B.devs.length 35 (flatD B.devs)
 spent : SrcAt w A2 B.spent.length 32 (flatK B.spent)
 few : B.devs.length ≤ 4611686018427387904
 len : B.spent.length ≤ 4611686018427387904
theorem SrcB.later {w W : World} {B : Book} {A1 A2 : Option Addr} (h : SrcB w B A1 A2) (hb : Below w.heap.size w W) : SrcB W B A1 A2 := ⟨h.devs.grown hb, h.spent.grown hb, h.few, h.len⟩
theorem SrcB.of_lists {w : World} {base : Nat} {B : Book} {A1 A2 : Option Addr} {c1 c2 : Nat} (h : Lists w base B A1 c1 A2 c2) (hf : Few B) : SrcB w B A1 A2 := ⟨h.src.1, h.src.2, by have := hf.1; omega, by have := hf.2; omega⟩
theorem SrcB.dev {w : World} {B : Book} {A1 A2 : Option Addr} (h : SrcB w B A1 A2) {j : Nat} {d : Dev} (hd : B.devs[j]? = some d) : ∃ g o, A1 = some ⟨g, o, none⟩ ∧ ∀ W, Below w.heap.size w W → (Instr.loadAt 46 (.pointer (some ⟨g, o + j * 35, none⟩))).run Tryz.prog W = .ok (.agg (encD d).toArray) W := by
 have hlt := (List.getElem?_eq_some_iff.1 hd).1
 obtain ⟨a, hA⟩ : ∃ a, A1 = some a := by
  cases hA : A1 with
  | some a => exact ⟨a, rfl⟩
  | none => exact absurd (h.devs.2.1 hA) (by omega)
 subst hA
 obtain ⟨g, o, rfl⟩ := src_bareD h.devs (by omega)
 exact ⟨g, o, rfl, fun W hb => src_dev h.devs hd hb⟩
theorem SrcB.key {w : World} {B : Book} {A1 A2 : Option Addr} (h : SrcB w B A1 A2) {j : Nat} {d : Key} (hd : B.spent[j]? = some d) : ∃ g o, A2 = some ⟨g, o, none⟩ ∧ ∀ W, Below w.heap.size w W → (Instr.loadAt 34 (.pointer (some ⟨g, o + j * 32, none⟩))).run Tryz.prog W = .ok (.agg (encK d).toArray) W := by
 have hlt := (List.getElem?_eq_some_iff.1 hd).1
 obtain ⟨a, hA⟩ : ∃ a, A2 = some a := by
  cases hA : A2 with
  | some a => exact ⟨a, rfl⟩
  | none => exact absurd (h.spent.2.1 hA) (by omega)
 subst hA
 obtain ⟨g, o, rfl⟩ := src_bare h.spent (by omega)
 exact ⟨g, o, rfl, fun W hb => src_key h.spent hd hb⟩
set_option maxHeartbeats 8000000 in
set_option maxRecDepth 100000 in
theorem same_eq (B : Book) (A1 : Option Addr) (c1 : Nat) (A2 : Option Addr) (c2 : Nat) (A3 : Option Addr) (c3 : Nat) (A4 : Option Addr) (c4 : Nat) (w : World) (ha : SrcB w B A1 A2) (hb : SrcB w B A3 A4) :
  Calls Tryz.prog 20 #[.agg (bookCells B A1 c1 A2 c2).toArray, .agg (bookCells B A3 c3 A4 c4).toArray] w fun e w' => e = .returned (.bool true) ∧ Below w.heap.size w w' := by
 obtain ⟨W0, hW0⟩ : ∃ W0, W0 = (w.alloc (.cells (bookCells B A1 c1 A2 c2).toArray 43)).alloc (.cells (bookCells B A3 c3 A4 c4).toArray 43) := ⟨_, rfl⟩
 have hb0 : Below w.heap.size w W0 := by rw [hW0]; exact ((Below.refl _ w).alloc (Nat.le_refl _) _).alloc (by simp) _
 obtain ⟨b0, hb0'⟩ : ∃ b0, b0 = w.heap.size := ⟨_, rfl⟩
 have q1 : W0.heap[b0]? = some (.cells (bookCells B A1 c1 A2 c2).toArray 43 (0, 0)) := by rw [hW0, hb0', Below.heap_alloc _ _ _ (by simp)]; exact heap_alloc_new w _
 have q2 : W0.heap[b0 + 1]? = some (.cells (bookCells B A3 c3 A4 c4).toArray 43 (0, 0)) := by rw [hW0, hb0']; have := heap_alloc_new (w.alloc (.cells (bookCells B A1 c1 A2 c2).toArray 43)) (.cells (bookCells B A3 c3 A4 c4).toArray 43); simpa using this
 have HA := Aside0.mk (ha.later hb0)
 have HB := Aside0.mk (hb.later hb0)
 have HB0 := Aside0.mk hb0
 have cA : ∀ W, Below W0.heap.size W0 W → ∀ j v, (bookCells B A1 c1 A2 c2)[j]? = some v → W.cell? ⟨b0, j, none⟩ = some v := fun W hb j v hj => by rw [cell_of_heap ((hb.block _ (Array.getElem?_eq_some_iff.1 q1).1).trans q1)]; exact hj
 have cB : ∀ W, Below W0.heap.size W0 W → ∀ j v, (bookCells B A3 c3 A4 c4)[j]? = some v → W.cell? ⟨b0 + 1, j, none⟩ = some v := fun W hb j v hj => by rw [cell_of_heap ((hb.block _ (Array.getElem?_eq_some_iff.1 q2).1).trans q2)]; exact hj
 have CA := Aside0.mk cA
 have CB := Aside0.mk cB
 have hb1 := Below.refl W0.heap.size W0
 have a0 := cA W0 hb1 0 _ rfl
 have a1 := cA W0 hb1 1 _ rfl
 have a2 := cA W0 hb1 2 _ rfl
 have a3 := cA W0 hb1 3 _ rfl
 have a4 := cA W0 hb1 4 _ rfl
 have e0 := cB W0 hb1 0 _ rfl
 have e1 := cB W0 hb1 1 _ rfl
 have e2 := cB W0 hb1 2 _ rfl
 have e3 := cB W0 hb1 3 _ rfl
 have e4 := cB W0 hb1 4 _ rfl
 clear ha hb q1 q2 cA cB hb0 hb1
 have hsz : (w.alloc (.cells (bookCells B A1 c1 A2 c2).toArray 43)).heap.size = b0 + 1 := by rw [hb0']; simp
 go_enter Tryz.func20, Tryz.ntmps20
 go_upto_region 1 with fail
 rw [← hW0]
 try rw [hsz]
 try rw [← hb0']
 have HEQ := Aside0.mk (And.intro hW0 (And.intro hb0' hsz))
 clear hW0 hb0' hsz
 go_upto_region 4 with fail
 clear a0 a1 a2 a3 a4 e0 e1 e2 e3 e4
 go_loopg [5] B.devs.length (fun kx s5 wr => ∃ kk : Nat, s5 = .int .i64 kk ∧ kk + kx = B.devs.length ∧ Aside0 (Below W0.heap.size W0 wr))
 case atStart => exact ⟨0, rfl, by omega, ⟨Below.refl _ _⟩⟩
 case round =>
  obtain ⟨kk, rfl, hkk, BW⟩ := hrel
  have hfew := HA.out.few
  have k2 := CA.out wr BW.out 2 _ rfl
  by_cases hlt : kk < B.devs.length
  ·have hltz : (kk : Int) < (B.devs.length : Int) := by omega
   obtain ⟨d, hd⟩ : ∃ d, B.devs[kk]? = some d := ⟨_, List.getElem?_eq_getElem hlt⟩
   obtain ⟨g, o, rfl, hl3⟩ := HA.out.dev hd
   obtain ⟨g', o', rfl, hl4⟩ := HB.out.dev hd
   have he := neqD_same d
   have hgd := fun op a b w => guardD op a b d d w
   obtain ⟨XA, hXA⟩ : ∃ XA, XA = (encD d).toArray := ⟨_, rfl⟩
   rw [← hXA] at hl3 hl4 he hgd
   have H3 := Aside0.mk hl3
   have H4 := Aside0.mk hl4
   clear hl3 hl4 hXA hd
   go_wp2_with fail
   refine start_ (n := 11) (S := fun W => Below W0.heap.size W0 W) (ds := []) #[false, false, false, false, false, false, false, false, false, false, false] (by kernel_rfl) rfl rfl BW.out.drew (fun hHeld => ?_)
   generalize World.drew _ = w5 at hHeld ⊢
   refine pure_ (i := 0) (N := (some 51)) (v := ?_) (a' := ?_) #[true, false, false, false, false, false, false, false, false, false, false] rfl rfl (by kernel_rfl) (fun _ _ _ h => h) (Or.inl ⟨by rfl, ?_⟩) ?_ ?_
   rotate_left
   ·intro w'
    go_simp
    with_reducible rfl
   rotate_left
   ·simp only [Act.put, List.setIfInBounds_toArray, List.set_cons_zero, List.set_cons_succ, i64_w, i32_w]
    rfl
   refine pure_ (i := 2) (N := (some 53)) (v := ?_) (a' := ?_) #[true, false, true, false, false, false, false, false, false, false, false] rfl rfl (by kernel_rfl) (fun _ _ _ h => h) (Or.inl ⟨by rfl, ?_⟩) ?_ ?_
   rotate_left
   ·intro w'
    go_simp
    with_reducible rfl
   rotate_left
   ·simp only [Act.put, List.setIfInBounds_toArray, List.set_cons_zero, List.set_cons_succ, i64_w, i32_w]
    rfl
   refine pure_ (i := 5) (N := (some 56)) (v := ?_) (a' := ?_) #[true, false, true, false, false, true, false, false, false, false, false] rfl rfl (by kernel_rfl) (fun _ _ _ h => h) (Or.inl ⟨by rfl, ?_⟩) ?_ ?_
   rotate_left
   ·intro w'
    go_simp
    with_reducible rfl
   rotate_left
   ·simp only [Act.put, List.setIfInBounds_toArray, List.set_cons_zero, List.set_cons_succ, i64_w, i32_w]
    rfl
   refine pure_ (i := 7) (N := (some 58)) (v := ?_) (a' := ?_) #[true, false, true, false, false, true, false, true, false, false, false] rfl rfl (by kernel_rfl) (fun _ _ _ h => h) (Or.inl ⟨by rfl, ?_⟩) ?_ ?_
   rotate_left
   ·intro w'
    go_simp
    with_reducible rfl
   rotate_left
   ·simp only [Act.put, List.setIfInBounds_toArray, List.set_cons_zero, List.set_cons_succ, i64_w, i32_w]
    rfl
   refine take_ (i := 1) (N := (some 52)) (v := ?_) (a' := ?_) #[true, true, true, false, false, true, false, true, false, false, false] rfl rfl (by kernel_rfl) (fun _ _ _ h => h) (Or.inl ⟨by rfl, ?_⟩) hHeld ?_ ?_
   rotate_left
   ·rintro w' hs
    have k2 := CA.out w' hs 2 _ rfl
    go_simp
    with_reducible rfl
   rotate_left
   ·simp only [Act.put, List.setIfInBounds_toArray, List.set_cons_zero, List.set_cons_succ, i64_w, i32_w]
    rfl
   refine pure_ (i := 3) (N := (some 54)) (v := ?_) (a' := ?_) #[true, true, true, true, false, true, false, true, false, false, false] rfl rfl (by kernel_rfl) (fun _ _ _ h => h) (Or.inl ⟨by rfl, ?_⟩) ?_ ?_
   rotate_left
   ·intro w'
    go_simp
    with_reducible rfl
   rotate_left
   ·simp only [Act.put, List.setIfInBounds_toArray, List.set_cons_zero, List.set_cons_succ, i64_w, i32_w]
    rfl
   refine take_ (i := 4) (N := (some 55)) (v := _) (a' := ?_) #[true, true, true, true, true, true, false, true, false, false, false] rfl rfl (by kernel_rfl) (fun _ _ _ h => h) (Or.inl ⟨by rfl, fun w' hs => yields_load 46 (.tmp 54) _ rfl _ _ rfl _ (H3.out w' hs)⟩) hHeld ?_ ?_
   rotate_left
   ·simp only [Act.put, List.setIfInBounds_toArray, List.set_cons_zero, List.set_cons_succ, i64_w, i32_w]
    rfl
   refine take_ (i := 6) (N := (some 57)) (v := ?_) (a' := ?_) #[true, true, true, true, true, true, true, true, false, false, false] rfl rfl (by kernel_rfl) (fun _ _ _ h => h) (Or.inl ⟨by rfl, ?_⟩) hHeld ?_ ?_
   rotate_left
   ·rintro w' hs
    have k3 := CB.out w' hs 2 _ rfl
    go_simp
    with_reducible rfl
   rotate_left
   ·simp only [Act.put, List.setIfInBounds_toArray, List.set_cons_zero, List.set_cons_succ, i64_w, i32_w]
    rfl
   refine pure_ (i := 8) (N := (some 59)) (v := ?_) (a' := ?_) #[true, true, true, true, true, true, true, true, true, false, false] rfl rfl (by kernel_rfl) (fun _ _ _ h => h) (Or.inl ⟨by rfl, ?_⟩) ?_ ?_
   rotate_left
   ·intro w'
    go_simp
    with_reducible rfl
   rotate_left
   ·simp only [Act.put, List.setIfInBounds_toArray, List.set_cons_zero, List.set_cons_succ, i64_w, i32_w]
    rfl
   refine take_ (i := 9) (N := (some 60)) (v := _) (a' := ?_) #[true, true, true, true, true, true, true, true, true, true, false] rfl rfl (by kernel_rfl) (fun _ _ _ h => h) (Or.inl ⟨by rfl, fun w' hs => yields_load 46 (.tmp 59) _ rfl _ _ rfl _ (H4.out w' hs)⟩) hHeld ?_ ?_
   rotate_left
   ·simp only [Act.put, List.setIfInBounds_toArray, List.set_cons_zero, List.set_cons_succ, i64_w, i32_w]
    rfl
   refine pure_ (i := 10) (N := (some 61)) (v := ?_) (a' := ?_) #[true, true, true, true, true, true, true, true, true, true, true] rfl rfl (by kernel_rfl) (fun _ _ _ h => h) (Or.inl ⟨by rfl, ?_⟩) ?_ ?_
   rotate_left
   ·intro w'
    go_simp
    with_reducible rfl
   rotate_left
   ·simp only [Act.put, List.setIfInBounds_toArray, List.set_cons_zero, List.set_cons_succ, i64_w, i32_w]
    rfl
   refine done_ (by kernel_rfl) ?_
   have HH := Aside0.mk hHeld
   clear hHeld he hgd
   go_wp2_with fail
   obtain ⟨k2, rfl⟩ : ∃ k2, gk = k2 + 1 := ⟨gk - 1, by omega⟩
   go_roundg k2
   case measure => omega
   case rel => exact ⟨kk + 1, by go_num, by omega, ⟨HH.out⟩⟩
  ·have hltz : ¬ (kk : Int) < (B.devs.length : Int) := by omega
   have : kk = B.devs.length := by omega
   subst this
   obtain ⟨wB, rfl⟩ : ∃ x, x = wr := ⟨wr, rfl⟩
   have BWB := BW
   go_upto_region 9 with fail
   clear k2 hltz hkk hlt hfew
   go_loopg [6] B.spent.length (fun kx s6 wr => ∃ kk : Nat, s6 = .int .i64 kk ∧ kk + kx = B.spent.length ∧ Aside0 (Below W0.heap.size W0 wr))
   case atStart => exact ⟨0, rfl, by omega, ⟨BWB.out⟩⟩
   case round =>
    obtain ⟨kk, rfl, hkk, BW⟩ := hrel
    have hfew := HA.out.len
    have k3 := CA.out wr BW.out 3 _ rfl
    by_cases hlt : kk < B.spent.length
    ·have hltz : (kk : Int) < (B.spent.length : Int) := by omega
     obtain ⟨d, hd⟩ : ∃ d, B.spent[kk]? = some d := ⟨_, List.getElem?_eq_getElem hlt⟩
     obtain ⟨g, o, rfl, hl3⟩ := HA.out.key hd
     obtain ⟨g', o', rfl, hl4⟩ := HB.out.key hd
     have he := neqK d d
     simp only [decide_true, Bool.not_true] at he
     have hgd := fun op a b w => guardK op a b d d w
     obtain ⟨XA, hXA⟩ : ∃ XA, XA = (encK d).toArray := ⟨_, rfl⟩
     rw [← hXA] at hl3 hl4 he hgd
     have H3 := Aside0.mk hl3
     have H4 := Aside0.mk hl4
     clear hl3 hl4 hXA hd
     go_wp2_with fail
     refine start_ (n := 11) (S := fun W => Below W0.heap.size W0 W) (ds := []) #[false, false, false, false, false, false, false, false, false, false, false] (by kernel_rfl) rfl rfl BW.out.drew (fun hHeld => ?_)
     generalize World.drew _ = w5 at hHeld ⊢
     refine pure_ (i := 0) (N := (some 69)) (v := ?_) (a' := ?_) #[true, false, false, false, false, false, false, false, false, false, false] rfl rfl (by kernel_rfl) (fun _ _ _ h => h) (Or.inl ⟨by rfl, ?_⟩) ?_ ?_
     rotate_left
     ·intro w'
      go_simp
      with_reducible rfl
     rotate_left
     ·simp only [Act.put, List.setIfInBounds_toArray, List.set_cons_zero, List.set_cons_succ, i64_w, i32_w]
      rfl
     refine pure_ (i := 2) (N := (some 71)) (v := ?_) (a' := ?_) #[true, false, true, false, false, false, false, false, false, false, false] rfl rfl (by kernel_rfl) (fun _ _ _ h => h) (Or.inl ⟨by rfl, ?_⟩) ?_ ?_
     rotate_left
     ·intro w'
      go_simp
      with_reducible rfl
     rotate_left
     ·simp only [Act.put, List.setIfInBounds_toArray, List.set_cons_zero, List.set_cons_succ, i64_w, i32_w]
      rfl
     refine pure_ (i := 5) (N := (some 74)) (v := ?_) (a' := ?_) #[true, false, true, false, false, true, false, false, false, false, false] rfl rfl (by kernel_rfl) (fun _ _ _ h => h) (Or.inl ⟨by rfl, ?_⟩) ?_ ?_
     rotate_left
     ·intro w'
      go_simp
      with_reducible rfl
     rotate_left
     ·simp only [Act.put, List.setIfInBounds_toArray, List.set_cons_zero, List.set_cons_succ, i64_w, i32_w]
      rfl
     refine pure_ (i := 7) (N := (some 76)) (v := ?_) (a' := ?_) #[true, false, true, false, false, true, false, true, false, false, false] rfl rfl (by kernel_rfl) (fun _ _ _ h => h) (Or.inl ⟨by rfl, ?_⟩) ?_ ?_
     rotate_left
     ·intro w'
      go_simp
      with_reducible rfl
     rotate_left
     ·simp only [Act.put, List.setIfInBounds_toArray, List.set_cons_zero, List.set_cons_succ, i64_w, i32_w]
      rfl
     refine take_ (i := 1) (N := (some 70)) (v := ?_) (a' := ?_) #[true, true, true, false, false, true, false, true, false, false, false] rfl rfl (by kernel_rfl) (fun _ _ _ h => h) (Or.inl ⟨by rfl, ?_⟩) hHeld ?_ ?_
     rotate_left
     ·rintro w' hs
      have k2 := CA.out w' hs 3 _ rfl
      go_simp
      with_reducible rfl
     rotate_left
     ·simp only [Act.put, List.setIfInBounds_toArray, List.set_cons_zero, List.set_cons_succ, i64_w, i32_w]
      rfl
     refine pure_ (i := 3) (N := (some 72)) (v := ?_) (a' := ?_) #[true, true, true, true, false, true, false, true, false, false, false] rfl rfl (by kernel_rfl) (fun _ _ _ h => h) (Or.inl ⟨by rfl, ?_⟩) ?_ ?_
     rotate_left
     ·intro w'
      go_simp
      with_reducible rfl
     rotate_left
     ·simp only [Act.put, List.setIfInBounds_toArray, List.set_cons_zero, List.set_cons_succ, i64_w, i32_w]
      rfl
     refine take_ (i := 4) (N := (some 73)) (v := _) (a' := ?_) #[true, true, true, true, true, true, false, true, false, false, false] rfl rfl (by kernel_rfl) (fun _ _ _ h => h) (Or.inl ⟨by rfl, fun w' hs => yields_load 34 (.tmp 72) _ rfl _ _ rfl _ (H3.out w' hs)⟩) hHeld ?_ ?_
     rotate_left
     ·simp only [Act.put, List.setIfInBounds_toArray, List.set_cons_zero, List.set_cons_succ, i64_w, i32_w]
      rfl
     refine take_ (i := 6) (N := (some 75)) (v := ?_) (a' := ?_) #[true, true, true, true, true, true, true, true, false, false, false] rfl rfl (by kernel_rfl) (fun _ _ _ h => h) (Or.inl ⟨by rfl, ?_⟩) hHeld ?_ ?_
     rotate_left
     ·rintro w' hs
      have k3 := CB.out w' hs 3 _ rfl
      go_simp
      with_reducible rfl
     rotate_left
     ·simp only [Act.put, List.setIfInBounds_toArray, List.set_cons_zero, List.set_cons_succ, i64_w, i32_w]
      rfl
     refine pure_ (i := 8) (N := (some 77)) (v := ?_) (a' := ?_) #[true, true, true, true, true, true, true, true, true, false, false] rfl rfl (by kernel_rfl) (fun _ _ _ h => h) (Or.inl ⟨by rfl, ?_⟩) ?_ ?_
     rotate_left
     ·intro w'
      go_simp
      with_reducible rfl
     rotate_left
     ·simp only [Act.put, List.setIfInBounds_toArray, List.set_cons_zero, List.set_cons_succ, i64_w, i32_w]
      rfl
     refine take_ (i := 9) (N := (some 78)) (v := _) (a' := ?_) #[true, true, true, true, true, true, true, true, true, true, false] rfl rfl (by kernel_rfl) (fun _ _ _ h => h) (Or.inl ⟨by rfl, fun w' hs => yields_load 34 (.tmp 77) _ rfl _ _ rfl _ (H4.out w' hs)⟩) hHeld ?_ ?_
     rotate_left
     ·simp only [Act.put, List.setIfInBounds_toArray, List.set_cons_zero, List.set_cons_succ, i64_w, i32_w]
      rfl
     refine pure_ (i := 10) (N := (some 79)) (v := ?_) (a' := ?_) #[true, true, true, true, true, true, true, true, true, true, true] rfl rfl (by kernel_rfl) (fun _ _ _ h => h) (Or.inl ⟨by rfl, ?_⟩) ?_ ?_
     rotate_left
     ·intro w'
      go_simp
      with_reducible rfl
     rotate_left
     ·simp only [Act.put, List.setIfInBounds_toArray, List.set_cons_zero, List.set_cons_succ, i64_w, i32_w]
      rfl
     refine done_ (by kernel_rfl) ?_
     have HH := Aside0.mk hHeld
     clear hHeld he hgd
     go_wp2_with fail
     obtain ⟨k2, rfl⟩ : ∃ k2, gk = k2 + 1 := ⟨gk - 1, by omega⟩
     go_roundg k2
     case measure => omega
     case rel => exact ⟨kk + 1, by go_num, by omega, ⟨HH.out⟩⟩
    ·have hltz : ¬ (kk : Int) < (B.spent.length : Int) := by omega
     have : kk = B.spent.length := by omega
     subst this
     go_wp2_with fail
     go_ret
     exact ⟨rfl, below_step HB0.out BW.out⟩
end Go.Proofs.YthnpiimiimiijaaGreatDoor.Dir
/- Books that a directory has are let in; versions. -/
namespace Go.Proofs.YthnpiimiimiijaaGreatDoor.Dir
open Go Go.RowKit Go.Proofs Go.Proofs.YthnpiimiimiijaaGreatDoorW.PrintWords Go.Proofs.YthnpiimiimiijaaGreatDoorW.PrintLast Go.Proofs.YthnpiimiimiijaaGreatDoorW.PrintMore
set_option linter.unusedVariables false
set_option linter.unusedSimpArgs false
theorem devsOk_of : ∀ (l : List Dev) (last : Int), (∀ d ∈ l, last < d.node) → l.Pairwise (fun a b => a.node < b.node) → (∀ d ∈ l, 1 ≤ d.node ∧ d.node ≤ 8) → (∀ d ∈ l, 1 ≤ d.exp ∧ d.exp ≤ maxN) → devsOk last l = true
 | [], _, _, _, _, _ => rfl
 | d :: l, last, h0, hp, hn, he => by
  obtain ⟨p1, p2⟩ := List.pairwise_cons.1 hp
  have hd := he d (List.mem_cons_self ..)
  unfold devsOk
  rw [devsOk_of l d.node p1 p2 (fun x hx => hn x (List.mem_cons_of_mem _ hx)) (fun x hx => he x (List.mem_cons_of_mem _ hx))]
  unfold number
  simp only [Bool.and_true, Bool.and_eq_true, decide_eq_true_eq]
  have h1 := h0 d (List.mem_cons_self ..)
  have h2 := hn d (List.mem_cons_self ..)
  exact ⟨⟨⟨h1, h2.2⟩, hd.1⟩, ⟨by omega, hd.2⟩⟩
theorem ok_of {B : Book} (hw : WF B) (ha : rulesOf B.acl = 0) : OkB B where
 ver := decide_eq_true hw.ver
 clock := decide_eq_true hw.clock
 few := hw.few.1
 len := hw.few.2
 devs := devsOk_of _ _ (fun d hd => by have := (hw.nodes d hd).1; omega) hw.devs hw.nodes hw.exps
 acl := ha
 sorted := fun i x y hx hy => by
  obtain ⟨h1, e1⟩ := List.getElem?_eq_some_iff.1 hx
  obtain ⟨h2, e2⟩ := List.getElem?_eq_some_iff.1 hy
  have := List.pairwise_iff_getElem.1 hw.spent i (i + 1) h1 h2 (by omega)
  rw [e1, e2] at this
  exact ltK_asymm this
 apart := fun i x y hx hy e => by
  have hn : (sortL (takenB B)).Nodup := (sortL_perm (takenB B)).nodup_iff.2 hw.keys
  obtain ⟨h1, e1⟩ := List.getElem?_eq_some_iff.1 hx
  obtain ⟨h2, e2⟩ := List.getElem?_eq_some_iff.1 hy
  have := List.pairwise_iff_getElem.1 hn i (i + 1) h1 h2 (by omega)
  rw [e1, e2] at this
  exact this e.symm
 nonzero := hw.nonzero
theorem next_ver (rules : List UInt8 → Int) (b : Book) (o : Op) : (nextOf rules b o).1.ver = b.ver := by
 unfold nextOf registerOf rotateOf revokeOf advanceOf spendOf
 repeat' split
 all_goals rfl
end Go.Proofs.YthnpiimiimiijaaGreatDoor.Dir
