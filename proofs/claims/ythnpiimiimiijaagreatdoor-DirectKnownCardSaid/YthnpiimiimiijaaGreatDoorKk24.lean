/- Known: the region of the sixteen books, an operation at a time. -/
import Derived.Test.YthnpiimiimiijaaGreatDoorKk23
section
namespace Go.Proofs.YthnpiimiimiijaaGreatDoor.Dir
open Go Go.RowKit Go.Proofs Go.Proofs.YthnpiimiimiijaaGreatDoorW.PrintWords Go.Proofs.YthnpiimiimiijaaGreatDoorW.PrintLast Go.Proofs.YthnpiimiimiijaaGreatDoorW.PrintMore
set_option linter.unusedVariables false
set_option linter.unusedSimpArgs false
theorem room_at_fr {W0 W : World} {r : Nat} {o : Obj} (h : W0.heap[r]? = some o) (hb : Below W0.heap.size W0 W) : W.heap[r]? = some o := room_at h hb
def G20 : Nat → Value → World → Prop
 | 0 => GB (badB 0)
 | 1 => GB (badB 1)
 | 2 => GB (badB 2)
 | 3 => GB (badB 3)
 | 4 => GB (badB 4)
 | 5 => GK [key0]
 | 6 => GB (badB 5)
 | 7 => fun v _ => v = .agg (encK (keyN 2)).toArray
 | 8 => fun v _ => v = .agg (encK (keyN 1)).toArray
 | 9 => GK [keyN 2, keyN 1]
 | 10 => GB (badB 6)
 | 11 => fun v _ => v = .agg (encK (keyN 1)).toArray
 | 12 => fun v _ => v = .agg (encK (keyN 1)).toArray
 | 13 => GK [keyN 1, keyN 1]
 | 14 => GB (badB 7)
 | 15 => fun v _ => v = .agg (encD devOne).toArray
 | 16 => GD [devOne]
 | 17 => fun v _ => v = .agg (encK (keyN 1)).toArray
 | 18 => GK [keyN 1]
 | 19 => GB (badB 8)
 | 20 => fun v _ => v = .agg (encD devOne).toArray
 | 21 => fun v _ => v = .agg (encK (keyN 1)).toArray
 | 22 => fun v _ => v = .agg (encD ⟨2, keyN 1, 1, false⟩).toArray
 | 23 => GD [devOne, ⟨2, keyN 1, 1, false⟩]
 | 24 => GB (badB 9)
 | 25 => fun v _ => v = .agg (encD devOne).toArray
 | 26 => fun v _ => v = .agg (encK (keyN 2)).toArray
 | 27 => fun v _ => v = .agg (encD ⟨1, keyN 2, 1, false⟩).toArray
 | 28 => GD [devOne, ⟨1, keyN 2, 1, false⟩]
 | 29 => GB (badB 10)
 | 30 => fun v _ => v = .agg (encK (keyN 1)).toArray
 | 31 => fun v _ => v = .agg (encD ⟨9, keyN 1, 1, false⟩).toArray
 | 32 => GD [⟨9, keyN 1, 1, false⟩]
 | 33 => GB (badB 11)
 | 34 => fun v _ => v = .agg (encD ⟨1, key0, 1, false⟩).toArray
 | 35 => GD [⟨1, key0, 1, false⟩]
 | 36 => GB (badB 12)
 | 37 => fun v _ => v = .agg (encK (keyN 1)).toArray
 | 38 => fun v _ => v = .agg (encD ⟨1, keyN 1, 0, false⟩).toArray
 | 39 => GD [⟨1, keyN 1, 0, false⟩]
 | 40 => GB (badB 13)
 | 41 => GD (List.replicate 9 dev0)
 | 42 => GB (badB 14)
 | 43 => GK (List.replicate 65 key0)
 | 44 => GB (badB 15)
 | 45 => GAll
 | 46 => fun v _ => v = .int .i64 16
 | 47 => fun v _ => v = .int .i64 0
 | _ => fun _ _ => True
theorem G20_later : ∀ (i : Nat) (v : Value) (w w' : World), G20 i v w → Below w.heap.size w w' → G20 i v w'
 | 0, _, _, _, h, hb => GB.later h hb
 | 1, _, _, _, h, hb => GB.later h hb
 | 2, _, _, _, h, hb => GB.later h hb
 | 3, _, _, _, h, hb => GB.later h hb
 | 4, _, _, _, h, hb => GB.later h hb
 | 5, _, _, _, h, hb => GK.later h hb
 | 6, _, _, _, h, hb => GB.later h hb
 | 7, _, _, _, h, hb => h
 | 8, _, _, _, h, hb => h
 | 9, _, _, _, h, hb => GK.later h hb
 | 10, _, _, _, h, hb => GB.later h hb
 | 11, _, _, _, h, hb => h
 | 12, _, _, _, h, hb => h
 | 13, _, _, _, h, hb => GK.later h hb
 | 14, _, _, _, h, hb => GB.later h hb
 | 15, _, _, _, h, hb => h
 | 16, _, _, _, h, hb => GD.later h hb
 | 17, _, _, _, h, hb => h
 | 18, _, _, _, h, hb => GK.later h hb
 | 19, _, _, _, h, hb => GB.later h hb
 | 20, _, _, _, h, hb => h
 | 21, _, _, _, h, hb => h
 | 22, _, _, _, h, hb => h
 | 23, _, _, _, h, hb => GD.later h hb
 | 24, _, _, _, h, hb => GB.later h hb
 | 25, _, _, _, h, hb => h
 | 26, _, _, _, h, hb => h
 | 27, _, _, _, h, hb => h
 | 28, _, _, _, h, hb => GD.later h hb
 | 29, _, _, _, h, hb => GB.later h hb
 | 30, _, _, _, h, hb => h
 | 31, _, _, _, h, hb => h
 | 32, _, _, _, h, hb => GD.later h hb
 | 33, _, _, _, h, hb => GB.later h hb
 | 34, _, _, _, h, hb => h
 | 35, _, _, _, h, hb => GD.later h hb
 | 36, _, _, _, h, hb => GB.later h hb
 | 37, _, _, _, h, hb => h
 | 38, _, _, _, h, hb => h
 | 39, _, _, _, h, hb => GD.later h hb
 | 40, _, _, _, h, hb => GB.later h hb
 | 41, _, _, _, h, hb => GD.later h hb
 | 42, _, _, _, h, hb => GB.later h hb
 | 43, _, _, _, h, hb => GK.later h hb
 | 44, _, _, _, h, hb => GB.later h hb
 | 45, _, _, _, h, hb => GAll.later h hb
 | 46, _, _, _, h, hb => h
 | 47, _, _, _, h, hb => h
 | _ + 48, _, _, _, _, _ => trivial
theorem val20 {a0 a : Act} {w0 w : World} {l : Array Bool} {i : Nat} {o : Oper} (hi : ops20[i]? = some o) (hd : ∀ e ∈ o.after, Region.binds .any e = true → l.getD e.on false = true) (hI : OnWay ops20 a0 w0 G20 l a w)
  (j : Nat) (hj : j < 48) (hc : (ops20[i]?.map fun o => o.after.any (fun e => e.on == j && Region.binds .any e)) = some true) : G20 j (a.tmps.getD (293 + j) undef) w := by
 have h1 : ops20[j]? = some ops20[j] := Array.getElem?_eq_getElem (by rw [ops20_size]; exact hj)
 exact hI.good j _ (293 + j) h1 (ops20_one h1).2.1 (dep20 hi hc hd)
theorem op_of {i : Nat} {o : Oper} {x : Go.Op} (hi : ops20[i]? = some o) (h : (ops20[i]?.map fun o => o.op) = some x) : o.op = x := by
 rw [hi] at h
 exact Option.some.inj h
theorem exec_move {P : Program} {w : World} (x : Operand) (o : Oper) (ho : o.op = .move x) (a : Act) (v : Value) (hx : a.eval x = v) : (execOp a.eval o).run P w = .ok (.value v) w := by
 subst hx
 unfold execOp
 simp only [ho]
 rfl
set_option maxHeartbeats 8000000 in
set_option maxRecDepth 100000 in
theorem op20_0 {Q : Exit → Act → World → Prop} (tp : Nat) (a0 : Act) (w0 : World) (h13 : a0.tmps[13]? = some (.pointer (some ⟨tp, 0, none⟩))) (hone : w0.heap[tp]? = some (.cells (encD devOne).toArray 46 (0, 0)))
  (o : Oper) (l : Array Bool) (a : Act) (w : World) (hi : ops20[0]? = some o) (hd : ∀ e ∈ o.after, Region.binds .any e = true → l.getD e.on false = true) (hI : OnWay ops20 a0 w0 G20 l a w)
  (K : Act → World → Prop) (hK : ∀ v w', Below w.heap.size w w' → G20 0 v w' → K (a.put o.dst v) w') : o.wp Tryz.prog a w K Q := by
 have ho := op_of hi (x := .build 43 #[(0, .const (.int .i64 (-1)))]) (by kernel_rfl)
 exact wp_value (exec_build 43 _ o ho a #[(0, .int .i64 (-1))] (by simp only [List.map_toArray, List.map_cons, List.map_nil]; rfl) _ (book_b0 w _)) (hK _ _ (Below.refl _ _) (GB.plain (badB 0) rfl rfl))
set_option maxHeartbeats 8000000 in
set_option maxRecDepth 100000 in
theorem op20_1 {Q : Exit → Act → World → Prop} (tp : Nat) (a0 : Act) (w0 : World) (h13 : a0.tmps[13]? = some (.pointer (some ⟨tp, 0, none⟩))) (hone : w0.heap[tp]? = some (.cells (encD devOne).toArray 46 (0, 0)))
  (o : Oper) (l : Array Bool) (a : Act) (w : World) (hi : ops20[1]? = some o) (hd : ∀ e ∈ o.after, Region.binds .any e = true → l.getD e.on false = true) (hI : OnWay ops20 a0 w0 G20 l a w)
  (K : Act → World → Prop) (hK : ∀ v w', Below w.heap.size w w' → G20 1 v w' → K (a.put o.dst v) w') : o.wp Tryz.prog a w K Q := by
 have ho := op_of hi (x := .build 43 #[(0, .const (.int .i64 9007199254740992))]) (by kernel_rfl)
 exact wp_value (exec_build 43 _ o ho a #[(0, .int .i64 (9007199254740992))] (by simp only [List.map_toArray, List.map_cons, List.map_nil]; rfl) _ (book_b0 w _)) (hK _ _ (Below.refl _ _) (GB.plain (badB 1) rfl rfl))
set_option maxHeartbeats 8000000 in
set_option maxRecDepth 100000 in
theorem op20_2 {Q : Exit → Act → World → Prop} (tp : Nat) (a0 : Act) (w0 : World) (h13 : a0.tmps[13]? = some (.pointer (some ⟨tp, 0, none⟩))) (hone : w0.heap[tp]? = some (.cells (encD devOne).toArray 46 (0, 0)))
  (o : Oper) (l : Array Bool) (a : Act) (w : World) (hi : ops20[2]? = some o) (hd : ∀ e ∈ o.after, Region.binds .any e = true → l.getD e.on false = true) (hI : OnWay ops20 a0 w0 G20 l a w)
  (K : Act → World → Prop) (hK : ∀ v w', Below w.heap.size w w' → G20 2 v w' → K (a.put o.dst v) w') : o.wp Tryz.prog a w K Q := by
 have ho := op_of hi (x := .build 43 #[(1, .const (.int .i64 (-1)))]) (by kernel_rfl)
 exact wp_value (exec_build 43 _ o ho a #[(1, .int .i64 (-1))] (by simp only [List.map_toArray, List.map_cons, List.map_nil]; rfl) _ (book_b1 w _)) (hK _ _ (Below.refl _ _) (GB.plain (badB 2) rfl rfl))
set_option maxHeartbeats 8000000 in
set_option maxRecDepth 100000 in
theorem op20_3 {Q : Exit → Act → World → Prop} (tp : Nat) (a0 : Act) (w0 : World) (h13 : a0.tmps[13]? = some (.pointer (some ⟨tp, 0, none⟩))) (hone : w0.heap[tp]? = some (.cells (encD devOne).toArray 46 (0, 0)))
  (o : Oper) (l : Array Bool) (a : Act) (w : World) (hi : ops20[3]? = some o) (hd : ∀ e ∈ o.after, Region.binds .any e = true → l.getD e.on false = true) (hI : OnWay ops20 a0 w0 G20 l a w)
  (K : Act → World → Prop) (hK : ∀ v w', Below w.heap.size w w' → G20 3 v w' → K (a.put o.dst v) w') : o.wp Tryz.prog a w K Q := by
 have ho := op_of hi (x := .build 43 #[(1, .const (.int .i64 9007199254740992))]) (by kernel_rfl)
 exact wp_value (exec_build 43 _ o ho a #[(1, .int .i64 (9007199254740992))] (by simp only [List.map_toArray, List.map_cons, List.map_nil]; rfl) _ (book_b1 w _)) (hK _ _ (Below.refl _ _) (GB.plain (badB 3) rfl rfl))
set_option maxHeartbeats 8000000 in
set_option maxRecDepth 100000 in
theorem op20_4 {Q : Exit → Act → World → Prop} (tp : Nat) (a0 : Act) (w0 : World) (h13 : a0.tmps[13]? = some (.pointer (some ⟨tp, 0, none⟩))) (hone : w0.heap[tp]? = some (.cells (encD devOne).toArray 46 (0, 0)))
  (o : Oper) (l : Array Bool) (a : Act) (w : World) (hi : ops20[4]? = some o) (hd : ∀ e ∈ o.after, Region.binds .any e = true → l.getD e.on false = true) (hI : OnWay ops20 a0 w0 G20 l a w)
  (K : Act → World → Prop) (hK : ∀ v w', Below w.heap.size w w' → G20 4 v w' → K (a.put o.dst v) w') : o.wp Tryz.prog a w K Q := by
 have ho := op_of hi (x := .build 43 #[(4, .const (.string { data := #[120] }))]) (by kernel_rfl)
 exact wp_value (exec_build 43 _ o ho a #[(4, .string (str ktx))] (by simp only [List.map_toArray, List.map_cons, List.map_nil]; rfl) _ (book_b4 w _)) (hK _ _ (Below.refl _ _) (GB.plain (badB 4) rfl rfl))
set_option maxHeartbeats 8000000 in
set_option maxRecDepth 100000 in
theorem op20_5 {Q : Exit → Act → World → Prop} (tp : Nat) (a0 : Act) (w0 : World) (h13 : a0.tmps[13]? = some (.pointer (some ⟨tp, 0, none⟩))) (hone : w0.heap[tp]? = some (.cells (encD devOne).toArray 46 (0, 0)))
  (o : Oper) (l : Array Bool) (a : Act) (w : World) (hi : ops20[5]? = some o) (hd : ∀ e ∈ o.after, Region.binds .any e = true → l.getD e.on false = true) (hI : OnWay ops20 a0 w0 G20 l a w)
  (K : Act → World → Prop) (hK : ∀ v w', Below w.heap.size w w' → G20 5 v w' → K (a.put o.dst v) w') : o.wp Tryz.prog a w K Q := by
 have ho := op_of hi (x := .makeSlice 41 (.const (.int .i64 1)) (.const (.int .i64 1))) (by kernel_rfl)
 obtain ⟨w1, h1, h2, h3⟩ := madeK w 1 (by decide) (by decide)
 exact wp_value (exec_make 41 _ _ o ho a _ _ rfl rfl _ h1) (hK _ _ h2 h3)
set_option maxHeartbeats 8000000 in
set_option maxRecDepth 100000 in
theorem op20_6 {Q : Exit → Act → World → Prop} (tp : Nat) (a0 : Act) (w0 : World) (h13 : a0.tmps[13]? = some (.pointer (some ⟨tp, 0, none⟩))) (hone : w0.heap[tp]? = some (.cells (encD devOne).toArray 46 (0, 0)))
  (o : Oper) (l : Array Bool) (a : Act) (w : World) (hi : ops20[6]? = some o) (hd : ∀ e ∈ o.after, Region.binds .any e = true → l.getD e.on false = true) (hI : OnWay ops20 a0 w0 G20 l a w)
  (K : Act → World → Prop) (hK : ∀ v w', Below w.heap.size w w' → G20 6 v w' → K (a.put o.dst v) w') : o.wp Tryz.prog a w K Q := by
 have ho := op_of hi (x := .build 43 #[(3, .tmp 298)]) (by kernel_rfl)
 obtain ⟨A, c, hv, hs⟩ := (show GK [key0] _ _ from val20 hi hd hI 5 (by decide) (by kernel_rfl))
 exact wp_value (exec_build 43 _ o ho a #[(3, .slice A 1 c)] (by simp only [List.map_toArray, List.map_cons, List.map_nil]; show #[(3, a.tmps.getD 298 undef)] = _; rw [hv]; rfl) _ (book_b3 w [key0] 1 rfl A c)) (hK _ _ (Below.refl _ _) (GB.ofK [key0] (by decide) A c hs))
set_option maxHeartbeats 8000000 in
set_option maxRecDepth 100000 in
theorem op20_7 {Q : Exit → Act → World → Prop} (tp : Nat) (a0 : Act) (w0 : World) (h13 : a0.tmps[13]? = some (.pointer (some ⟨tp, 0, none⟩))) (hone : w0.heap[tp]? = some (.cells (encD devOne).toArray 46 (0, 0)))
  (o : Oper) (l : Array Bool) (a : Act) (w : World) (hi : ops20[7]? = some o) (hd : ∀ e ∈ o.after, Region.binds .any e = true → l.getD e.on false = true) (hI : OnWay ops20 a0 w0 G20 l a w)
  (K : Act → World → Prop) (hK : ∀ v w', Below w.heap.size w w' → G20 7 v w' → K (a.put o.dst v) w') : o.wp Tryz.prog a w K Q := by
 have ho := op_of hi (x := .call { callee := .value (.func 18), args := #[.const (.int .i64 2)], argTypes := #[3] }) (by kernel_rfl)
 exact wp_goes Tryz.func18 (by kernel_rfl) rfl #[.int .i64 2] ho (ops20_one hi).2.2.1 (by simp only [List.map_toArray, List.map_cons, List.map_nil]; rfl) ((key_any 2 (by decide) w).mono fun e w1 ⟨he, hb⟩ => ⟨_, he, hK _ _ hb rfl⟩)
set_option maxHeartbeats 8000000 in
set_option maxRecDepth 100000 in
theorem op20_8 {Q : Exit → Act → World → Prop} (tp : Nat) (a0 : Act) (w0 : World) (h13 : a0.tmps[13]? = some (.pointer (some ⟨tp, 0, none⟩))) (hone : w0.heap[tp]? = some (.cells (encD devOne).toArray 46 (0, 0)))
  (o : Oper) (l : Array Bool) (a : Act) (w : World) (hi : ops20[8]? = some o) (hd : ∀ e ∈ o.after, Region.binds .any e = true → l.getD e.on false = true) (hI : OnWay ops20 a0 w0 G20 l a w)
  (K : Act → World → Prop) (hK : ∀ v w', Below w.heap.size w w' → G20 8 v w' → K (a.put o.dst v) w') : o.wp Tryz.prog a w K Q := by
 have ho := op_of hi (x := .call { callee := .value (.func 18), args := #[.const (.int .i64 1)], argTypes := #[3] }) (by kernel_rfl)
 exact wp_goes Tryz.func18 (by kernel_rfl) rfl #[.int .i64 1] ho (ops20_one hi).2.2.1 (by simp only [List.map_toArray, List.map_cons, List.map_nil]; rfl) ((key_any 1 (by decide) w).mono fun e w1 ⟨he, hb⟩ => ⟨_, he, hK _ _ hb rfl⟩)
set_option maxHeartbeats 8000000 in
set_option maxRecDepth 100000 in
theorem op20_9 {Q : Exit → Act → World → Prop} (tp : Nat) (a0 : Act) (w0 : World) (h13 : a0.tmps[13]? = some (.pointer (some ⟨tp, 0, none⟩))) (hone : w0.heap[tp]? = some (.cells (encD devOne).toArray 46 (0, 0)))
  (o : Oper) (l : Array Bool) (a : Act) (w : World) (hi : ops20[9]? = some o) (hd : ∀ e ∈ o.after, Region.binds .any e = true → l.getD e.on false = true) (hI : OnWay ops20 a0 w0 G20 l a w)
  (K : Act → World → Prop) (hK : ∀ v w', Below w.heap.size w w' → G20 9 v w' → K (a.put o.dst v) w') : o.wp Tryz.prog a w K Q := by
 have ho := op_of hi (x := .buildSlice 41 2 #[(0, .tmp 300), (1, .tmp 301)]) (by kernel_rfl)
 have v7 : a.tmps.getD 300 undef = _ := val20 hi hd hI 7 (by decide) (by kernel_rfl)
 have v8 : a.tmps.getD 301 undef = _ := val20 hi hd hI 8 (by decide) (by kernel_rfl)
 obtain ⟨w1, h1, h2, h3⟩ := rowK w [keyN 2, keyN 1] 2 rfl (by decide) (by decide)
 exact wp_value (exec_bslice 41 2 _ o ho a _ (by simp only [List.map_toArray, List.map_cons, List.map_nil]; show #[(0, a.tmps.getD 300 undef), (1, a.tmps.getD 301 undef)] = _; rw [v7, v8]; rfl) _ h1) (hK _ _ h2 h3)
set_option maxHeartbeats 8000000 in
set_option maxRecDepth 100000 in
theorem op20_10 {Q : Exit → Act → World → Prop} (tp : Nat) (a0 : Act) (w0 : World) (h13 : a0.tmps[13]? = some (.pointer (some ⟨tp, 0, none⟩))) (hone : w0.heap[tp]? = some (.cells (encD devOne).toArray 46 (0, 0)))
  (o : Oper) (l : Array Bool) (a : Act) (w : World) (hi : ops20[10]? = some o) (hd : ∀ e ∈ o.after, Region.binds .any e = true → l.getD e.on false = true) (hI : OnWay ops20 a0 w0 G20 l a w)
  (K : Act → World → Prop) (hK : ∀ v w', Below w.heap.size w w' → G20 10 v w' → K (a.put o.dst v) w') : o.wp Tryz.prog a w K Q := by
 have ho := op_of hi (x := .build 43 #[(3, .tmp 302)]) (by kernel_rfl)
 obtain ⟨A, c, hv, hs⟩ := (show GK [keyN 2, keyN 1] _ _ from val20 hi hd hI 9 (by decide) (by kernel_rfl))
 exact wp_value (exec_build 43 _ o ho a #[(3, .slice A 2 c)] (by simp only [List.map_toArray, List.map_cons, List.map_nil]; show #[(3, a.tmps.getD 302 undef)] = _; rw [hv]; rfl) _ (book_b3 w [keyN 2, keyN 1] 2 rfl A c)) (hK _ _ (Below.refl _ _) (GB.ofK [keyN 2, keyN 1] (by decide) A c hs))
set_option maxHeartbeats 8000000 in
set_option maxRecDepth 100000 in
theorem op20_11 {Q : Exit → Act → World → Prop} (tp : Nat) (a0 : Act) (w0 : World) (h13 : a0.tmps[13]? = some (.pointer (some ⟨tp, 0, none⟩))) (hone : w0.heap[tp]? = some (.cells (encD devOne).toArray 46 (0, 0)))
  (o : Oper) (l : Array Bool) (a : Act) (w : World) (hi : ops20[11]? = some o) (hd : ∀ e ∈ o.after, Region.binds .any e = true → l.getD e.on false = true) (hI : OnWay ops20 a0 w0 G20 l a w)
  (K : Act → World → Prop) (hK : ∀ v w', Below w.heap.size w w' → G20 11 v w' → K (a.put o.dst v) w') : o.wp Tryz.prog a w K Q := by
 have ho := op_of hi (x := .call { callee := .value (.func 18), args := #[.const (.int .i64 1)], argTypes := #[3] }) (by kernel_rfl)
 exact wp_goes Tryz.func18 (by kernel_rfl) rfl #[.int .i64 1] ho (ops20_one hi).2.2.1 (by simp only [List.map_toArray, List.map_cons, List.map_nil]; rfl) ((key_any 1 (by decide) w).mono fun e w1 ⟨he, hb⟩ => ⟨_, he, hK _ _ hb rfl⟩)
set_option maxHeartbeats 8000000 in
set_option maxRecDepth 100000 in
theorem op20_12 {Q : Exit → Act → World → Prop} (tp : Nat) (a0 : Act) (w0 : World) (h13 : a0.tmps[13]? = some (.pointer (some ⟨tp, 0, none⟩))) (hone : w0.heap[tp]? = some (.cells (encD devOne).toArray 46 (0, 0)))
  (o : Oper) (l : Array Bool) (a : Act) (w : World) (hi : ops20[12]? = some o) (hd : ∀ e ∈ o.after, Region.binds .any e = true → l.getD e.on false = true) (hI : OnWay ops20 a0 w0 G20 l a w)
  (K : Act → World → Prop) (hK : ∀ v w', Below w.heap.size w w' → G20 12 v w' → K (a.put o.dst v) w') : o.wp Tryz.prog a w K Q := by
 have ho := op_of hi (x := .call { callee := .value (.func 18), args := #[.const (.int .i64 1)], argTypes := #[3] }) (by kernel_rfl)
 exact wp_goes Tryz.func18 (by kernel_rfl) rfl #[.int .i64 1] ho (ops20_one hi).2.2.1 (by simp only [List.map_toArray, List.map_cons, List.map_nil]; rfl) ((key_any 1 (by decide) w).mono fun e w1 ⟨he, hb⟩ => ⟨_, he, hK _ _ hb rfl⟩)
set_option maxHeartbeats 8000000 in
set_option maxRecDepth 100000 in
theorem op20_13 {Q : Exit → Act → World → Prop} (tp : Nat) (a0 : Act) (w0 : World) (h13 : a0.tmps[13]? = some (.pointer (some ⟨tp, 0, none⟩))) (hone : w0.heap[tp]? = some (.cells (encD devOne).toArray 46 (0, 0)))
  (o : Oper) (l : Array Bool) (a : Act) (w : World) (hi : ops20[13]? = some o) (hd : ∀ e ∈ o.after, Region.binds .any e = true → l.getD e.on false = true) (hI : OnWay ops20 a0 w0 G20 l a w)
  (K : Act → World → Prop) (hK : ∀ v w', Below w.heap.size w w' → G20 13 v w' → K (a.put o.dst v) w') : o.wp Tryz.prog a w K Q := by
 have ho := op_of hi (x := .buildSlice 41 2 #[(0, .tmp 304), (1, .tmp 305)]) (by kernel_rfl)
 have v11 : a.tmps.getD 304 undef = _ := val20 hi hd hI 11 (by decide) (by kernel_rfl)
 have v12 : a.tmps.getD 305 undef = _ := val20 hi hd hI 12 (by decide) (by kernel_rfl)
 obtain ⟨w1, h1, h2, h3⟩ := rowK w [keyN 1, keyN 1] 2 rfl (by decide) (by decide)
 exact wp_value (exec_bslice 41 2 _ o ho a _ (by simp only [List.map_toArray, List.map_cons, List.map_nil]; show #[(0, a.tmps.getD 304 undef), (1, a.tmps.getD 305 undef)] = _; rw [v11, v12]; rfl) _ h1) (hK _ _ h2 h3)
set_option maxHeartbeats 8000000 in
set_option maxRecDepth 100000 in
theorem op20_14 {Q : Exit → Act → World → Prop} (tp : Nat) (a0 : Act) (w0 : World) (h13 : a0.tmps[13]? = some (.pointer (some ⟨tp, 0, none⟩))) (hone : w0.heap[tp]? = some (.cells (encD devOne).toArray 46 (0, 0)))
  (o : Oper) (l : Array Bool) (a : Act) (w : World) (hi : ops20[14]? = some o) (hd : ∀ e ∈ o.after, Region.binds .any e = true → l.getD e.on false = true) (hI : OnWay ops20 a0 w0 G20 l a w)
  (K : Act → World → Prop) (hK : ∀ v w', Below w.heap.size w w' → G20 14 v w' → K (a.put o.dst v) w') : o.wp Tryz.prog a w K Q := by
 have ho := op_of hi (x := .build 43 #[(3, .tmp 306)]) (by kernel_rfl)
 obtain ⟨A, c, hv, hs⟩ := (show GK [keyN 1, keyN 1] _ _ from val20 hi hd hI 13 (by decide) (by kernel_rfl))
 exact wp_value (exec_build 43 _ o ho a #[(3, .slice A 2 c)] (by simp only [List.map_toArray, List.map_cons, List.map_nil]; show #[(3, a.tmps.getD 306 undef)] = _; rw [hv]; rfl) _ (book_b3 w [keyN 1, keyN 1] 2 rfl A c)) (hK _ _ (Below.refl _ _) (GB.ofK [keyN 1, keyN 1] (by decide) A c hs))
set_option maxHeartbeats 8000000 in
set_option maxRecDepth 100000 in
theorem op20_15 {Q : Exit → Act → World → Prop} (tp : Nat) (a0 : Act) (w0 : World) (h13 : a0.tmps[13]? = some (.pointer (some ⟨tp, 0, none⟩))) (hone : w0.heap[tp]? = some (.cells (encD devOne).toArray 46 (0, 0)))
  (o : Oper) (l : Array Bool) (a : Act) (w : World) (hi : ops20[15]? = some o) (hd : ∀ e ∈ o.after, Region.binds .any e = true → l.getD e.on false = true) (hI : OnWay ops20 a0 w0 G20 l a w)
  (K : Act → World → Prop) (hK : ∀ v w', Below w.heap.size w w' → G20 15 v w' → K (a.put o.dst v) w') : o.wp Tryz.prog a w K Q := by
 have ho := op_of hi (x := .load 46 (.tmp 13)) (by kernel_rfl)
 have hp : a.tmps.getD 13 undef = .pointer (some ⟨tp, 0, none⟩) := by rw [Array.getD_eq_getD_getElem?, hI.frame 13 (fun i o ho => by rw [(ops20_one ho).2.1]; intro e; have := Option.some.inj e; omega), h13]; rfl
 exact wp_value (yields_load 46 (.tmp 13) o ho a _ hp _ (run_loadAtK Tryz.prog w 46 35 Tryz.isAgg46 Tryz.sizeOf46 tp 0 (encD devOne) (encD_len _) (cells_of_heap (room_at_fr hone hI.fr)))) (hK _ _ (Below.refl _ _) rfl)
set_option maxHeartbeats 8000000 in
set_option maxRecDepth 100000 in
theorem op20_16 {Q : Exit → Act → World → Prop} (tp : Nat) (a0 : Act) (w0 : World) (h13 : a0.tmps[13]? = some (.pointer (some ⟨tp, 0, none⟩))) (hone : w0.heap[tp]? = some (.cells (encD devOne).toArray 46 (0, 0)))
  (o : Oper) (l : Array Bool) (a : Act) (w : World) (hi : ops20[16]? = some o) (hd : ∀ e ∈ o.after, Region.binds .any e = true → l.getD e.on false = true) (hI : OnWay ops20 a0 w0 G20 l a w)
  (K : Act → World → Prop) (hK : ∀ v w', Below w.heap.size w w' → G20 16 v w' → K (a.put o.dst v) w') : o.wp Tryz.prog a w K Q := by
 have ho := op_of hi (x := .buildSlice 40 1 #[(0, .tmp 308)]) (by kernel_rfl)
 have v15 : a.tmps.getD 308 undef = _ := val20 hi hd hI 15 (by decide) (by kernel_rfl)
 obtain ⟨w1, h1, h2, h3⟩ := rowD w [devOne] 1 rfl (by decide) (by decide)
 exact wp_value (exec_bslice 40 1 _ o ho a _ (by simp only [List.map_toArray, List.map_cons, List.map_nil]; show #[(0, a.tmps.getD 308 undef)] = _; rw [v15]; rfl) _ h1) (hK _ _ h2 h3)
set_option maxHeartbeats 8000000 in
set_option maxRecDepth 100000 in
theorem op20_17 {Q : Exit → Act → World → Prop} (tp : Nat) (a0 : Act) (w0 : World) (h13 : a0.tmps[13]? = some (.pointer (some ⟨tp, 0, none⟩))) (hone : w0.heap[tp]? = some (.cells (encD devOne).toArray 46 (0, 0)))
  (o : Oper) (l : Array Bool) (a : Act) (w : World) (hi : ops20[17]? = some o) (hd : ∀ e ∈ o.after, Region.binds .any e = true → l.getD e.on false = true) (hI : OnWay ops20 a0 w0 G20 l a w)
  (K : Act → World → Prop) (hK : ∀ v w', Below w.heap.size w w' → G20 17 v w' → K (a.put o.dst v) w') : o.wp Tryz.prog a w K Q := by
 have ho := op_of hi (x := .call { callee := .value (.func 18), args := #[.const (.int .i64 1)], argTypes := #[3] }) (by kernel_rfl)
 exact wp_goes Tryz.func18 (by kernel_rfl) rfl #[.int .i64 1] ho (ops20_one hi).2.2.1 (by simp only [List.map_toArray, List.map_cons, List.map_nil]; rfl) ((key_any 1 (by decide) w).mono fun e w1 ⟨he, hb⟩ => ⟨_, he, hK _ _ hb rfl⟩)
set_option maxHeartbeats 8000000 in
set_option maxRecDepth 100000 in
theorem op20_18 {Q : Exit → Act → World → Prop} (tp : Nat) (a0 : Act) (w0 : World) (h13 : a0.tmps[13]? = some (.pointer (some ⟨tp, 0, none⟩))) (hone : w0.heap[tp]? = some (.cells (encD devOne).toArray 46 (0, 0)))
  (o : Oper) (l : Array Bool) (a : Act) (w : World) (hi : ops20[18]? = some o) (hd : ∀ e ∈ o.after, Region.binds .any e = true → l.getD e.on false = true) (hI : OnWay ops20 a0 w0 G20 l a w)
  (K : Act → World → Prop) (hK : ∀ v w', Below w.heap.size w w' → G20 18 v w' → K (a.put o.dst v) w') : o.wp Tryz.prog a w K Q := by
 have ho := op_of hi (x := .buildSlice 41 1 #[(0, .tmp 310)]) (by kernel_rfl)
 have v17 : a.tmps.getD 310 undef = _ := val20 hi hd hI 17 (by decide) (by kernel_rfl)
 obtain ⟨w1, h1, h2, h3⟩ := rowK w [keyN 1] 1 rfl (by decide) (by decide)
 exact wp_value (exec_bslice 41 1 _ o ho a _ (by simp only [List.map_toArray, List.map_cons, List.map_nil]; show #[(0, a.tmps.getD 310 undef)] = _; rw [v17]; rfl) _ h1) (hK _ _ h2 h3)
set_option maxHeartbeats 8000000 in
set_option maxRecDepth 100000 in
theorem op20_19 {Q : Exit → Act → World → Prop} (tp : Nat) (a0 : Act) (w0 : World) (h13 : a0.tmps[13]? = some (.pointer (some ⟨tp, 0, none⟩))) (hone : w0.heap[tp]? = some (.cells (encD devOne).toArray 46 (0, 0)))
  (o : Oper) (l : Array Bool) (a : Act) (w : World) (hi : ops20[19]? = some o) (hd : ∀ e ∈ o.after, Region.binds .any e = true → l.getD e.on false = true) (hI : OnWay ops20 a0 w0 G20 l a w)
  (K : Act → World → Prop) (hK : ∀ v w', Below w.heap.size w w' → G20 19 v w' → K (a.put o.dst v) w') : o.wp Tryz.prog a w K Q := by
 have ho := op_of hi (x := .build 43 #[(2, .tmp 309), (3, .tmp 311)]) (by kernel_rfl)
 obtain ⟨A, c, hv, hs, hb⟩ := (show GD [devOne] _ _ from val20 hi hd hI 16 (by decide) (by kernel_rfl))
 obtain ⟨A2, c2, hv2, hs2⟩ := (show GK [keyN 1] _ _ from val20 hi hd hI 18 (by decide) (by kernel_rfl))
 exact wp_value (exec_build 43 _ o ho a #[(2, .slice A 1 c), (3, .slice A2 1 c2)] (by simp only [List.map_toArray, List.map_cons, List.map_nil]; show #[(2, a.tmps.getD 309 undef), (3, a.tmps.getD 311 undef)] = _; rw [hv, hv2]; rfl) _ (book_b23 w [devOne] 1 rfl A c [keyN 1] 1 rfl A2 c2)) (hK _ _ (Below.refl _ _) (GB.ofDK [devOne] (by decide) A c hs hb [keyN 1] (by decide) A2 c2 hs2))
set_option maxHeartbeats 8000000 in
set_option maxRecDepth 100000 in
theorem op20_20 {Q : Exit → Act → World → Prop} (tp : Nat) (a0 : Act) (w0 : World) (h13 : a0.tmps[13]? = some (.pointer (some ⟨tp, 0, none⟩))) (hone : w0.heap[tp]? = some (.cells (encD devOne).toArray 46 (0, 0)))
  (o : Oper) (l : Array Bool) (a : Act) (w : World) (hi : ops20[20]? = some o) (hd : ∀ e ∈ o.after, Region.binds .any e = true → l.getD e.on false = true) (hI : OnWay ops20 a0 w0 G20 l a w)
  (K : Act → World → Prop) (hK : ∀ v w', Below w.heap.size w w' → G20 20 v w' → K (a.put o.dst v) w') : o.wp Tryz.prog a w K Q := by
 have ho := op_of hi (x := .load 46 (.tmp 13)) (by kernel_rfl)
 have hp : a.tmps.getD 13 undef = .pointer (some ⟨tp, 0, none⟩) := by rw [Array.getD_eq_getD_getElem?, hI.frame 13 (fun i o ho => by rw [(ops20_one ho).2.1]; intro e; have := Option.some.inj e; omega), h13]; rfl
 exact wp_value (yields_load 46 (.tmp 13) o ho a _ hp _ (run_loadAtK Tryz.prog w 46 35 Tryz.isAgg46 Tryz.sizeOf46 tp 0 (encD devOne) (encD_len _) (cells_of_heap (room_at_fr hone hI.fr)))) (hK _ _ (Below.refl _ _) rfl)
set_option maxHeartbeats 8000000 in
set_option maxRecDepth 100000 in
theorem op20_21 {Q : Exit → Act → World → Prop} (tp : Nat) (a0 : Act) (w0 : World) (h13 : a0.tmps[13]? = some (.pointer (some ⟨tp, 0, none⟩))) (hone : w0.heap[tp]? = some (.cells (encD devOne).toArray 46 (0, 0)))
  (o : Oper) (l : Array Bool) (a : Act) (w : World) (hi : ops20[21]? = some o) (hd : ∀ e ∈ o.after, Region.binds .any e = true → l.getD e.on false = true) (hI : OnWay ops20 a0 w0 G20 l a w)
  (K : Act → World → Prop) (hK : ∀ v w', Below w.heap.size w w' → G20 21 v w' → K (a.put o.dst v) w') : o.wp Tryz.prog a w K Q := by
 have ho := op_of hi (x := .call { callee := .value (.func 18), args := #[.const (.int .i64 1)], argTypes := #[3] }) (by kernel_rfl)
 exact wp_goes Tryz.func18 (by kernel_rfl) rfl #[.int .i64 1] ho (ops20_one hi).2.2.1 (by simp only [List.map_toArray, List.map_cons, List.map_nil]; rfl) ((key_any 1 (by decide) w).mono fun e w1 ⟨he, hb⟩ => ⟨_, he, hK _ _ hb rfl⟩)
set_option maxHeartbeats 8000000 in
set_option maxRecDepth 100000 in
theorem op20_22 {Q : Exit → Act → World → Prop} (tp : Nat) (a0 : Act) (w0 : World) (h13 : a0.tmps[13]? = some (.pointer (some ⟨tp, 0, none⟩))) (hone : w0.heap[tp]? = some (.cells (encD devOne).toArray 46 (0, 0)))
  (o : Oper) (l : Array Bool) (a : Act) (w : World) (hi : ops20[22]? = some o) (hd : ∀ e ∈ o.after, Region.binds .any e = true → l.getD e.on false = true) (hI : OnWay ops20 a0 w0 G20 l a w)
  (K : Act → World → Prop) (hK : ∀ v w', Below w.heap.size w w' → G20 22 v w' → K (a.put o.dst v) w') : o.wp Tryz.prog a w K Q := by
 have ho := op_of hi (x := .build 46 #[(0, .const (.int .i64 2)), (1, .tmp 314), (2, .const (.int .i64 1))]) (by kernel_rfl)
 have v21 : a.tmps.getD 314 undef = _ := val20 hi hd hI 21 (by decide) (by kernel_rfl)
 exact wp_value (exec_build 46 _ o ho a #[(0, .int .i64 2), (1, .agg (encK (keyN 1)).toArray), (2, .int .i64 1)] (by simp only [List.map_toArray, List.map_cons, List.map_nil]; show #[(0, Value.int .i64 2), (1, a.tmps.getD 314 undef), (2, Value.int .i64 1)] = _; rw [v21]) _ (run_buildDev w 2 1 (keyN 1))) (hK _ _ (Below.refl _ _) rfl)
set_option maxHeartbeats 8000000 in
set_option maxRecDepth 100000 in
theorem op20_23 {Q : Exit → Act → World → Prop} (tp : Nat) (a0 : Act) (w0 : World) (h13 : a0.tmps[13]? = some (.pointer (some ⟨tp, 0, none⟩))) (hone : w0.heap[tp]? = some (.cells (encD devOne).toArray 46 (0, 0)))
  (o : Oper) (l : Array Bool) (a : Act) (w : World) (hi : ops20[23]? = some o) (hd : ∀ e ∈ o.after, Region.binds .any e = true → l.getD e.on false = true) (hI : OnWay ops20 a0 w0 G20 l a w)
  (K : Act → World → Prop) (hK : ∀ v w', Below w.heap.size w w' → G20 23 v w' → K (a.put o.dst v) w') : o.wp Tryz.prog a w K Q := by
 have ho := op_of hi (x := .buildSlice 40 2 #[(0, .tmp 313), (1, .tmp 315)]) (by kernel_rfl)
 have v20 : a.tmps.getD 313 undef = _ := val20 hi hd hI 20 (by decide) (by kernel_rfl)
 have v22 : a.tmps.getD 315 undef = _ := val20 hi hd hI 22 (by decide) (by kernel_rfl)
 obtain ⟨w1, h1, h2, h3⟩ := rowD w [devOne, ⟨2, keyN 1, 1, false⟩] 2 rfl (by decide) (by decide)
 exact wp_value (exec_bslice 40 2 _ o ho a _ (by simp only [List.map_toArray, List.map_cons, List.map_nil]; show #[(0, a.tmps.getD 313 undef), (1, a.tmps.getD 315 undef)] = _; rw [v20, v22]; rfl) _ h1) (hK _ _ h2 h3)
set_option maxHeartbeats 8000000 in
set_option maxRecDepth 100000 in
theorem op20_24 {Q : Exit → Act → World → Prop} (tp : Nat) (a0 : Act) (w0 : World) (h13 : a0.tmps[13]? = some (.pointer (some ⟨tp, 0, none⟩))) (hone : w0.heap[tp]? = some (.cells (encD devOne).toArray 46 (0, 0)))
  (o : Oper) (l : Array Bool) (a : Act) (w : World) (hi : ops20[24]? = some o) (hd : ∀ e ∈ o.after, Region.binds .any e = true → l.getD e.on false = true) (hI : OnWay ops20 a0 w0 G20 l a w)
  (K : Act → World → Prop) (hK : ∀ v w', Below w.heap.size w w' → G20 24 v w' → K (a.put o.dst v) w') : o.wp Tryz.prog a w K Q := by
 have ho := op_of hi (x := .build 43 #[(2, .tmp 316)]) (by kernel_rfl)
 obtain ⟨A, c, hv, hs, hb⟩ := (show GD [devOne, ⟨2, keyN 1, 1, false⟩] _ _ from val20 hi hd hI 23 (by decide) (by kernel_rfl))
 exact wp_value (exec_build 43 _ o ho a #[(2, .slice A 2 c)] (by simp only [List.map_toArray, List.map_cons, List.map_nil]; show #[(2, a.tmps.getD 316 undef)] = _; rw [hv]; rfl) _ (book_b2 w [devOne, ⟨2, keyN 1, 1, false⟩] 2 rfl A c)) (hK _ _ (Below.refl _ _) (GB.ofD [devOne, ⟨2, keyN 1, 1, false⟩] (by decide) A c hs hb))
set_option maxHeartbeats 8000000 in
set_option maxRecDepth 100000 in
theorem op20_25 {Q : Exit → Act → World → Prop} (tp : Nat) (a0 : Act) (w0 : World) (h13 : a0.tmps[13]? = some (.pointer (some ⟨tp, 0, none⟩))) (hone : w0.heap[tp]? = some (.cells (encD devOne).toArray 46 (0, 0)))
  (o : Oper) (l : Array Bool) (a : Act) (w : World) (hi : ops20[25]? = some o) (hd : ∀ e ∈ o.after, Region.binds .any e = true → l.getD e.on false = true) (hI : OnWay ops20 a0 w0 G20 l a w)
  (K : Act → World → Prop) (hK : ∀ v w', Below w.heap.size w w' → G20 25 v w' → K (a.put o.dst v) w') : o.wp Tryz.prog a w K Q := by
 have ho := op_of hi (x := .load 46 (.tmp 13)) (by kernel_rfl)
 have hp : a.tmps.getD 13 undef = .pointer (some ⟨tp, 0, none⟩) := by rw [Array.getD_eq_getD_getElem?, hI.frame 13 (fun i o ho => by rw [(ops20_one ho).2.1]; intro e; have := Option.some.inj e; omega), h13]; rfl
 exact wp_value (yields_load 46 (.tmp 13) o ho a _ hp _ (run_loadAtK Tryz.prog w 46 35 Tryz.isAgg46 Tryz.sizeOf46 tp 0 (encD devOne) (encD_len _) (cells_of_heap (room_at_fr hone hI.fr)))) (hK _ _ (Below.refl _ _) rfl)
set_option maxHeartbeats 8000000 in
set_option maxRecDepth 100000 in
theorem op20_26 {Q : Exit → Act → World → Prop} (tp : Nat) (a0 : Act) (w0 : World) (h13 : a0.tmps[13]? = some (.pointer (some ⟨tp, 0, none⟩))) (hone : w0.heap[tp]? = some (.cells (encD devOne).toArray 46 (0, 0)))
  (o : Oper) (l : Array Bool) (a : Act) (w : World) (hi : ops20[26]? = some o) (hd : ∀ e ∈ o.after, Region.binds .any e = true → l.getD e.on false = true) (hI : OnWay ops20 a0 w0 G20 l a w)
  (K : Act → World → Prop) (hK : ∀ v w', Below w.heap.size w w' → G20 26 v w' → K (a.put o.dst v) w') : o.wp Tryz.prog a w K Q := by
 have ho := op_of hi (x := .call { callee := .value (.func 18), args := #[.const (.int .i64 2)], argTypes := #[3] }) (by kernel_rfl)
 exact wp_goes Tryz.func18 (by kernel_rfl) rfl #[.int .i64 2] ho (ops20_one hi).2.2.1 (by simp only [List.map_toArray, List.map_cons, List.map_nil]; rfl) ((key_any 2 (by decide) w).mono fun e w1 ⟨he, hb⟩ => ⟨_, he, hK _ _ hb rfl⟩)
set_option maxHeartbeats 8000000 in
set_option maxRecDepth 100000 in
theorem op20_27 {Q : Exit → Act → World → Prop} (tp : Nat) (a0 : Act) (w0 : World) (h13 : a0.tmps[13]? = some (.pointer (some ⟨tp, 0, none⟩))) (hone : w0.heap[tp]? = some (.cells (encD devOne).toArray 46 (0, 0)))
  (o : Oper) (l : Array Bool) (a : Act) (w : World) (hi : ops20[27]? = some o) (hd : ∀ e ∈ o.after, Region.binds .any e = true → l.getD e.on false = true) (hI : OnWay ops20 a0 w0 G20 l a w)
  (K : Act → World → Prop) (hK : ∀ v w', Below w.heap.size w w' → G20 27 v w' → K (a.put o.dst v) w') : o.wp Tryz.prog a w K Q := by
 have ho := op_of hi (x := .build 46 #[(0, .const (.int .i64 1)), (1, .tmp 319), (2, .const (.int .i64 1))]) (by kernel_rfl)
 have v26 : a.tmps.getD 319 undef = _ := val20 hi hd hI 26 (by decide) (by kernel_rfl)
 exact wp_value (exec_build 46 _ o ho a #[(0, .int .i64 1), (1, .agg (encK (keyN 2)).toArray), (2, .int .i64 1)] (by simp only [List.map_toArray, List.map_cons, List.map_nil]; show #[(0, Value.int .i64 1), (1, a.tmps.getD 319 undef), (2, Value.int .i64 1)] = _; rw [v26]) _ (run_buildDev w 1 1 (keyN 2))) (hK _ _ (Below.refl _ _) rfl)
set_option maxHeartbeats 8000000 in
set_option maxRecDepth 100000 in
theorem op20_28 {Q : Exit → Act → World → Prop} (tp : Nat) (a0 : Act) (w0 : World) (h13 : a0.tmps[13]? = some (.pointer (some ⟨tp, 0, none⟩))) (hone : w0.heap[tp]? = some (.cells (encD devOne).toArray 46 (0, 0)))
  (o : Oper) (l : Array Bool) (a : Act) (w : World) (hi : ops20[28]? = some o) (hd : ∀ e ∈ o.after, Region.binds .any e = true → l.getD e.on false = true) (hI : OnWay ops20 a0 w0 G20 l a w)
  (K : Act → World → Prop) (hK : ∀ v w', Below w.heap.size w w' → G20 28 v w' → K (a.put o.dst v) w') : o.wp Tryz.prog a w K Q := by
 have ho := op_of hi (x := .buildSlice 40 2 #[(0, .tmp 318), (1, .tmp 320)]) (by kernel_rfl)
 have v25 : a.tmps.getD 318 undef = _ := val20 hi hd hI 25 (by decide) (by kernel_rfl)
 have v27 : a.tmps.getD 320 undef = _ := val20 hi hd hI 27 (by decide) (by kernel_rfl)
 obtain ⟨w1, h1, h2, h3⟩ := rowD w [devOne, ⟨1, keyN 2, 1, false⟩] 2 rfl (by decide) (by decide)
 exact wp_value (exec_bslice 40 2 _ o ho a _ (by simp only [List.map_toArray, List.map_cons, List.map_nil]; show #[(0, a.tmps.getD 318 undef), (1, a.tmps.getD 320 undef)] = _; rw [v25, v27]; rfl) _ h1) (hK _ _ h2 h3)
set_option maxHeartbeats 8000000 in
set_option maxRecDepth 100000 in
theorem op20_29 {Q : Exit → Act → World → Prop} (tp : Nat) (a0 : Act) (w0 : World) (h13 : a0.tmps[13]? = some (.pointer (some ⟨tp, 0, none⟩))) (hone : w0.heap[tp]? = some (.cells (encD devOne).toArray 46 (0, 0)))
  (o : Oper) (l : Array Bool) (a : Act) (w : World) (hi : ops20[29]? = some o) (hd : ∀ e ∈ o.after, Region.binds .any e = true → l.getD e.on false = true) (hI : OnWay ops20 a0 w0 G20 l a w)
  (K : Act → World → Prop) (hK : ∀ v w', Below w.heap.size w w' → G20 29 v w' → K (a.put o.dst v) w') : o.wp Tryz.prog a w K Q := by
 have ho := op_of hi (x := .build 43 #[(2, .tmp 321)]) (by kernel_rfl)
 obtain ⟨A, c, hv, hs, hb⟩ := (show GD [devOne, ⟨1, keyN 2, 1, false⟩] _ _ from val20 hi hd hI 28 (by decide) (by kernel_rfl))
 exact wp_value (exec_build 43 _ o ho a #[(2, .slice A 2 c)] (by simp only [List.map_toArray, List.map_cons, List.map_nil]; show #[(2, a.tmps.getD 321 undef)] = _; rw [hv]; rfl) _ (book_b2 w [devOne, ⟨1, keyN 2, 1, false⟩] 2 rfl A c)) (hK _ _ (Below.refl _ _) (GB.ofD [devOne, ⟨1, keyN 2, 1, false⟩] (by decide) A c hs hb))
set_option maxHeartbeats 8000000 in
set_option maxRecDepth 100000 in
theorem op20_30 {Q : Exit → Act → World → Prop} (tp : Nat) (a0 : Act) (w0 : World) (h13 : a0.tmps[13]? = some (.pointer (some ⟨tp, 0, none⟩))) (hone : w0.heap[tp]? = some (.cells (encD devOne).toArray 46 (0, 0)))
  (o : Oper) (l : Array Bool) (a : Act) (w : World) (hi : ops20[30]? = some o) (hd : ∀ e ∈ o.after, Region.binds .any e = true → l.getD e.on false = true) (hI : OnWay ops20 a0 w0 G20 l a w)
  (K : Act → World → Prop) (hK : ∀ v w', Below w.heap.size w w' → G20 30 v w' → K (a.put o.dst v) w') : o.wp Tryz.prog a w K Q := by
 have ho := op_of hi (x := .call { callee := .value (.func 18), args := #[.const (.int .i64 1)], argTypes := #[3] }) (by kernel_rfl)
 exact wp_goes Tryz.func18 (by kernel_rfl) rfl #[.int .i64 1] ho (ops20_one hi).2.2.1 (by simp only [List.map_toArray, List.map_cons, List.map_nil]; rfl) ((key_any 1 (by decide) w).mono fun e w1 ⟨he, hb⟩ => ⟨_, he, hK _ _ hb rfl⟩)
set_option maxHeartbeats 8000000 in
set_option maxRecDepth 100000 in
theorem op20_31 {Q : Exit → Act → World → Prop} (tp : Nat) (a0 : Act) (w0 : World) (h13 : a0.tmps[13]? = some (.pointer (some ⟨tp, 0, none⟩))) (hone : w0.heap[tp]? = some (.cells (encD devOne).toArray 46 (0, 0)))
  (o : Oper) (l : Array Bool) (a : Act) (w : World) (hi : ops20[31]? = some o) (hd : ∀ e ∈ o.after, Region.binds .any e = true → l.getD e.on false = true) (hI : OnWay ops20 a0 w0 G20 l a w)
  (K : Act → World → Prop) (hK : ∀ v w', Below w.heap.size w w' → G20 31 v w' → K (a.put o.dst v) w') : o.wp Tryz.prog a w K Q := by
 have ho := op_of hi (x := .build 46 #[(0, .const (.int .i64 9)), (1, .tmp 323), (2, .const (.int .i64 1))]) (by kernel_rfl)
 have v30 : a.tmps.getD 323 undef = _ := val20 hi hd hI 30 (by decide) (by kernel_rfl)
 exact wp_value (exec_build 46 _ o ho a #[(0, .int .i64 9), (1, .agg (encK (keyN 1)).toArray), (2, .int .i64 1)] (by simp only [List.map_toArray, List.map_cons, List.map_nil]; show #[(0, Value.int .i64 9), (1, a.tmps.getD 323 undef), (2, Value.int .i64 1)] = _; rw [v30]) _ (run_buildDev w 9 1 (keyN 1))) (hK _ _ (Below.refl _ _) rfl)
set_option maxHeartbeats 8000000 in
set_option maxRecDepth 100000 in
theorem op20_32 {Q : Exit → Act → World → Prop} (tp : Nat) (a0 : Act) (w0 : World) (h13 : a0.tmps[13]? = some (.pointer (some ⟨tp, 0, none⟩))) (hone : w0.heap[tp]? = some (.cells (encD devOne).toArray 46 (0, 0)))
  (o : Oper) (l : Array Bool) (a : Act) (w : World) (hi : ops20[32]? = some o) (hd : ∀ e ∈ o.after, Region.binds .any e = true → l.getD e.on false = true) (hI : OnWay ops20 a0 w0 G20 l a w)
  (K : Act → World → Prop) (hK : ∀ v w', Below w.heap.size w w' → G20 32 v w' → K (a.put o.dst v) w') : o.wp Tryz.prog a w K Q := by
 have ho := op_of hi (x := .buildSlice 40 1 #[(0, .tmp 324)]) (by kernel_rfl)
 have v31 : a.tmps.getD 324 undef = _ := val20 hi hd hI 31 (by decide) (by kernel_rfl)
 obtain ⟨w1, h1, h2, h3⟩ := rowD w [⟨9, keyN 1, 1, false⟩] 1 rfl (by decide) (by decide)
 exact wp_value (exec_bslice 40 1 _ o ho a _ (by simp only [List.map_toArray, List.map_cons, List.map_nil]; show #[(0, a.tmps.getD 324 undef)] = _; rw [v31]; rfl) _ h1) (hK _ _ h2 h3)
set_option maxHeartbeats 8000000 in
set_option maxRecDepth 100000 in
theorem op20_33 {Q : Exit → Act → World → Prop} (tp : Nat) (a0 : Act) (w0 : World) (h13 : a0.tmps[13]? = some (.pointer (some ⟨tp, 0, none⟩))) (hone : w0.heap[tp]? = some (.cells (encD devOne).toArray 46 (0, 0)))
  (o : Oper) (l : Array Bool) (a : Act) (w : World) (hi : ops20[33]? = some o) (hd : ∀ e ∈ o.after, Region.binds .any e = true → l.getD e.on false = true) (hI : OnWay ops20 a0 w0 G20 l a w)
  (K : Act → World → Prop) (hK : ∀ v w', Below w.heap.size w w' → G20 33 v w' → K (a.put o.dst v) w') : o.wp Tryz.prog a w K Q := by
 have ho := op_of hi (x := .build 43 #[(2, .tmp 325)]) (by kernel_rfl)
 obtain ⟨A, c, hv, hs, hb⟩ := (show GD [⟨9, keyN 1, 1, false⟩] _ _ from val20 hi hd hI 32 (by decide) (by kernel_rfl))
 exact wp_value (exec_build 43 _ o ho a #[(2, .slice A 1 c)] (by simp only [List.map_toArray, List.map_cons, List.map_nil]; show #[(2, a.tmps.getD 325 undef)] = _; rw [hv]; rfl) _ (book_b2 w [⟨9, keyN 1, 1, false⟩] 1 rfl A c)) (hK _ _ (Below.refl _ _) (GB.ofD [⟨9, keyN 1, 1, false⟩] (by decide) A c hs hb))
set_option maxHeartbeats 8000000 in
set_option maxRecDepth 100000 in
theorem op20_34 {Q : Exit → Act → World → Prop} (tp : Nat) (a0 : Act) (w0 : World) (h13 : a0.tmps[13]? = some (.pointer (some ⟨tp, 0, none⟩))) (hone : w0.heap[tp]? = some (.cells (encD devOne).toArray 46 (0, 0)))
  (o : Oper) (l : Array Bool) (a : Act) (w : World) (hi : ops20[34]? = some o) (hd : ∀ e ∈ o.after, Region.binds .any e = true → l.getD e.on false = true) (hI : OnWay ops20 a0 w0 G20 l a w)
  (K : Act → World → Prop) (hK : ∀ v w', Below w.heap.size w w' → G20 34 v w' → K (a.put o.dst v) w') : o.wp Tryz.prog a w K Q := by
 have ho := op_of hi (x := .build 46 #[(0, .const (.int .i64 1)), (2, .const (.int .i64 1))]) (by kernel_rfl)
 exact wp_value (exec_build 46 _ o ho a #[(0, .int .i64 1), (2, .int .i64 1)] (by simp only [List.map_toArray, List.map_cons, List.map_nil]; rfl) _ (dev_b02 w 1 1)) (hK _ _ (Below.refl _ _) rfl)
set_option maxHeartbeats 8000000 in
set_option maxRecDepth 100000 in
theorem op20_35 {Q : Exit → Act → World → Prop} (tp : Nat) (a0 : Act) (w0 : World) (h13 : a0.tmps[13]? = some (.pointer (some ⟨tp, 0, none⟩))) (hone : w0.heap[tp]? = some (.cells (encD devOne).toArray 46 (0, 0)))
  (o : Oper) (l : Array Bool) (a : Act) (w : World) (hi : ops20[35]? = some o) (hd : ∀ e ∈ o.after, Region.binds .any e = true → l.getD e.on false = true) (hI : OnWay ops20 a0 w0 G20 l a w)
  (K : Act → World → Prop) (hK : ∀ v w', Below w.heap.size w w' → G20 35 v w' → K (a.put o.dst v) w') : o.wp Tryz.prog a w K Q := by
 have ho := op_of hi (x := .buildSlice 40 1 #[(0, .tmp 327)]) (by kernel_rfl)
 have v34 : a.tmps.getD 327 undef = _ := val20 hi hd hI 34 (by decide) (by kernel_rfl)
 obtain ⟨w1, h1, h2, h3⟩ := rowD w [⟨1, key0, 1, false⟩] 1 rfl (by decide) (by decide)
 exact wp_value (exec_bslice 40 1 _ o ho a _ (by simp only [List.map_toArray, List.map_cons, List.map_nil]; show #[(0, a.tmps.getD 327 undef)] = _; rw [v34]; rfl) _ h1) (hK _ _ h2 h3)
set_option maxHeartbeats 8000000 in
set_option maxRecDepth 100000 in
theorem op20_36 {Q : Exit → Act → World → Prop} (tp : Nat) (a0 : Act) (w0 : World) (h13 : a0.tmps[13]? = some (.pointer (some ⟨tp, 0, none⟩))) (hone : w0.heap[tp]? = some (.cells (encD devOne).toArray 46 (0, 0)))
  (o : Oper) (l : Array Bool) (a : Act) (w : World) (hi : ops20[36]? = some o) (hd : ∀ e ∈ o.after, Region.binds .any e = true → l.getD e.on false = true) (hI : OnWay ops20 a0 w0 G20 l a w)
  (K : Act → World → Prop) (hK : ∀ v w', Below w.heap.size w w' → G20 36 v w' → K (a.put o.dst v) w') : o.wp Tryz.prog a w K Q := by
 have ho := op_of hi (x := .build 43 #[(2, .tmp 328)]) (by kernel_rfl)
 obtain ⟨A, c, hv, hs, hb⟩ := (show GD [⟨1, key0, 1, false⟩] _ _ from val20 hi hd hI 35 (by decide) (by kernel_rfl))
 exact wp_value (exec_build 43 _ o ho a #[(2, .slice A 1 c)] (by simp only [List.map_toArray, List.map_cons, List.map_nil]; show #[(2, a.tmps.getD 328 undef)] = _; rw [hv]; rfl) _ (book_b2 w [⟨1, key0, 1, false⟩] 1 rfl A c)) (hK _ _ (Below.refl _ _) (GB.ofD [⟨1, key0, 1, false⟩] (by decide) A c hs hb))
set_option maxHeartbeats 8000000 in
set_option maxRecDepth 100000 in
theorem op20_37 {Q : Exit → Act → World → Prop} (tp : Nat) (a0 : Act) (w0 : World) (h13 : a0.tmps[13]? = some (.pointer (some ⟨tp, 0, none⟩))) (hone : w0.heap[tp]? = some (.cells (encD devOne).toArray 46 (0, 0)))
  (o : Oper) (l : Array Bool) (a : Act) (w : World) (hi : ops20[37]? = some o) (hd : ∀ e ∈ o.after, Region.binds .any e = true → l.getD e.on false = true) (hI : OnWay ops20 a0 w0 G20 l a w)
  (K : Act → World → Prop) (hK : ∀ v w', Below w.heap.size w w' → G20 37 v w' → K (a.put o.dst v) w') : o.wp Tryz.prog a w K Q := by
 have ho := op_of hi (x := .call { callee := .value (.func 18), args := #[.const (.int .i64 1)], argTypes := #[3] }) (by kernel_rfl)
 exact wp_goes Tryz.func18 (by kernel_rfl) rfl #[.int .i64 1] ho (ops20_one hi).2.2.1 (by simp only [List.map_toArray, List.map_cons, List.map_nil]; rfl) ((key_any 1 (by decide) w).mono fun e w1 ⟨he, hb⟩ => ⟨_, he, hK _ _ hb rfl⟩)
set_option maxHeartbeats 8000000 in
set_option maxRecDepth 100000 in
theorem op20_38 {Q : Exit → Act → World → Prop} (tp : Nat) (a0 : Act) (w0 : World) (h13 : a0.tmps[13]? = some (.pointer (some ⟨tp, 0, none⟩))) (hone : w0.heap[tp]? = some (.cells (encD devOne).toArray 46 (0, 0)))
  (o : Oper) (l : Array Bool) (a : Act) (w : World) (hi : ops20[38]? = some o) (hd : ∀ e ∈ o.after, Region.binds .any e = true → l.getD e.on false = true) (hI : OnWay ops20 a0 w0 G20 l a w)
  (K : Act → World → Prop) (hK : ∀ v w', Below w.heap.size w w' → G20 38 v w' → K (a.put o.dst v) w') : o.wp Tryz.prog a w K Q := by
 have ho := op_of hi (x := .build 46 #[(0, .const (.int .i64 1)), (1, .tmp 330)]) (by kernel_rfl)
 have v37 : a.tmps.getD 330 undef = _ := val20 hi hd hI 37 (by decide) (by kernel_rfl)
 exact wp_value (exec_build 46 _ o ho a #[(0, .int .i64 1), (1, .agg (encK (keyN 1)).toArray)] (by simp only [List.map_toArray, List.map_cons, List.map_nil]; show #[(0, Value.int .i64 1), (1, a.tmps.getD 330 undef)] = _; rw [v37]) _ (dev_b01 w 1 (keyN 1))) (hK _ _ (Below.refl _ _) rfl)
set_option maxHeartbeats 8000000 in
set_option maxRecDepth 100000 in
theorem op20_39 {Q : Exit → Act → World → Prop} (tp : Nat) (a0 : Act) (w0 : World) (h13 : a0.tmps[13]? = some (.pointer (some ⟨tp, 0, none⟩))) (hone : w0.heap[tp]? = some (.cells (encD devOne).toArray 46 (0, 0)))
  (o : Oper) (l : Array Bool) (a : Act) (w : World) (hi : ops20[39]? = some o) (hd : ∀ e ∈ o.after, Region.binds .any e = true → l.getD e.on false = true) (hI : OnWay ops20 a0 w0 G20 l a w)
  (K : Act → World → Prop) (hK : ∀ v w', Below w.heap.size w w' → G20 39 v w' → K (a.put o.dst v) w') : o.wp Tryz.prog a w K Q := by
 have ho := op_of hi (x := .buildSlice 40 1 #[(0, .tmp 331)]) (by kernel_rfl)
 have v38 : a.tmps.getD 331 undef = _ := val20 hi hd hI 38 (by decide) (by kernel_rfl)
 obtain ⟨w1, h1, h2, h3⟩ := rowD w [⟨1, keyN 1, 0, false⟩] 1 rfl (by decide) (by decide)
 exact wp_value (exec_bslice 40 1 _ o ho a _ (by simp only [List.map_toArray, List.map_cons, List.map_nil]; show #[(0, a.tmps.getD 331 undef)] = _; rw [v38]; rfl) _ h1) (hK _ _ h2 h3)
set_option maxHeartbeats 8000000 in
set_option maxRecDepth 100000 in
theorem op20_40 {Q : Exit → Act → World → Prop} (tp : Nat) (a0 : Act) (w0 : World) (h13 : a0.tmps[13]? = some (.pointer (some ⟨tp, 0, none⟩))) (hone : w0.heap[tp]? = some (.cells (encD devOne).toArray 46 (0, 0)))
  (o : Oper) (l : Array Bool) (a : Act) (w : World) (hi : ops20[40]? = some o) (hd : ∀ e ∈ o.after, Region.binds .any e = true → l.getD e.on false = true) (hI : OnWay ops20 a0 w0 G20 l a w)
  (K : Act → World → Prop) (hK : ∀ v w', Below w.heap.size w w' → G20 40 v w' → K (a.put o.dst v) w') : o.wp Tryz.prog a w K Q := by
 have ho := op_of hi (x := .build 43 #[(2, .tmp 332)]) (by kernel_rfl)
 obtain ⟨A, c, hv, hs, hb⟩ := (show GD [⟨1, keyN 1, 0, false⟩] _ _ from val20 hi hd hI 39 (by decide) (by kernel_rfl))
 exact wp_value (exec_build 43 _ o ho a #[(2, .slice A 1 c)] (by simp only [List.map_toArray, List.map_cons, List.map_nil]; show #[(2, a.tmps.getD 332 undef)] = _; rw [hv]; rfl) _ (book_b2 w [⟨1, keyN 1, 0, false⟩] 1 rfl A c)) (hK _ _ (Below.refl _ _) (GB.ofD [⟨1, keyN 1, 0, false⟩] (by decide) A c hs hb))
set_option maxHeartbeats 8000000 in
set_option maxRecDepth 100000 in
theorem op20_41 {Q : Exit → Act → World → Prop} (tp : Nat) (a0 : Act) (w0 : World) (h13 : a0.tmps[13]? = some (.pointer (some ⟨tp, 0, none⟩))) (hone : w0.heap[tp]? = some (.cells (encD devOne).toArray 46 (0, 0)))
  (o : Oper) (l : Array Bool) (a : Act) (w : World) (hi : ops20[41]? = some o) (hd : ∀ e ∈ o.after, Region.binds .any e = true → l.getD e.on false = true) (hI : OnWay ops20 a0 w0 G20 l a w)
  (K : Act → World → Prop) (hK : ∀ v w', Below w.heap.size w w' → G20 41 v w' → K (a.put o.dst v) w') : o.wp Tryz.prog a w K Q := by
 have ho := op_of hi (x := .makeSlice 40 (.const (.int .i64 9)) (.const (.int .i64 9))) (by kernel_rfl)
 obtain ⟨w1, h1, h2, h3⟩ := madeD w
 exact wp_value (exec_make 40 _ _ o ho a _ _ rfl rfl _ h1) (hK _ _ h2 h3)
set_option maxHeartbeats 8000000 in
set_option maxRecDepth 100000 in
theorem op20_42 {Q : Exit → Act → World → Prop} (tp : Nat) (a0 : Act) (w0 : World) (h13 : a0.tmps[13]? = some (.pointer (some ⟨tp, 0, none⟩))) (hone : w0.heap[tp]? = some (.cells (encD devOne).toArray 46 (0, 0)))
  (o : Oper) (l : Array Bool) (a : Act) (w : World) (hi : ops20[42]? = some o) (hd : ∀ e ∈ o.after, Region.binds .any e = true → l.getD e.on false = true) (hI : OnWay ops20 a0 w0 G20 l a w)
  (K : Act → World → Prop) (hK : ∀ v w', Below w.heap.size w w' → G20 42 v w' → K (a.put o.dst v) w') : o.wp Tryz.prog a w K Q := by
 have ho := op_of hi (x := .build 43 #[(2, .tmp 334)]) (by kernel_rfl)
 obtain ⟨A, c, hv, hs, hb⟩ := (show GD (List.replicate 9 dev0) _ _ from val20 hi hd hI 41 (by decide) (by kernel_rfl))
 exact wp_value (exec_build 43 _ o ho a #[(2, .slice A 9 c)] (by simp only [List.map_toArray, List.map_cons, List.map_nil]; show #[(2, a.tmps.getD 334 undef)] = _; rw [hv]; rfl) _ (book_b2 w (List.replicate 9 dev0) 9 rfl A c)) (hK _ _ (Below.refl _ _) (GB.ofD (List.replicate 9 dev0) (by decide) A c hs hb))
set_option maxHeartbeats 8000000 in
set_option maxRecDepth 100000 in
theorem op20_43 {Q : Exit → Act → World → Prop} (tp : Nat) (a0 : Act) (w0 : World) (h13 : a0.tmps[13]? = some (.pointer (some ⟨tp, 0, none⟩))) (hone : w0.heap[tp]? = some (.cells (encD devOne).toArray 46 (0, 0)))
  (o : Oper) (l : Array Bool) (a : Act) (w : World) (hi : ops20[43]? = some o) (hd : ∀ e ∈ o.after, Region.binds .any e = true → l.getD e.on false = true) (hI : OnWay ops20 a0 w0 G20 l a w)
  (K : Act → World → Prop) (hK : ∀ v w', Below w.heap.size w w' → G20 43 v w' → K (a.put o.dst v) w') : o.wp Tryz.prog a w K Q := by
 have ho := op_of hi (x := .makeSlice 41 (.const (.int .i64 65)) (.const (.int .i64 65))) (by kernel_rfl)
 obtain ⟨w1, h1, h2, h3⟩ := madeK w 65 (by decide) (by decide)
 exact wp_value (exec_make 41 _ _ o ho a _ _ rfl rfl _ h1) (hK _ _ h2 h3)
set_option maxHeartbeats 8000000 in
set_option maxRecDepth 100000 in
theorem op20_44 {Q : Exit → Act → World → Prop} (tp : Nat) (a0 : Act) (w0 : World) (h13 : a0.tmps[13]? = some (.pointer (some ⟨tp, 0, none⟩))) (hone : w0.heap[tp]? = some (.cells (encD devOne).toArray 46 (0, 0)))
  (o : Oper) (l : Array Bool) (a : Act) (w : World) (hi : ops20[44]? = some o) (hd : ∀ e ∈ o.after, Region.binds .any e = true → l.getD e.on false = true) (hI : OnWay ops20 a0 w0 G20 l a w)
  (K : Act → World → Prop) (hK : ∀ v w', Below w.heap.size w w' → G20 44 v w' → K (a.put o.dst v) w') : o.wp Tryz.prog a w K Q := by
 have ho := op_of hi (x := .build 43 #[(3, .tmp 336)]) (by kernel_rfl)
 obtain ⟨A, c, hv, hs⟩ := (show GK (List.replicate 65 key0) _ _ from val20 hi hd hI 43 (by decide) (by kernel_rfl))
 exact wp_value (exec_build 43 _ o ho a #[(3, .slice A 65 c)] (by simp only [List.map_toArray, List.map_cons, List.map_nil]; show #[(3, a.tmps.getD 336 undef)] = _; rw [hv]; rfl) _ (book_b3 w (List.replicate 65 key0) 65 rfl A c)) (hK _ _ (Below.refl _ _) (GB.ofK (List.replicate 65 key0) (by decide) A c hs))
set_option maxHeartbeats 8000000 in
set_option maxRecDepth 100000 in
theorem op20_45 {Q : Exit → Act → World → Prop} (tp : Nat) (a0 : Act) (w0 : World) (h13 : a0.tmps[13]? = some (.pointer (some ⟨tp, 0, none⟩))) (hone : w0.heap[tp]? = some (.cells (encD devOne).toArray 46 (0, 0)))
  (o : Oper) (l : Array Bool) (a : Act) (w : World) (hi : ops20[45]? = some o) (hd : ∀ e ∈ o.after, Region.binds .any e = true → l.getD e.on false = true) (hI : OnWay ops20 a0 w0 G20 l a w)
  (K : Act → World → Prop) (hK : ∀ v w', Below w.heap.size w w' → G20 45 v w' → K (a.put o.dst v) w') : o.wp Tryz.prog a w K Q := by
 have ho := op_of hi (x := .buildSlice 81 16 #[(0, .tmp 293), (1, .tmp 294), (2, .tmp 295), (3, .tmp 296), (4, .tmp 297), (5, .tmp 299), (6, .tmp 303), (7, .tmp 307), (8, .tmp 312), (9, .tmp 317), (10, .tmp 322), (11, .tmp 326), (12, .tmp 329), (13, .tmp 333), (14, .tmp 335), (15, .tmp 337)]) (by kernel_rfl)
 obtain ⟨A0, c0, E0, e0, v0, s0, r0⟩ := (show GB (badB 0) _ _ from val20 hi hd hI 0 (by decide) (by kernel_rfl))
 obtain ⟨A1, c1, E1, e1, v1, s1, r1⟩ := (show GB (badB 1) _ _ from val20 hi hd hI 1 (by decide) (by kernel_rfl))
 obtain ⟨A2, c2, E2, e2, v2, s2, r2⟩ := (show GB (badB 2) _ _ from val20 hi hd hI 2 (by decide) (by kernel_rfl))
 obtain ⟨A3, c3, E3, e3, v3, s3, r3⟩ := (show GB (badB 3) _ _ from val20 hi hd hI 3 (by decide) (by kernel_rfl))
 obtain ⟨A4, c4, E4, e4, v4, s4, r4⟩ := (show GB (badB 4) _ _ from val20 hi hd hI 4 (by decide) (by kernel_rfl))
 obtain ⟨A5, c5, E5, e5, v5, s5, r5⟩ := (show GB (badB 5) _ _ from val20 hi hd hI 6 (by decide) (by kernel_rfl))
 obtain ⟨A6, c6, E6, e6, v6, s6, r6⟩ := (show GB (badB 6) _ _ from val20 hi hd hI 10 (by decide) (by kernel_rfl))
 obtain ⟨A7, c7, E7, e7, v7, s7, r7⟩ := (show GB (badB 7) _ _ from val20 hi hd hI 14 (by decide) (by kernel_rfl))
 obtain ⟨A8, c8, E8, e8, v8, s8, r8⟩ := (show GB (badB 8) _ _ from val20 hi hd hI 19 (by decide) (by kernel_rfl))
 obtain ⟨A9, c9, E9, e9, v9, s9, r9⟩ := (show GB (badB 9) _ _ from val20 hi hd hI 24 (by decide) (by kernel_rfl))
 obtain ⟨A10, c10, E10, e10, v10, s10, r10⟩ := (show GB (badB 10) _ _ from val20 hi hd hI 29 (by decide) (by kernel_rfl))
 obtain ⟨A11, c11, E11, e11, v11, s11, r11⟩ := (show GB (badB 11) _ _ from val20 hi hd hI 33 (by decide) (by kernel_rfl))
 obtain ⟨A12, c12, E12, e12, v12, s12, r12⟩ := (show GB (badB 12) _ _ from val20 hi hd hI 36 (by decide) (by kernel_rfl))
 obtain ⟨A13, c13, E13, e13, v13, s13, r13⟩ := (show GB (badB 13) _ _ from val20 hi hd hI 40 (by decide) (by kernel_rfl))
 obtain ⟨A14, c14, E14, e14, v14, s14, r14⟩ := (show GB (badB 14) _ _ from val20 hi hd hI 42 (by decide) (by kernel_rfl))
 obtain ⟨A15, c15, E15, e15, v15, s15, r15⟩ := (show GB (badB 15) _ _ from val20 hi hd hI 44 (by decide) (by kernel_rfl))
 obtain ⟨w1, h1, h2, h3⟩ := rowAll w [(badB 0, A0, c0, E0, e0), (badB 1, A1, c1, E1, e1), (badB 2, A2, c2, E2, e2), (badB 3, A3, c3, E3, e3), (badB 4, A4, c4, E4, e4), (badB 5, A5, c5, E5, e5), (badB 6, A6, c6, E6, e6), (badB 7, A7, c7, E7, e7), (badB 8, A8, c8, E8, e8), (badB 9, A9, c9, E9, e9), (badB 10, A10, c10, E10, e10), (badB 11, A11, c11, E11, e11), (badB 12, A12, c12, E12, e12), (badB 13, A13, c13, E13, e13), (badB 14, A14, c14, E14, e14), (badB 15, A15, c15, E15, e15)] rfl (fun i hi => match i, hi with
  | 0, _ => ⟨_, rfl, rfl, s0, r0⟩
  | 1, _ => ⟨_, rfl, rfl, s1, r1⟩
  | 2, _ => ⟨_, rfl, rfl, s2, r2⟩
  | 3, _ => ⟨_, rfl, rfl, s3, r3⟩
  | 4, _ => ⟨_, rfl, rfl, s4, r4⟩
  | 5, _ => ⟨_, rfl, rfl, s5, r5⟩
  | 6, _ => ⟨_, rfl, rfl, s6, r6⟩
  | 7, _ => ⟨_, rfl, rfl, s7, r7⟩
  | 8, _ => ⟨_, rfl, rfl, s8, r8⟩
  | 9, _ => ⟨_, rfl, rfl, s9, r9⟩
  | 10, _ => ⟨_, rfl, rfl, s10, r10⟩
  | 11, _ => ⟨_, rfl, rfl, s11, r11⟩
  | 12, _ => ⟨_, rfl, rfl, s12, r12⟩
  | 13, _ => ⟨_, rfl, rfl, s13, r13⟩
  | 14, _ => ⟨_, rfl, rfl, s14, r14⟩
  | 15, _ => ⟨_, rfl, rfl, s15, r15⟩
  | n + 16, h => absurd h (by omega))
 exact wp_value (exec_bslice 81 16 _ o ho a _ (by simp only [List.map_toArray, List.map_cons, List.map_nil]; show #[(0, a.tmps.getD 293 undef), (1, a.tmps.getD 294 undef), (2, a.tmps.getD 295 undef), (3, a.tmps.getD 296 undef), (4, a.tmps.getD 297 undef), (5, a.tmps.getD 299 undef), (6, a.tmps.getD 303 undef), (7, a.tmps.getD 307 undef), (8, a.tmps.getD 312 undef), (9, a.tmps.getD 317 undef), (10, a.tmps.getD 322 undef), (11, a.tmps.getD 326 undef), (12, a.tmps.getD 329 undef), (13, a.tmps.getD 333 undef), (14, a.tmps.getD 335 undef), (15, a.tmps.getD 337 undef)] = _; rw [v0, v1, v2, v3, v4, v5, v6, v7, v8, v9, v10, v11, v12, v13, v14, v15]; rfl) _ h1) (hK _ _ h2 h3)
set_option maxHeartbeats 8000000 in
set_option maxRecDepth 100000 in
theorem op20_46 {Q : Exit → Act → World → Prop} (tp : Nat) (a0 : Act) (w0 : World) (h13 : a0.tmps[13]? = some (.pointer (some ⟨tp, 0, none⟩))) (hone : w0.heap[tp]? = some (.cells (encD devOne).toArray 46 (0, 0)))
  (o : Oper) (l : Array Bool) (a : Act) (w : World) (hi : ops20[46]? = some o) (hd : ∀ e ∈ o.after, Region.binds .any e = true → l.getD e.on false = true) (hI : OnWay ops20 a0 w0 G20 l a w)
  (K : Act → World → Prop) (hK : ∀ v w', Below w.heap.size w w' → G20 46 v w' → K (a.put o.dst v) w') : o.wp Tryz.prog a w K Q := by
 have ho := op_of hi (x := .call { callee := .builtin .len, args := #[.tmp 338], argTypes := #[81] }) (by kernel_rfl)
 obtain ⟨g, hv, -⟩ := (show GAll _ _ from val20 hi hd hI 45 (by decide) (by kernel_rfl))
 exact wp_value (exec_len81 (.tmp 338) o ho a _ _ hv) (hK _ _ (Below.refl _ _) rfl)
set_option maxHeartbeats 8000000 in
set_option maxRecDepth 100000 in
theorem op20_47 {Q : Exit → Act → World → Prop} (tp : Nat) (a0 : Act) (w0 : World) (h13 : a0.tmps[13]? = some (.pointer (some ⟨tp, 0, none⟩))) (hone : w0.heap[tp]? = some (.cells (encD devOne).toArray 46 (0, 0)))
  (o : Oper) (l : Array Bool) (a : Act) (w : World) (hi : ops20[47]? = some o) (hd : ∀ e ∈ o.after, Region.binds .any e = true → l.getD e.on false = true) (hI : OnWay ops20 a0 w0 G20 l a w)
  (K : Act → World → Prop) (hK : ∀ v w', Below w.heap.size w w' → G20 47 v w' → K (a.put o.dst v) w') : o.wp Tryz.prog a w K Q := by
 have ho := op_of hi (x := .move (.const (.int .i64 0))) (by kernel_rfl)
 exact wp_value (exec_move _ o ho a _ rfl) (hK _ _ (Below.refl _ _) rfl)
theorem ops20_do {Q : Exit → Act → World → Prop} (tp : Nat) (a0 : Act) (w0 : World) (h13 : a0.tmps[13]? = some (.pointer (some ⟨tp, 0, none⟩))) (hone : w0.heap[tp]? = some (.cells (encD devOne).toArray 46 (0, 0))) :
  ∀ (i : Nat) (o : Oper) (l : Array Bool) (a : Act) (w : World), ops20[i]? = some o → (∀ e ∈ o.after, Region.binds .any e = true → l.getD e.on false = true) → OnWay ops20 a0 w0 G20 l a w →
   ∀ K : Act → World → Prop, (∀ v w', Below w.heap.size w w' → G20 i v w' → K (a.put o.dst v) w') → o.wp Tryz.prog a w K Q
 | 0, o, l, a, w, hi, hd, hI, K, hK => op20_0 tp a0 w0 h13 hone o l a w hi hd hI K hK
 | 1, o, l, a, w, hi, hd, hI, K, hK => op20_1 tp a0 w0 h13 hone o l a w hi hd hI K hK
 | 2, o, l, a, w, hi, hd, hI, K, hK => op20_2 tp a0 w0 h13 hone o l a w hi hd hI K hK
 | 3, o, l, a, w, hi, hd, hI, K, hK => op20_3 tp a0 w0 h13 hone o l a w hi hd hI K hK
 | 4, o, l, a, w, hi, hd, hI, K, hK => op20_4 tp a0 w0 h13 hone o l a w hi hd hI K hK
 | 5, o, l, a, w, hi, hd, hI, K, hK => op20_5 tp a0 w0 h13 hone o l a w hi hd hI K hK
 | 6, o, l, a, w, hi, hd, hI, K, hK => op20_6 tp a0 w0 h13 hone o l a w hi hd hI K hK
 | 7, o, l, a, w, hi, hd, hI, K, hK => op20_7 tp a0 w0 h13 hone o l a w hi hd hI K hK
 | 8, o, l, a, w, hi, hd, hI, K, hK => op20_8 tp a0 w0 h13 hone o l a w hi hd hI K hK
 | 9, o, l, a, w, hi, hd, hI, K, hK => op20_9 tp a0 w0 h13 hone o l a w hi hd hI K hK
 | 10, o, l, a, w, hi, hd, hI, K, hK => op20_10 tp a0 w0 h13 hone o l a w hi hd hI K hK
 | 11, o, l, a, w, hi, hd, hI, K, hK => op20_11 tp a0 w0 h13 hone o l a w hi hd hI K hK
 | 12, o, l, a, w, hi, hd, hI, K, hK => op20_12 tp a0 w0 h13 hone o l a w hi hd hI K hK
 | 13, o, l, a, w, hi, hd, hI, K, hK => op20_13 tp a0 w0 h13 hone o l a w hi hd hI K hK
 | 14, o, l, a, w, hi, hd, hI, K, hK => op20_14 tp a0 w0 h13 hone o l a w hi hd hI K hK
 | 15, o, l, a, w, hi, hd, hI, K, hK => op20_15 tp a0 w0 h13 hone o l a w hi hd hI K hK
 | 16, o, l, a, w, hi, hd, hI, K, hK => op20_16 tp a0 w0 h13 hone o l a w hi hd hI K hK
 | 17, o, l, a, w, hi, hd, hI, K, hK => op20_17 tp a0 w0 h13 hone o l a w hi hd hI K hK
 | 18, o, l, a, w, hi, hd, hI, K, hK => op20_18 tp a0 w0 h13 hone o l a w hi hd hI K hK
 | 19, o, l, a, w, hi, hd, hI, K, hK => op20_19 tp a0 w0 h13 hone o l a w hi hd hI K hK
 | 20, o, l, a, w, hi, hd, hI, K, hK => op20_20 tp a0 w0 h13 hone o l a w hi hd hI K hK
 | 21, o, l, a, w, hi, hd, hI, K, hK => op20_21 tp a0 w0 h13 hone o l a w hi hd hI K hK
 | 22, o, l, a, w, hi, hd, hI, K, hK => op20_22 tp a0 w0 h13 hone o l a w hi hd hI K hK
 | 23, o, l, a, w, hi, hd, hI, K, hK => op20_23 tp a0 w0 h13 hone o l a w hi hd hI K hK
 | 24, o, l, a, w, hi, hd, hI, K, hK => op20_24 tp a0 w0 h13 hone o l a w hi hd hI K hK
 | 25, o, l, a, w, hi, hd, hI, K, hK => op20_25 tp a0 w0 h13 hone o l a w hi hd hI K hK
 | 26, o, l, a, w, hi, hd, hI, K, hK => op20_26 tp a0 w0 h13 hone o l a w hi hd hI K hK
 | 27, o, l, a, w, hi, hd, hI, K, hK => op20_27 tp a0 w0 h13 hone o l a w hi hd hI K hK
 | 28, o, l, a, w, hi, hd, hI, K, hK => op20_28 tp a0 w0 h13 hone o l a w hi hd hI K hK
 | 29, o, l, a, w, hi, hd, hI, K, hK => op20_29 tp a0 w0 h13 hone o l a w hi hd hI K hK
 | 30, o, l, a, w, hi, hd, hI, K, hK => op20_30 tp a0 w0 h13 hone o l a w hi hd hI K hK
 | 31, o, l, a, w, hi, hd, hI, K, hK => op20_31 tp a0 w0 h13 hone o l a w hi hd hI K hK
 | 32, o, l, a, w, hi, hd, hI, K, hK => op20_32 tp a0 w0 h13 hone o l a w hi hd hI K hK
 | 33, o, l, a, w, hi, hd, hI, K, hK => op20_33 tp a0 w0 h13 hone o l a w hi hd hI K hK
 | 34, o, l, a, w, hi, hd, hI, K, hK => op20_34 tp a0 w0 h13 hone o l a w hi hd hI K hK
 | 35, o, l, a, w, hi, hd, hI, K, hK => op20_35 tp a0 w0 h13 hone o l a w hi hd hI K hK
 | 36, o, l, a, w, hi, hd, hI, K, hK => op20_36 tp a0 w0 h13 hone o l a w hi hd hI K hK
 | 37, o, l, a, w, hi, hd, hI, K, hK => op20_37 tp a0 w0 h13 hone o l a w hi hd hI K hK
 | 38, o, l, a, w, hi, hd, hI, K, hK => op20_38 tp a0 w0 h13 hone o l a w hi hd hI K hK
 | 39, o, l, a, w, hi, hd, hI, K, hK => op20_39 tp a0 w0 h13 hone o l a w hi hd hI K hK
 | 40, o, l, a, w, hi, hd, hI, K, hK => op20_40 tp a0 w0 h13 hone o l a w hi hd hI K hK
 | 41, o, l, a, w, hi, hd, hI, K, hK => op20_41 tp a0 w0 h13 hone o l a w hi hd hI K hK
 | 42, o, l, a, w, hi, hd, hI, K, hK => op20_42 tp a0 w0 h13 hone o l a w hi hd hI K hK
 | 43, o, l, a, w, hi, hd, hI, K, hK => op20_43 tp a0 w0 h13 hone o l a w hi hd hI K hK
 | 44, o, l, a, w, hi, hd, hI, K, hK => op20_44 tp a0 w0 h13 hone o l a w hi hd hI K hK
 | 45, o, l, a, w, hi, hd, hI, K, hK => op20_45 tp a0 w0 h13 hone o l a w hi hd hI K hK
 | 46, o, l, a, w, hi, hd, hI, K, hK => op20_46 tp a0 w0 h13 hone o l a w hi hd hI K hK
 | 47, o, l, a, w, hi, hd, hI, K, hK => op20_47 tp a0 w0 h13 hone o l a w hi hd hI K hK
 | n + 48, o, l, a, w, hi, hd, hI, K, hK => by
  have := (ops20_one hi).1
  omega
end Go.Proofs.YthnpiimiimiijaaGreatDoor.Dir
end
