/- Values that are built; Check. What a node knows of a book, in plain words. -/
import Derived.Test.YtmgbaefgcdglpaaGreatDoorNc19
import Derived.Test.YtmgbaefgcdglpaaGreatDoorNc16
import Derived.Test.YtmgbaefgcdglpaaGreatDoorNc17
section
namespace Go.Proofs.YtmgbaefgcdglpaaGreatDoor.Net
open Go Go.RowKit Go.Proofs Go.Proofs.YtmgbaefgcdglpaaGreatDoorW.PrintWords Go.Proofs.YtmgbaefgcdglpaaGreatDoorW.PrintLast Go.Proofs.YtmgbaefgcdglpaaGreatDoorW.PrintMore Go.Proofs.YtmgbaefgcdglpaaGreatDoor.Dir
set_option linter.unusedVariables false
set_option linter.unusedSimpArgs false
theorem fill_at (place : Nat → Option (Nat × Nat)) (cells cells' : List Value) (i : Nat) (v : Value) (rest : List (Nat × Value)) (off size : Nat) (hp : place i = some (off, size)) (hv : v.cells.size = size) (hf : off + size ≤ cells.length) (he : splice cells off v.cells.toList = cells') :
  Instr.fill place cells.toArray ((i, v) :: rest) = Instr.fill place cells'.toArray rest := by
 rw [fill_cons place cells.toArray i v rest off size hp hv (by simpa using hf)]
 simp only [he]
theorem splice_mid (a b c v : List Value) (n : Nat) (hn : a.length = n) (hb : b.length = v.length) : splice (a ++ b ++ c) n v = a ++ v ++ c := by
 subst hn
 unfold splice
 have e1 : (a ++ b ++ c).take a.length = a := by rw [List.append_assoc, List.take_left]
 have e2 : (a ++ b ++ c).drop (a.length + v.length) = c := by rw [← hb, ← List.length_append, List.drop_left]
 rw [e1, e2, List.append_assoc]
def mapV (v c n : Int) (k : Key) (e : Int) (x : Value) : List Value := .int .i64 v :: .int .i64 c :: .int .i64 n :: (encK k ++ [.int .i64 e, x])
def places102 : Array (Nat × Nat) := #[(0, 1), (1, 1), (2, 32), (34, 1)]
set_option maxRecDepth 100000 in
theorem zero102 (w : World) : (zeroValue 102).run Tryz.prog w = .ok (.agg (headCells 0 0 key0 0).toArray) w := by first | exact Tryz.zeroValue102 w | (rw [Tryz.zeroValue102]; first | rfl | kernel_rfl)
set_option maxRecDepth 100000 in
theorem run_build102 (w : World) (parts : Array (Nat × Value)) (cs : Array Value) (hf : Instr.fill (places102[·]?) (headCells 0 0 key0 0).toArray parts.toList = some cs) : (Instr.build 102 parts).run Tryz.prog w = .ok (.agg cs) w := by
 have hz := zero102 w
 unfold places102 at hf
 generalize headCells 0 0 key0 0 = Z at hf hz
 simp only [Instr.build, Sem.run_bind, hz, Result.andThen_ok, run_underlying Tryz.underlying102, Value.cells]
 simp only [List.mapM_toArray, List.mapM_cons, List.mapM_nil, Sem.run_bind, Sem.run_map, Sem.run_pure, Result.andThen_ok, Tryz.sizeOf3, Tryz.sizeOf28, Functor.map]
 have hb : ∀ {α β : Type} (x : Sem α) (f : α → Sem β), Sem.bind x f = x >>= f := fun _ _ => rfl
 simp only [hb, Sem.run_bind, Sem.run_pure, Result.andThen_ok, Tryz.sizeOf3, Tryz.sizeOf28, Function.comp]
 change ((Result.ok (#[(0, 1), (1, 1), (2, 32), (34, 1)] : Array (Nat × Nat)) w).andThen fun a w' => _) = _
 simp only [Result.andThen_ok]
 rw [hf]
 rfl
def places31 : Array (Nat × Nat) := #[(0, 1), (1, 1), (2, 1), (3, 32), (35, 1), (36, 1)]
set_option maxRecDepth 100000 in
theorem zero31 (w : World) : (zeroValue 31).run Tryz.prog w = .ok (.agg (mapV 0 0 0 key0 0 (.slice none 0 0)).toArray) w := by first | exact Tryz.zeroValue31 w | (rw [Tryz.zeroValue31]; first | rfl | kernel_rfl)
set_option maxRecDepth 100000 in
theorem run_build31 (w : World) (parts : Array (Nat × Value)) (cs : Array Value) (hf : Instr.fill (places31[·]?) (mapV 0 0 0 key0 0 (.slice none 0 0)).toArray parts.toList = some cs) : (Instr.build 31 parts).run Tryz.prog w = .ok (.agg cs) w := by
 have hz := zero31 w
 unfold places31 at hf
 generalize mapV 0 0 0 key0 0 (.slice none 0 0) = Z at hf hz
 simp only [Instr.build, Sem.run_bind, hz, Result.andThen_ok, run_underlying Tryz.underlying31, Value.cells]
 simp only [List.mapM_toArray, List.mapM_cons, List.mapM_nil, Sem.run_bind, Sem.run_map, Sem.run_pure, Result.andThen_ok, Tryz.sizeOf3, Tryz.sizeOf28, Tryz.sizeOf29, Functor.map]
 have hb : ∀ {α β : Type} (x : Sem α) (f : α → Sem β), Sem.bind x f = x >>= f := fun _ _ => rfl
 simp only [hb, Sem.run_bind, Sem.run_pure, Result.andThen_ok, Tryz.sizeOf3, Tryz.sizeOf28, Tryz.sizeOf29, Function.comp]
 change ((Result.ok (#[(0, 1), (1, 1), (2, 1), (3, 32), (35, 1), (36, 1)] : Array (Nat × Nat)) w).andThen fun a w' => _) = _
 simp only [Result.andThen_ok]
 rw [hf]
 rfl
def places48 : Array (Nat × Nat) := #[(0, 1), (1, 32), (33, 1), (34, 1), (35, 1)]
set_option maxRecDepth 100000 in
theorem zero48 (w : World) : (zeroValue 48).run Tryz.prog w = .ok (.agg (peerCells peerZ none 0 none 0).toArray) w := by first | exact Tryz.zeroValue48 w | (rw [Tryz.zeroValue48]; first | rfl | kernel_rfl)
set_option maxRecDepth 100000 in
theorem run_build48 (w : World) (parts : Array (Nat × Value)) (cs : Array Value) (hf : Instr.fill (places48[·]?) (peerCells peerZ none 0 none 0).toArray parts.toList = some cs) : (Instr.build 48 parts).run Tryz.prog w = .ok (.agg cs) w := by
 have hz := zero48 w
 unfold places48 at hf
 generalize peerCells peerZ none 0 none 0 = Z at hf hz
 simp only [Instr.build, Sem.run_bind, hz, Result.andThen_ok, run_underlying Tryz.underlying48, Value.cells]
 simp only [List.mapM_toArray, List.mapM_cons, List.mapM_nil, Sem.run_bind, Sem.run_map, Sem.run_pure, Result.andThen_ok, Tryz.sizeOf3, Tryz.sizeOf28, Tryz.sizeOf45, Functor.map]
 have hb : ∀ {α β : Type} (x : Sem α) (f : α → Sem β), Sem.bind x f = x >>= f := fun _ _ => rfl
 simp only [hb, Sem.run_bind, Sem.run_pure, Result.andThen_ok, Tryz.sizeOf3, Tryz.sizeOf28, Tryz.sizeOf45, Function.comp]
 change ((Result.ok (#[(0, 1), (1, 32), (33, 1), (34, 1), (35, 1)] : Array (Nat × Nat)) w).andThen fun a w' => _) = _
 simp only [Result.andThen_ok]
 rw [hf]
 rfl
theorem build102 (w : World) (c n : Int) (k : Key) (e : Int) : (Instr.build 102 #[(0, .int .i64 c), (1, .int .i64 n), (2, .agg (encK k).toArray), (3, .int .i64 e)]).run Tryz.prog w = .ok (.agg (headCells c n k e).toArray) w := by
 refine run_build102 w _ _ ?_
 refine (fill_at _ (headCells 0 0 key0 0) (headCells c 0 key0 0) 0 _ _ 0 1 rfl rfl (by simp [headCells]) rfl).trans ?_
 refine (fill_at _ (headCells c 0 key0 0) (headCells c n key0 0) 1 _ _ 1 1 rfl rfl (by simp [headCells]) rfl).trans ?_
 refine (fill_at _ (headCells c n key0 0) (headCells c n k 0) 2 _ _ 2 32 rfl (by simp [Value.cells, encK_len]) (by simp [headCells_len]) ?_).trans ?_
 ·exact splice_mid [.int .i64 c, .int .i64 n] (encK key0) [.int .i64 0] (encK k) 2 rfl (by rw [encK_len, encK_len])
 refine (fill_at _ (headCells c n k 0) (headCells c n k e) 3 _ _ 34 1 rfl rfl (by simp [headCells_len]) ?_).trans rfl
 have := splice_mid (.int .i64 c :: .int .i64 n :: encK k) [.int .i64 0] [] [.int .i64 e] 34 (by simp [encK_len]) rfl
 simpa [headCells, Value.cells] using this
theorem build31 (w : World) (v c n : Int) : (Instr.build 31 #[(0, .int .i64 v), (1, .int .i64 c), (2, .int .i64 n)]).run Tryz.prog w = .ok (.agg (mapV v c n key0 0 (.slice none 0 0)).toArray) w := by
 refine run_build31 w _ _ ?_
 refine (fill_at _ (mapV 0 0 0 key0 0 (.slice none 0 0)) (mapV v 0 0 key0 0 (.slice none 0 0)) 0 _ _ 0 1 rfl rfl (by simp [mapV]) rfl).trans ?_
 refine (fill_at _ (mapV v 0 0 key0 0 (.slice none 0 0)) (mapV v c 0 key0 0 (.slice none 0 0)) 1 _ _ 1 1 rfl rfl (by simp [mapV]) rfl).trans ?_
 exact (fill_at _ (mapV v c 0 key0 0 (.slice none 0 0)) (mapV v c n key0 0 (.slice none 0 0)) 2 _ _ 2 1 rfl rfl (by simp [mapV]) rfl).trans rfl
theorem build31z (w : World) : (Instr.build 31 #[]).run Tryz.prog w = .ok (.agg (mapV 0 0 0 key0 0 (.slice none 0 0)).toArray) w := run_build31 w _ _ rfl
theorem build48 (w : World) (p : Peer) (v1 v2 : Value) (h1 : v1.oneCell' = true) (h2 : v2.oneCell' = true) (hc1 : v1.cells = #[v1]) (hc2 : v2.cells = #[v2]) : (Instr.build 48 #[(0, .int .i64 p.node), (1, .agg (encK p.key).toArray), (2, .int .i64 p.exp), (3, v1), (4, v2)]).run Tryz.prog w = .ok (.agg (peerV p v1 v2).toArray) w := by
 let Z : Int → Key → Int → Value → Value → List Value := fun n k e a b => .int .i64 n :: (encK k ++ [.int .i64 e, a, b])
 have hl : ∀ n k e a b, (Z n k e a b).length = 36 := fun n k e a b => by simp [Z, encK_len]
 refine run_build48 w _ _ ?_
 refine (fill_at _ (Z 0 key0 0 (.slice none 0 0) (.slice none 0 0)) (Z p.node key0 0 (.slice none 0 0) (.slice none 0 0)) 0 _ _ 0 1 rfl rfl (by simp [hl]) rfl).trans ?_
 refine (fill_at _ (Z p.node key0 0 (.slice none 0 0) (.slice none 0 0)) (Z p.node p.key 0 (.slice none 0 0) (.slice none 0 0)) 1 _ _ 1 32 rfl (by simp [Value.cells, encK_len]) (by simp [hl]) ?_).trans ?_
 ·exact splice_mid [.int .i64 p.node] (encK key0) [.int .i64 0, .slice none 0 0, .slice none 0 0] (encK p.key) 1 rfl (by rw [encK_len, encK_len])
 refine (fill_at _ (Z p.node p.key 0 (.slice none 0 0) (.slice none 0 0)) (Z p.node p.key p.exp (.slice none 0 0) (.slice none 0 0)) 2 _ _ 33 1 rfl rfl (by simp [hl]) ?_).trans ?_
 ·have := splice_mid (.int .i64 p.node :: encK p.key) [.int .i64 0] [.slice none 0 0, .slice none 0 0] [.int .i64 p.exp] 33 (by simp [encK_len]) rfl
  simpa [Z, Value.cells] using this
 refine (fill_at _ (Z p.node p.key p.exp (.slice none 0 0) (.slice none 0 0)) (Z p.node p.key p.exp v1 (.slice none 0 0)) 3 _ _ 34 1 rfl (by rw [hc1]; rfl) (by simp [hl]) ?_).trans ?_
 ·have := splice_mid (.int .i64 p.node :: (encK p.key ++ [.int .i64 p.exp])) [.slice none 0 0] [.slice none 0 0] [v1] 34 (by simp [encK_len]) rfl
  rw [hc1]
  simpa [Z] using this
 refine (fill_at _ (Z p.node p.key p.exp v1 (.slice none 0 0)) (Z p.node p.key p.exp v1 v2) 4 _ _ 35 1 rfl (by rw [hc2]; rfl) (by simp [hl]) ?_).trans rfl
 have := splice_mid (.int .i64 p.node :: (encK p.key ++ [.int .i64 p.exp, v1])) [.slice none 0 0] [] [v2] 35 (by simp [encK_len]) rfl
 rw [hc2]
 simpa [Z] using this
theorem at_build {P : Program} {w : World} {ops : Array Oper} {rest : List Oper} {a : Act} {Q : Exit → Act → World → Prop} {dst ty pos after g} (t : TypeId) (fs : Array (Nat × Operand)) (h : wpList P ops Q (⟨dst, .build t fs, ty, pos, after, g⟩ :: rest) a w) : wpList P ops Q (⟨dst, .build t fs, ty, pos, after, g⟩ :: rest) a w := h
set_option maxHeartbeats 4000000 in
set_option maxRecDepth 100000 in
theorem check27 (m : NMap) (A : Option Addr) (cp : Nat) (w : World) (h : PsAt w A cp m.peers) :
  Calls Tryz.prog 27 #[.agg (mapCells m A cp).toArray] w fun r w' => r = .returned (.int .i64 (if okM m = true then 0 else 2)) ∧ Below w.heap.size w w' := by
 obtain ⟨b0, hb0⟩ : ∃ b0, b0 = w.heap.size := ⟨_, rfl⟩
 obtain ⟨W0, hW0⟩ : ∃ W0, W0 = w.alloc (.cells (mapCells m A cp).toArray 31) := ⟨_, rfl⟩
 have hbw : Below w.heap.size w W0 := by rw [hW0]; exact (Below.refl _ w).alloc (Nat.le_refl _) _
 have q1 : W0.heap[b0]? = some (.cells (mapCells m A cp).toArray 31 (0, 0)) := by rw [hW0, hb0]; exact heap_alloc_new w _
 have H0 := Aside0.mk (h.below hbw)
 have FC := Aside0.mk (fun (W : World) (hb : Below W0.heap.size W0 W) => And.intro (show W.cell? ⟨b0, 0, none⟩ = some (.int .i64 m.ver) by rw [cell_of_heap (roomN q1 hb)]; rfl) (And.intro (show W.cell? ⟨b0, 1, none⟩ = some (.int .i64 m.clock) by rw [cell_of_heap (roomN q1 hb)]; rfl) (And.intro (show W.cell? ⟨b0, 2, none⟩ = some (.int .i64 m.node) by rw [cell_of_heap (roomN q1 hb)]; rfl) (And.intro (show W.cell? ⟨b0, 35, none⟩ = some (.int .i64 m.exp) by rw [cell_of_heap (roomN q1 hb)]; exact map35 m A cp) (show W.cell? ⟨b0, 36, none⟩ = some (.slice A m.peers.length cp) by rw [cell_of_heap (roomN q1 hb)]; exact map36 m A cp)))))
 have LK := Aside0.mk (fun (W : World) (hb : Below W0.heap.size W0 W) => run_loadAtK Tryz.prog W 28 32 Tryz.isAgg28 Tryz.sizeOf28 b0 3 (encK m.key) (encK_len _) (fun j v hj => by rw [cell_of_heap (roomN q1 hb)]; exact mapK m A cp j v hj))
 have EX := Aside0.mk (fun (W : World) (hb : Below W0.heap.size W0 W) => below_step hbw hb)
 obtain ⟨X, hX⟩ : ∃ X, X = (mapCells m A cp).toArray := ⟨_, rfl⟩
 rw [← hX] at hW0 ⊢
 obtain ⟨R, hR⟩ : ∃ R : Int, R = (if okM m = true then 0 else 2) := ⟨_, rfl⟩
 rw [← hR]
 have HR := Aside0.mk hR
 clear q1 hbw h hX hR
 go_enter Tryz.func27, Tryz.ntmps27
 go_upto_region 1 with fail
 change Code.wp _ _ _ _ (w.alloc (.cells X 31))
 rw [← hW0, ← hb0]
 clear hW0 hb0
 obtain ⟨k0, k1, k2, k35, k36⟩ := FC.out W0 (Below.refl _ _)
 go_wp2_with fail
 refine (number63 m.ver W0).mono ?_
 rintro r w1 ⟨rfl, hb1⟩
 obtain ⟨n1, hn1⟩ : ∃ n1, n1 = number m.ver := ⟨_, rfl⟩
 rw [← hn1]
 have N1 := Aside0.mk hn1
 have B1 := Aside0.mk hb1
 clear hb1 hn1 k0 k1 k2 k35 k36
 obtain ⟨k0, k1, k2, k35, k36⟩ := FC.out w1 B1.out
 cases n1
 ·go_wp2_with fail
  go_ret
  exact ⟨by rw [HR.out]; unfold okM; rw [← N1.out]; rfl, EX.out _ B1.out⟩
 have lk := Aside0.mk (LK.out w1 B1.out)
 have HM := Aside0.mk (may64 m.clock m.node m.key m.exp m.peers A cp w1 (H0.out.below B1.out))
 obtain ⟨hd, hhd⟩ : ∃ hd, hd = (headCells m.clock m.node m.key m.exp).toArray := ⟨_, rfl⟩
 have BH := Aside0.mk (build102 w1 m.clock m.node m.key m.exp)
 rw [← hhd] at HM BH
 clear hhd
 go_wp2_with (first | ((with_reducible refine at_load 28 (.tmp 12) ?_); refine wpList_loadW (by rfl) 28 (.tmp 12) rfl _ rfl _ lk.out ?_) | ((with_reducible refine at_build 102 #[(0, .tmp 9), (1, .tmp 11), (2, .tmp 13), (3, .tmp 15)] ?_); refine wpList_valueW (by rfl) (.agg hd) w1 (exec_build 102 _ _ rfl _ #[(0, .int .i64 m.clock), (1, .int .i64 m.node), (2, .agg (encK m.key).toArray), (3, .int .i64 m.exp)] (by simp only [List.map_toArray, List.map_cons, List.map_nil]; rfl) _ BH.out) ?_))
 refine HM.out.mono ?_
 rintro r w2 ⟨rfl, hb2⟩
 obtain ⟨n2, hn2⟩ : ∃ n2, n2 = headOk m.clock m.node m.key m.exp m.peers := ⟨_, rfl⟩
 rw [← hn2]
 have N2 := Aside0.mk hn2
 have B2 := Aside0.mk (below_step B1.out hb2)
 clear hb2 hn2 HM BH
 cases n2
 ·go_wp2_with fail
  go_ret
  exact ⟨by rw [HR.out]; unfold okM; rw [← N1.out, ← N2.out]; rfl, EX.out _ B2.out⟩
 ·go_wp2_with fail
  go_ret
  exact ⟨by rw [HR.out]; unfold okM; rw [← N1.out, ← N2.out]; rfl, EX.out _ B2.out⟩
end Go.Proofs.YtmgbaefgcdglpaaGreatDoor.Net
end
section
set_option linter.unusedVariables false
set_option linter.unusedSimpArgs false
namespace Go.Proofs.YtmgbaefgcdglpaaGreatDoor.Net
open Go.Proofs.YtmgbaefgcdglpaaGreatDoor.Dir
def live (B : Book) (d : Dev) : Bool := !d.rev && decide (B.clock < d.exp)
def ownD (B : Book) (n : Int) : Option Dev := B.devs.find? fun d => decide (d.node = n) && live B d
def talks (sp : Int → Int → List Sp) (B : Book) (n : Int) (d : Dev) : Bool := decide (d.node ≠ n) && live B d && decide ((sp d.node n).length + (sp n d.node).length ≠ 0)
def peerOf (sp : Int → Int → List Sp) (n : Int) (d : Dev) : Peer := ⟨d.node, d.key, d.exp, sp d.node n, sp n d.node⟩
def peersOf (sp : Int → Int → List Sp) (B : Book) (n : Int) : List Peer := (B.devs.filter (talks sp B n)).map (peerOf sp n)
def ofV (sp : Int → Int → List Sp) (B : Book) (n : Int) : NMap :=
 match ownD B n with
 | none => ⟨B.ver, B.clock, n, key0, 0, []⟩
 | some d => ⟨B.ver, B.clock, n, d.key, d.exp, peersOf sp B n⟩
theorem dev_key {B : Book} (h : WF B) {d : Dev} (hd : d ∈ B.devs) : d.key ≠ key0 := fun e => h.nonzero (by unfold takenB; exact List.mem_append_right _ (List.mem_map.2 ⟨d, hd, e⟩))
theorem devs_keys {B : Book} (h : WF B) : (B.devs.map (·.key)).Nodup := by
 have := h.keys
 unfold takenB at this
 exact (List.nodup_append.1 this).2.1
theorem pair_inj : ∀ {l : List Dev}, (l.map (·.key)).Nodup → ∀ {d e : Dev}, d ∈ l → e ∈ l → d.key = e.key → d = e
 | a :: l, h, d, e, hd, he, hk => by
  rw [List.map_cons, List.nodup_cons] at h
  rcases List.mem_cons.1 hd with rfl | hd' <;> rcases List.mem_cons.1 he with rfl | he'
  ·rfl
  ·exact absurd (List.mem_map.2 ⟨e, he', hk.symm⟩) h.1
  ·exact absurd (List.mem_map.2 ⟨d, hd', hk⟩) h.1
  ·exact pair_inj h.2 hd' he' hk
theorem valid_dev {B : Book} (h : WF B) {d : Dev} (hd : d ∈ B.devs) : validOf B d.key B.clock = if live B d = true then some d.node else none := by
 have hf : B.devs.find? (fun x => decide (x.key = d.key)) = some d := by
  cases hq : B.devs.find? (fun x => decide (x.key = d.key)) with
  | none => exact absurd (List.find?_eq_none.1 hq d hd) (by simp)
  | some x =>
   have h1 := List.find?_some hq
   have h2 := List.mem_of_find?_eq_some hq
   rw [pair_inj (devs_keys h) h2 hd (by simpa using h1)]
 unfold validOf live
 rw [hf]
 simp only
 cases hr : d.rev <;> by_cases hc : B.clock < d.exp
 ·rw [if_neg (by simp; omega), if_pos (by simp; omega)]
 ·rw [if_pos (by simp; omega), if_neg (by simp; omega)]
 ·rw [if_pos (by simp), if_neg (by simp)]
 ·rw [if_pos (by simp), if_neg (by simp)]
theorem ownD_mem {B : Book} {n : Int} {d : Dev} (h : ownD B n = some d) : d ∈ B.devs ∧ d.node = n ∧ live B d = true := by
 have h1 := List.find?_some h
 simp only [Bool.and_eq_true, decide_eq_true_eq] at h1
 exact ⟨List.mem_of_find?_eq_some h, h1.1, h1.2⟩
theorem live_exp {B : Book} {d : Dev} (h : live B d = true) : d.rev = false ∧ B.clock < d.exp := by
 unfold live at h
 simp only [Bool.and_eq_true, decide_eq_true_eq, Bool.not_eq_true'] at h
 exact h
theorem talks_mem {sp : Int → Int → List Sp} {B : Book} {n : Int} {d : Dev} (h : talks sp B n d = true) : d.node ≠ n ∧ live B d = true ∧ (sp d.node n).length + (sp n d.node).length ≠ 0 := by
 unfold talks at h
 simp only [Bool.and_eq_true, decide_eq_true_eq] at h
 exact ⟨h.1.1, h.1.2, h.2⟩
theorem peersGo_of (sp : Int → Int → List Sp) (hsp : ∀ a b, spansOk (sp a b) = true) (B : Book) (hB : WF B) (n : Int) : ∀ (l : List Dev) (last : Int) (ks : List Key), (∀ d ∈ l, d ∈ B.devs ∧ talks sp B n d = true) → l.Pairwise (·.node < ·.node) → (∀ d ∈ l, last < d.node) → (l.map (·.key)).Nodup → (∀ d ∈ l, d.key ∉ ks) →
  peersGo B.clock n last ks (l.map (peerOf sp n)) = true
 | [], _, _, _, _, _, _, _ => rfl
 | d :: l, last, ks, h1, h2, h3, h4, h5 => by
  obtain ⟨a1, a2⟩ := List.pairwise_cons.1 h2
  rw [List.map_cons, List.nodup_cons] at h4
  obtain ⟨m1, m2⟩ := h1 d (List.mem_cons_self ..)
  obtain ⟨t1, t2, t3⟩ := talks_mem m2
  have hn := hB.nodes d m1
  have he := hB.exps d m1
  have hc := (live_exp t2).2
  have hcl := hB.clock
  rw [List.map_cons]
  unfold peersGo
  rw [Bool.and_eq_true]
  constructor
  ·unfold peerOk nodeIn number
   simp only [Bool.and_eq_true, decide_eq_true_eq]
   refine ⟨⟨⟨⟨⟨⟨⟨⟨h3 d (List.mem_cons_self ..), hn.1, hn.2⟩, t1⟩, h5 d (List.mem_cons_self ..)⟩, ?_, he.2⟩, hc⟩, hsp _ _⟩, hsp _ _⟩, t3⟩
   show 0 ≤ d.exp
   omega
  ·refine peersGo_of sp hsp B hB n l d.node _ (fun e he => h1 e (List.mem_cons_of_mem _ he)) a2 a1 h4.2 fun e he hk => ?_
   rcases List.mem_append.1 hk with hk | hk
   ·exact h5 e (List.mem_cons_of_mem _ he) hk
   ·have hk : e.key = d.key := by simpa [peerOf] using hk
    exact h4.1 (List.mem_map.2 ⟨e, he, hk⟩)
theorem okM_of (sp : Int → Int → List Sp) (hsp : ∀ a b, spansOk (sp a b) = true) {B : Book} (hB : WF B) {n : Int} (hn : nodeIn n = true) : okM (ofV sp B n) = true := by
 have hv : number B.ver = true := decide_eq_true hB.ver
 have hc : number B.clock = true := decide_eq_true hB.clock
 unfold okM ofV headOk
 cases hq : ownD B n with
 | none =>
  simp only
  rw [hv, hc, hn]
  simp
 | some d =>
  obtain ⟨h1, h2, h3⟩ := ownD_mem hq
  have he := hB.exps d h1
  have hcl := hB.clock
  have hlt := (live_exp h3).2
  have hex : number d.exp = true := decide_eq_true ⟨by omega, he.2⟩
  simp only
  rw [hv, hc, hn, if_neg (dev_key hB h1), hex, decide_eq_true hlt]
  simp only [Bool.true_and]
  unfold peersOf
  refine peersGo_of sp hsp B hB n _ 0 _ (fun e he => ?_) (hB.devs.filter _) (fun e he => ?_) (((List.filter_sublist).map _).nodup (devs_keys hB)) fun e he hk => ?_
  ·exact ⟨(List.mem_filter.1 he).1, (List.mem_filter.1 he).2⟩
  ·have := hB.nodes e (List.mem_filter.1 he).1; omega
  ·obtain ⟨e1, e2⟩ := List.mem_filter.1 he
   simp only [List.mem_cons, List.not_mem_nil, or_false] at hk
   rcases hk with hk | hk
   ·exact dev_key hB e1 hk
   ·have := pair_inj (devs_keys hB) e1 h1 hk
    subst this
    exact (talks_mem e2).1 h2
end Go.Proofs.YtmgbaefgcdglpaaGreatDoor.Net
end
