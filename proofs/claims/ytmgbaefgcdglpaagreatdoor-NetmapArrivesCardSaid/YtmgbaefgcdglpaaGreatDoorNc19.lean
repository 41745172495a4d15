/- Spans in memory of their own. own: a peer in memory of its own. Lists of peers compared. A head and its peers: whether they may be. -/
import Derived.Test.YtmgbaefgcdglpaaGreatDoorNc17
import Derived.Test.YtmgbaefgcdglpaaGreatDoorNc18
import Derived.Test.YtmgbaefgcdglpaaGreatDoorNc16
section
namespace Go.Proofs.YtmgbaefgcdglpaaGreatDoor.Net
open Go Go.RowKit Go.Proofs Go.Proofs.YtmgbaefgcdglpaaGreatDoorW.PrintWords Go.Proofs.YtmgbaefgcdglpaaGreatDoorW.PrintLast Go.Proofs.YtmgbaefgcdglpaaGreatDoorW.PrintMore Go.Proofs.YtmgbaefgcdglpaaGreatDoor.Dir
set_option linter.unusedVariables false
set_option linter.unusedSimpArgs false
def encS (s : Sp) : List Value := [.int .i64 s.f0, .int .i64 s.f1]
theorem encS_len (s : Sp) : (encS s).length = 2 := rfl
theorem inf80 : (Tryz.prog.info? 80).map (fun i => (i.size, i.bytes)) = some (2, 16) := by kernel_rfl
theorem zero80 : ∃ z, ((Tryz.prog.info? 80).bind (·.zero)) = some z ∧ z.cells.size = 2 := ⟨.agg #[.int .i64 0, .int .i64 0], by kernel_rfl, by kernel_rfl⟩
theorem flatS_len (l : List Sp) : (l.flatMap encS).length = l.length * 2 := by
  induction l with
  | nil => rfl
  | cons a l ih => rw [List.flatMap_cons, List.length_append, ih, encS_len, List.length_cons]; omega
theorem SpAt.src {w : World} {A : Option Addr} {c : Nat} {l : List Sp} (h : SpAt w A c l) : SrcAt w A l.length 2 (l.flatMap encS) := by
  refine ⟨flatS_len l, fun e => ?_, fun a ha j u hj => ?_⟩
  · rcases Nat.eq_zero_or_pos l.length with h0 | h0
    · exact h0
    · obtain ⟨ad, hA, -⟩ := h.2.2.2 h0
      rw [e] at hA; cases hA
  · have hlt : j < l.length * 2 := by have := (List.getElem?_eq_some_iff.1 hj).1; rwa [flatS_len] at this
    obtain ⟨x, hx⟩ : ∃ x, l[j / 2]? = some x := ⟨_, List.getElem?_eq_getElem (by omega)⟩
    obtain ⟨ad, hA, hc⟩ := h.2.2.2 (by omega)
    rw [ha] at hA
    cases hA
    obtain ⟨cs, hl, hK, hcell⟩ := hc (j / 2) x hx
    have hK := PA.k80_open hK
    subst hK
    have hr : j % 2 < (encS x).length := by rw [encS_len]; omega
    have e1 := flatMap_at encS 2 encS_len l (j / 2) x hx (j % 2) _ (List.getElem?_eq_getElem hr)
    rw [show j / 2 * 2 + j % 2 = j by omega] at e1
    have e2 := hcell (j % 2) _ (List.getElem?_eq_getElem hr)
    rw [e1] at hj
    cases hj
    have e3 : j / 2 * kSp.sz + j % 2 = j := by show j / 2 * 2 + j % 2 = j; omega
    rw [e3] at e2
    exact e2
theorem R_flat {w : World} {base : Nat} {ok : Nat → Prop} {v : Value} {l : List Sp} (h : w.ownsRow base 80 2 v l.length (l.flatMap encS)) (hok : ∀ k, v.ownBlock = some k → ok k) : kSp.R 80 w base ok v l := by
  refine ⟨hok, l.flatMap encS, h, flatS_len l, fun j p hp => ?_⟩
  have e : ((l.flatMap encS).drop (j * 2)).take 2 = encS p := by
    apply List.ext_getElem?
    intro i
    by_cases hi : i < 2
    · rw [List.getElem?_take_of_lt hi, List.getElem?_drop, flatMap_at encS 2 encS_len l j p hp i _ (List.getElem?_eq_getElem (by rw [encS_len]; exact hi)), List.getElem?_eq_getElem (by rw [encS_len]; exact hi)]
    · rw [List.getElem?_eq_none (by simp; omega), List.getElem?_eq_none (by rw [encS_len]; omega)]
  show kSp.M w base _ p (((l.flatMap encS).drop (j * 2)).take 2)
  rw [e]
  exact PA.k80_mkM w base _ p
set_option maxRecDepth 100000 in
theorem clone123 (A : Option Addr) (n c : Nat) (xs : List Value) (w : World) (hs : SrcAt w A n 2 xs) (hb : n * 16 ≤ 140737488355328) (h1 : ∀ u ∈ xs, u.oneCell' = true) :
  Calls Tryz.prog 123 #[.slice A n c] w fun e w' => ∃ v', e = .returned v' ∧ w'.ownsRow w.heap.size 80 2 v' n xs ∧ (v' = .slice none 0 0 ↔ A = none) ∧ Below w.heap.size w w' := by
 have t22 := Tryz.underlying45
 have q22 : ∀ (w : World) (a : Option Addr) (n c n' c' : Nat), (binOp .eql 45 (.slice a n c) (.slice none n' c')).run Tryz.prog w = .ok (.bool a.isNone) w := fun w a n c n' c' => Lib.run_eql_slice_nil w _ _ a n c n' c' t22
 have hx : xs.length = n * 2 := hs.1
 cases A with
 | none =>
  obtain rfl := hs.2.1 rfl
  have : xs = [] := List.eq_nil_of_length_eq_zero (by simpa using hx)
  subst this
  clear hs hx
  go_enter Tryz.func123, Tryz.ntmps123
  go_wp2
  go_ret
  exact ⟨_, rfl, World.ownsRow_nil _ _ _ _, by simp, Below.refl _ _⟩
 | some a =>
  obtain ⟨z, hz, hzs⟩ := zero80
  have hi := inf80
  obtain ⟨i0, hi0⟩ : ∃ i0, Tryz.prog.info? 80 = some i0 := by
   cases h : Tryz.prog.info? 80 with
   | some i => exact ⟨i, rfl⟩
   | none => rw [h] at hi; cases hi
  rw [hi0] at hi hz
  simp only [Option.map_some, Option.some.injEq, Prod.mk.injEq, Option.bind_some] at hi hz
  obtain ⟨hz1, hz2⟩ := hi
  obtain ⟨ab, ao, asp⟩ := a
  have S := Aside0.mk (hs.2.2 _ rfl)
  have H1 := Aside0.mk h1
  have HX := Aside0.mk hx
  have HI := Aside0.mk (show Tryz.prog.info? 80 = some i0 ∧ i0.zero = some z ∧ i0.size = 2 ∧ i0.bytes = 16 ∧ z.cells.size = 2 from ⟨hi0, hz, hz1, hz2, hzs⟩)
  clear hs h1 hx hi0 hz hz1 hz2 hzs
  go_enter Tryz.func123, Tryz.ntmps123
  go_wp2_with (at_builtin; refine wpList_append_own _ rfl _ _ 45 rfl w.heap.size 80 i0 z 2 16 t22 HI.out.1 HI.out.2.1 HI.out.2.2.1 HI.out.2.2.2.1 HI.out.2.2.2.2 (by decide) _ _ _ rfl (World.ownsRow_made w #[] 0 (Nat.le_refl _) (Nat.zero_le _) (by simp)) ⟨ab, ao, asp⟩ n c xs rfl ?qc1 ?qc2 ?qc3 ?qc4 ?qc5 ?qc6 ?_)
  case qc1 => exact HX.out
  case qc2 =>
   intro j u hj
   exact Lib.cell?_alloc_some _ (S.out j u hj)
  case qc3 => exact H1.out
  case qc4 => rw [Nat.zero_add]; unfold maxLen; omega
  case qc5 => rw [Nat.zero_add]; exact hb
  case qc6 => simp
  intro v' w1 hown hgrow hnil
  go_wp2
  go_ret
  refine ⟨v', rfl, by simpa using hown, by simpa using hnil, ?_⟩
  exact ((Below.refl _ w).alloc (Nat.le_refl _) _).grown hgrow (by simp) (by intro k hk; simp [Value.ownBlock] at hk; omega)
theorem cloneSp (A : Option Addr) (c : Nat) (l : List Sp) (w : World) (h : SpAt w A c l) (hl : l.length ≤ 8000000000000) :
    Calls Tryz.prog 123 #[.slice A l.length c] w fun e w' => ∃ v', e = .returned v' ∧ kSp.R 80 w' w.heap.size (fun k => w.heap.size ≤ k) v' l ∧ Below w.heap.size w w' := by
  refine (clone123 A l.length c (l.flatMap encS) w h.src (by omega) (fun u hu => by obtain ⟨s, -, hs⟩ := List.mem_flatMap.1 hu; simp [encS] at hs; rcases hs with rfl | rfl <;> rfl)).mono ?_
  rintro e w' ⟨v', rfl, ho, -, hb⟩
  exact ⟨v', rfl, R_flat ho (fun k hk => own_base ho k hk), hb⟩
end Go.Proofs.YtmgbaefgcdglpaaGreatDoor.Net
end
section
namespace Go.Proofs.YtmgbaefgcdglpaaGreatDoor.Net
open Go Go.RowKit Go.Proofs Go.Proofs.YtmgbaefgcdglpaaGreatDoorW.PrintWords Go.Proofs.YtmgbaefgcdglpaaGreatDoorW.PrintLast Go.Proofs.YtmgbaefgcdglpaaGreatDoorW.PrintMore Go.Proofs.YtmgbaefgcdglpaaGreatDoor.Dir
set_option linter.unusedVariables false
set_option linter.unusedSimpArgs false
def zeroPeer : Array Value := #[.int .i64 0, .int .u8 0, .int .u8 0, .int .u8 0, .int .u8 0, .int .u8 0, .int .u8 0, .int .u8 0, .int .u8 0, .int .u8 0, .int .u8 0, .int .u8 0, .int .u8 0, .int .u8 0, .int .u8 0, .int .u8 0, .int .u8 0, .int .u8 0, .int .u8 0, .int .u8 0, .int .u8 0, .int .u8 0, .int .u8 0, .int .u8 0, .int .u8 0, .int .u8 0, .int .u8 0, .int .u8 0, .int .u8 0, .int .u8 0, .int .u8 0, .int .u8 0, .int .u8 0, .int .i64 0, .slice none 0 0, .slice none 0 0]
def peerZ : Peer := ⟨0, key0, 0, [], []⟩
theorem zeroPeer_eq : zeroPeer = (peerCells peerZ none 0 none 0).toArray := by kernel_rfl
theorem peerV_set34 (p : Peer) (a b v : Value) : (peerV p a b).set 34 v = peerV p v b := by
 unfold peerV
 have e : (encK p.key ++ [.int .i64 p.exp, a, b]).set 33 v = encK p.key ++ [.int .i64 p.exp, v, b] := by
  rw [List.set_append_right _ _ (by rw [encK_len]; decide), encK_len]; rfl
 rw [show (34 : Nat) = 33 + 1 from rfl, List.set_cons_succ, e]
theorem peerV_set35 (p : Peer) (a b v : Value) : (peerV p a b).set 35 v = peerV p a v := by
 unfold peerV
 have e : (encK p.key ++ [.int .i64 p.exp, a, b]).set 34 v = encK p.key ++ [.int .i64 p.exp, a, v] := by
  rw [List.set_append_right _ _ (by rw [encK_len]; decide), encK_len]; rfl
 rw [show (35 : Nat) = 34 + 1 from rfl, List.set_cons_succ, e]
theorem peerV34 (p : Peer) (a b : Value) : (peerV p a b)[34]? = some a := by
 unfold peerV
 rw [List.getElem?_cons_succ, List.getElem?_append_right (by rw [encK_len]; decide), encK_len]; rfl
theorem peerV35 (p : Peer) (a b : Value) : (peerV p a b)[35]? = some b := by
 unfold peerV
 rw [List.getElem?_cons_succ, List.getElem?_append_right (by rw [encK_len]; decide), encK_len]; rfl
theorem peerV_one (p : Peer) (a b : Value) (ha : a.oneCell' = true) (hb : b.oneCell' = true) : ∀ u ∈ peerV p a b, u.oneCell' = true := by
 intro u hu
 unfold peerV at hu
 rcases List.mem_cons.1 hu with rfl | hu
 ·rfl
 ·rcases List.mem_append.1 hu with hu | hu
  ·exact encK_one _ u hu
  ·simp only [List.mem_cons, List.not_mem_nil, or_false] at hu
   rcases hu with rfl | rfl | rfl
   ·rfl
   ·exact ha
   ·exact hb
theorem R_one {w : World} {base : Nat} {ok : Nat → Prop} {v : Value} {l : List Sp} (h : kSp.R 80 w base ok v l) : v.cells = #[v] ∧ v.oneCell' = true := by
 obtain ⟨A, c, rfl⟩ := Kd.R_slice h
 exact ⟨rfl, rfl⟩
theorem field48_3 (w : World) (b : Nat) : (Instr.fieldAt 48 (.pointer (some ⟨b, 0, none⟩)) 3).run Tryz.prog w = .ok (.pointer (some ⟨b, 34, none⟩)) w := by
 simp [Instr.fieldAt, run_underlying Tryz.underlying48, Instr.sureAddr, fieldPlace, go_sem]
theorem field48_4 (w : World) (b : Nat) : (Instr.fieldAt 48 (.pointer (some ⟨b, 0, none⟩)) 4).run Tryz.prog w = .ok (.pointer (some ⟨b, 35, none⟩)) w := by
 simp [Instr.fieldAt, run_underlying Tryz.underlying48, Instr.sureAddr, fieldPlace, go_sem]
section
variable (p : Peer) (b : Nat) (S1 S2 : Value)
def G69 : Nat → Value → World → Prop
 | 0, v, _ => v = .pointer (some ⟨b, 34, none⟩)
 | 1, v, _ => v = S1
 | 2, v, W => kSp.R 80 W b (fun k => b + 2 ≤ k) v p.inn
 | 3, v, _ => v = .pointer (some ⟨b, 35, none⟩)
 | 4, v, _ => v = S2
 | 5, v, W => kSp.R 80 W b (fun k => b + 2 ≤ k) v p.out
 | 6, v, _ => v = .pointer (some ⟨b, 34, none⟩)
 | 8, v, _ => v = .pointer (some ⟨b, 35, none⟩)
 | _, _, _ => True
theorem G69_below {W W' : World} (hb : Below W.heap.size W W') : ∀ (j : Nat) (u : Value), G69 p b S1 S2 j u W → G69 p b S1 S2 j u W'
 | 0, _, h | 1, _, h | 3, _, h | 4, _, h | 6, _, h | 8, _, h => h
 | 2, _, h => Kd.R_below h hb
 | 5, _, h => Kd.R_below h hb
 | 7, _, _ => trivial
 | _ + 9, _, _ => trivial
theorem G69_set {W : World} (o : Nat) (x : Value) : ∀ (j : Nat) (u : Value), G69 p b S1 S2 j u W → G69 p b S1 S2 j u (W.setCell ⟨b, o, none⟩ x)
 | 0, _, h | 1, _, h | 3, _, h | 4, _, h | 6, _, h | 8, _, h => h
 | 2, _, h => Kd.R_far h (fun k hk => by show k ≠ b; omega) x
 | 5, _, h => Kd.R_far h (fun k hk => by show k ≠ b; omega) x
 | 7, _, _ => trivial
 | _ + 9, _, _ => trivial
structure M69 (w : World) (l : Array Bool) (W : World) : Prop where
 fr : Below b w W
 sz : b + 2 ≤ W.heap.size
 res : W.heap[b + 1]? = some (.cells zeroPeer 48 (0, 0))
 box : ∃ x1 x2, W.heap[b]? = some (.cells (peerV p x1 x2).toArray 48 (0, 0)) ∧ (l.getD 7 false = false → x1 = S1) ∧ (l.getD 7 false = true → kSp.R 80 W b (fun k => b + 2 ≤ k) x1 p.inn) ∧ (l.getD 9 false = false → x2 = S2) ∧ (l.getD 9 false = true → kSp.R 80 W b (fun k => b + 2 ≤ k) x2 p.out)
theorem M69.drew {w W : World} {l : Array Bool} (h : M69 p b S1 S2 w l W) : M69 p b S1 S2 w l W.drew := ⟨h.fr.drew, h.sz, h.res, h.box.imp fun x1 ⟨x2, h0, h1, h2, h3, h4⟩ => ⟨x2, h0, h1, fun e => Kd.R_below (h2 e) ((Below.refl _ _).drew), h3, fun e => Kd.R_below (h4 e) ((Below.refl _ _).drew)⟩⟩
theorem M69.step {w W W' : World} {l : Array Bool} {i : Nat} (h : M69 p b S1 S2 w l W) (hb : Below W.heap.size W W') (h7 : i ≠ 7) (h9 : i ≠ 9) : M69 p b S1 S2 w (l.setIfInBounds i true) W' := by
 obtain ⟨x1, x2, hh, a1, a2, a3, a4⟩ := h.box
 refine ⟨h.fr.trans (hb.mono (by have := h.sz; omega)), Nat.le_trans h.sz hb.size, roomN h.res hb, x1, x2, roomN hh hb, ?_, ?_, ?_, ?_⟩
 ·rw [setB h7]; exact a1
 ·rw [setB h7]; exact fun e => Kd.R_below (a2 e) hb
 ·rw [setB h9]; exact a3
 ·rw [setB h9]; exact fun e => Kd.R_below (a4 e) hb
end
set_option maxHeartbeats 4000000 in
set_option maxRecDepth 100000 in
theorem own69 (p : Peer) (A1 A2 : Option Addr) (c1 c2 : Nat) (w : World) (h : PIn w p A1 c1 A2 c2) (hl1 : p.inn.length ≤ 8000000000000) (hl2 : p.out.length ≤ 8000000000000) :
  Calls Tryz.prog 69 #[.agg (peerCells p A1 c1 A2 c2).toArray] w fun e w' => ∃ v1 v2, e = .returned (.agg (peerV p v1 v2).toArray) ∧ kSp.R 80 w' w.heap.size (fun _ => True) v1 p.inn ∧ kSp.R 80 w' w.heap.size (fun _ => True) v2 p.out ∧ Below w.heap.size w w' := by
 obtain ⟨b, hb⟩ : ∃ b, b = w.heap.size := ⟨_, rfl⟩
 obtain ⟨W0, hW0⟩ : ∃ W0, W0 = (w.alloc (.cells (peerCells p A1 c1 A2 c2).toArray 48)).alloc (.cells zeroPeer 48) := ⟨_, rfl⟩
 have hM : M69 p b (.slice A1 p.inn.length c1) (.slice A2 p.out.length c2) w (Array.replicate 10 false) W0 := by
  refine ⟨?_, ?_, ?_, _, _, ?_, fun _ => rfl, fun e => ?_, fun _ => rfl, fun e => ?_⟩
  ·rw [hW0, hb]; exact ((Below.refl _ w).alloc (Nat.le_refl _) _).alloc (by simp) _
  ·rw [hW0, hb]; simp
  ·rw [hW0, hb]; have := heap_alloc_new (w.alloc (.cells (peerCells p A1 c1 A2 c2).toArray 48)) (.cells zeroPeer 48); simpa using this
  ·rw [hW0, hb, Below.heap_alloc _ _ _ (by simp)]; exact heap_alloc_new w _
  ·simp [Array.getD] at e
  ·simp [Array.getD] at e
 have HM := Aside0.mk hM
 have HH := Aside0.mk h
 have HL := Aside0.mk (And.intro hl1 hl2)
 obtain ⟨X, hX⟩ : ∃ X, X = (peerCells p A1 c1 A2 c2).toArray := ⟨_, rfl⟩
 rw [← hX] at hW0 ⊢
 clear hM h hl1 hl2 hX
 go_enter Tryz.func69, Tryz.ntmps69
 go_upto_region 1 with fail
 change Code.wp _ _ _ _ ((w.alloc (.cells X 48)).alloc (.cells zeroPeer 48))
 rw [← hW0, ← hb]
 clear hW0
 refine region_use (G69 p b (.slice A1 p.inn.length c1) (.slice A2 p.out.length c2)) (M69 p b (.slice A1 p.inn.length c1) (.slice A2 p.out.length c2) w) [3, 4, 5, 6, 7, 8, 9, 10] (by kernel_rfl) rfl (by kernel_rfl) (HM.out.drew) ?_ ?_
 ·intro i o l a W hi hs hnd hd hC hI hM K hK
  have hs : l.size = 10 := hs
  have hlt : i < 10 := (Array.getElem?_eq_some_iff.1 hi).1
  have hcase : i = 0 ∨ i = 1 ∨ i = 2 ∨ i = 3 ∨ i = 4 ∨ i = 5 ∨ i = 6 ∨ i = 7 ∨ i = 8 ∨ i = 9 := by omega
  rcases hcase with rfl | rfl | rfl | rfl | rfl | rfl | rfl | rfl | rfl | rfl
  ·-- 0
   exact wp_value (exec_fieldAddr 48 3 (.tmp 1) o (opIs hi rfl) a _ _ (hI.slot 1 (by rfl) rfl) (field48_3 W b)) (hK _ _ (fun _ _ h => h) (fun _ _ => rfl) (hM.step p b _ _ (Below.refl _ _) (by decide) (by decide)))
  ·-- 1
   obtain ⟨x1, x2, hh, a1, a2, a3, a4⟩ := hM.box
   have hx : x1 = .slice A1 p.inn.length c1 := a1 (by
    cases hl : l.getD 7 false with
    | false => rfl
    | true => exact absurd (hC.dep 2 1 (by kernel_rfl) (hC.dep 7 2 (by kernel_rfl) hl)) (notDone hs (by decide) hnd))
   refine wp_value (yields_load 45 (.tmp 3) o (opIs hi rfl) a _ (hI.got hi hd (j := 0) (by kernel_rfl) rfl) _ (run_load1 45 Tryz.isAgg45 (by rw [cell_of_heap hh]; exact peerV34 p x1 x2))) (hK _ _ (fun _ _ h => h) (fun _ _ => hx) (hM.step p b _ _ (Below.refl _ _) (by decide) (by decide)))
  ·-- 2
   have e : a.eval (.tmp 4) = .slice A1 p.inn.length c1 := hI.got hi hd (j := 1) (by kernel_rfl) rfl
   have hg : o.guard = none := (okOps_at (n := 12) (by kernel_rfl) hi).1
   refine wp_goes Tryz.func123 (by kernel_rfl) rfl #[.slice A1 p.inn.length c1] hg (opIs hi rfl) (by simp only [List.map_toArray, List.map_cons, List.map_nil, e]) ?_
   refine (cloneSp A1 c1 p.inn W (HH.out.inn.below (hM.fr.mono (by omega))) HL.out.1).mono ?_
   rintro e' W' ⟨v', rfl, hr, hb'⟩
   exact ⟨v', rfl, hK v' W' (G69_below p b _ _ hb') (fun _ _ => Kd.R_mono (Kd.R_lower hr (by have := hM.sz; omega)) (fun k hk => Nat.le_trans hM.sz hk)) (hM.step p b _ _ hb' (by decide) (by decide))⟩
  ·-- 3
   exact wp_value (exec_fieldAddr 48 4 (.tmp 1) o (opIs hi rfl) a _ _ (hI.slot 1 (by rfl) rfl) (field48_4 W b)) (hK _ _ (fun _ _ h => h) (fun _ _ => rfl) (hM.step p b _ _ (Below.refl _ _) (by decide) (by decide)))
  ·-- 4
   obtain ⟨x1, x2, hh, a1, a2, a3, a4⟩ := hM.box
   have hx : x2 = .slice A2 p.out.length c2 := a3 (by
    cases hl : l.getD 9 false with
    | false => rfl
    | true => exact absurd (hC.dep 5 4 (by kernel_rfl) (hC.dep 9 5 (by kernel_rfl) hl)) (notDone hs (by decide) hnd))
   refine wp_value (yields_load 45 (.tmp 6) o (opIs hi rfl) a _ (hI.got hi hd (j := 3) (by kernel_rfl) rfl) _ (run_load1 45 Tryz.isAgg45 (by rw [cell_of_heap hh]; exact peerV35 p x1 x2))) (hK _ _ (fun _ _ h => h) (fun _ _ => hx) (hM.step p b _ _ (Below.refl _ _) (by decide) (by decide)))
  ·-- 5
   have e : a.eval (.tmp 7) = .slice A2 p.out.length c2 := hI.got hi hd (j := 4) (by kernel_rfl) rfl
   have hg : o.guard = none := (okOps_at (n := 12) (by kernel_rfl) hi).1
   refine wp_goes Tryz.func123 (by kernel_rfl) rfl #[.slice A2 p.out.length c2] hg (opIs hi rfl) (by simp only [List.map_toArray, List.map_cons, List.map_nil, e]) ?_
   refine (cloneSp A2 c2 p.out W (HH.out.out.below (hM.fr.mono (by omega))) HL.out.2).mono ?_
   rintro e' W' ⟨v', rfl, hr, hb'⟩
   exact ⟨v', rfl, hK v' W' (G69_below p b _ _ hb') (fun _ _ => Kd.R_mono (Kd.R_lower hr (by have := hM.sz; omega)) (fun k hk => Nat.le_trans hM.sz hk)) (hM.step p b _ _ hb' (by decide) (by decide))⟩
  ·-- 6
   exact wp_value (exec_fieldAddr 48 3 (.tmp 1) o (opIs hi rfl) a _ _ (hI.slot 1 (by rfl) rfl) (field48_3 W b)) (hK _ _ (fun _ _ h => h) (fun _ _ => rfl) (hM.step p b _ _ (Below.refl _ _) (by decide) (by decide)))
  ·-- 7
   obtain ⟨x1, x2, hh, a1, a2, a3, a4⟩ := hM.box
   have e1 : a.eval (.tmp 9) = .pointer (some ⟨b, 34, none⟩) := hI.got hi hd (j := 6) (by kernel_rfl) rfl
   have e2 := hI.got hi hd (j := 2) (N := 5) (by kernel_rfl) rfl
   obtain ⟨v, hv⟩ : ∃ v, v = a.tmps.getD 5 undef := ⟨_, rfl⟩
   rw [← hv] at e2
   have e2 : kSp.R 80 W b (fun k => b + 2 ≤ k) v p.inn := e2
   obtain ⟨o1, o2⟩ := R_one e2
   have hw : (W.setCell ⟨b, 34, none⟩ v).heap[b]? = some (.cells (peerV p v x2).toArray 48 (0, 0)) := by
    have := Go.heap_setCell_same W b 34 _ _ v hh
    rw [this]
    simp only [List.setIfInBounds_toArray, peerV_set34]
   refine wp_skip (runs_store 45 (.tmp 9) (.tmp 5) o (opIs hi rfl) a _ v e1 hv.symm _ (run_storeAt1 Tryz.prog W 45 Tryz.sizeOf45 b 34 v o1 o2 _ (by rw [cell_of_heap hh]; exact peerV34 p x1 x2) (frozen_of_heap hh))) (hK _ _ (G69_set p b _ _ 34 v) (fun N hN => by rw [dstIs hi rfl] at hN; cases hN) ?_)
   refine ⟨hM.fr.setCell (Nat.le_refl _) _, by simpa using hM.sz, by rw [Below.heap_setCell _ _ _ _ (by simp)]; exact hM.res, v, x2, hw, ?_, ?_, ?_, ?_⟩
   ·rw [setS (by rw [hs]; decide)]; exact fun e => (by cases e)
   ·exact fun _ => Kd.R_far e2 (fun k hk => by show k ≠ b; omega) v
   ·rw [setB (by decide)]; exact a3
   ·rw [setB (by decide)]; exact fun e => Kd.R_far (a4 e) (fun k hk => by show k ≠ b; omega) v
  ·-- 8
   exact wp_value (exec_fieldAddr 48 4 (.tmp 1) o (opIs hi rfl) a _ _ (hI.slot 1 (by rfl) rfl) (field48_4 W b)) (hK _ _ (fun _ _ h => h) (fun _ _ => rfl) (hM.step p b _ _ (Below.refl _ _) (by decide) (by decide)))
  ·-- 9
   obtain ⟨x1, x2, hh, a1, a2, a3, a4⟩ := hM.box
   have e1 : a.eval (.tmp 10) = .pointer (some ⟨b, 35, none⟩) := hI.got hi hd (j := 8) (by kernel_rfl) rfl
   have e2 := hI.got hi hd (j := 5) (N := 8) (by kernel_rfl) rfl
   obtain ⟨v, hv⟩ : ∃ v, v = a.tmps.getD 8 undef := ⟨_, rfl⟩
   rw [← hv] at e2
   have e2 : kSp.R 80 W b (fun k => b + 2 ≤ k) v p.out := e2
   obtain ⟨o1, o2⟩ := R_one e2
   have hw : (W.setCell ⟨b, 35, none⟩ v).heap[b]? = some (.cells (peerV p x1 v).toArray 48 (0, 0)) := by
    have := Go.heap_setCell_same W b 35 _ _ v hh
    rw [this]
    simp only [List.setIfInBounds_toArray, peerV_set35]
   refine wp_skip (runs_store 45 (.tmp 10) (.tmp 8) o (opIs hi rfl) a _ v e1 hv.symm _ (run_storeAt1 Tryz.prog W 45 Tryz.sizeOf45 b 35 v o1 o2 _ (by rw [cell_of_heap hh]; exact peerV35 p x1 x2) (frozen_of_heap hh))) (hK _ _ (G69_set p b _ _ 35 v) (fun N hN => by rw [dstIs hi rfl] at hN; cases hN) ?_)
   refine ⟨hM.fr.setCell (Nat.le_refl _) _, by simpa using hM.sz, by rw [Below.heap_setCell _ _ _ _ (by simp)]; exact hM.res, x1, v, hw, ?_, ?_, ?_, ?_⟩
   ·rw [setB (by decide)]; exact a1
   ·rw [setB (by decide)]; exact fun e => Kd.R_far (a2 e) (fun k hk => by show k ≠ b; omega) v
   ·rw [setS (by rw [hs]; decide)]; exact fun e => (by cases e)
   ·exact fun _ => Kd.R_far e2 (fun k hk => by show k ≠ b; omega) v
 ·intro v W hv hM
  obtain ⟨x1, x2, hh, -, a2, -, a4⟩ := hM.box
  have r1 := a2 (by rfl)
  have r2 := a4 (by rfl)
  have hres := hM.res
  have hfr := hM.fr
  obtain ⟨o1, p1⟩ := R_one r1
  obtain ⟨o2, p2⟩ := R_one r2
  have LB := Aside0.mk (run_loadAtK Tryz.prog W 48 36 Tryz.isAgg48 Tryz.sizeOf48 b 0 (peerV p x1 x2) (peerV_len p x1 x2) (cells_of_heap hh))
  have hres' : W.heap[b + 1]? = some (.cells (peerCells peerZ none 0 none 0).toArray 48 (0, 0)) := by rw [← zeroPeer_eq]; exact hres
  have ST := Aside0.mk (store_full W 48 36 (b + 1) Tryz.sizeOf48 _ (peerV p x1 x2) hres' (peerCells_len _ _ _ _ _) (peerV_len p x1 x2) (peerV_one p x1 x2 p1 p2))
  have HF := Aside0.mk (setRow_heap W (b + 1) _ (peerV p x1 x2).toArray 48 (0, 0) hres')
  have HE := Aside0.mk (show Below w.heap.size w (W.setRow (b + 1) (peerV p x1 x2).toArray) ∧ kSp.R 80 (W.setRow (b + 1) (peerV p x1 x2).toArray) w.heap.size (fun _ => True) x1 p.inn ∧ kSp.R 80 (W.setRow (b + 1) (peerV p x1 x2).toArray) w.heap.size (fun _ => True) x2 p.out from by
   rw [← hb]
   exact ⟨below_setRow hfr (by omega) _, Kd.R_mono (Kd.R_step r1 (fun k hk _ => setRow_other W (b + 1) k _ (by omega))) (fun _ _ => trivial), Kd.R_mono (Kd.R_step r2 (fun k hk _ => setRow_other W (b + 1) k _ (by omega))) (fun _ _ => trivial)⟩)
  obtain ⟨Y, hY⟩ : ∃ Y, Y = (peerV p x1 x2).toArray := ⟨_, rfl⟩
  have HSZ := Aside0.mk (show Y.size = 36 by rw [hY]; simp [peerV_len])
  rw [← hY] at LB ST HF HE
  have HY := Aside0.mk hY
  clear hY hb hh a2 a4 r1 r2 hres hres' hfr o1 p1 o2 p2
  simp only [List.map_cons, List.map_nil, putAll]
  simp only [Act.put, List.setIfInBounds_toArray, List.set_cons_zero, List.set_cons_succ]
  go_wp2_with (first | ((with_reducible refine at_load 48 (.tmp 1) ?_); refine wpList_loadK rfl 48 (.tmp 1) rfl _ rfl _ LB.out ?_) | ((with_reducible refine at_store 48 (.tmp 2) (.tmp 11) ?_); refine wpList_storeK rfl 48 (.tmp 2) (.tmp 11) rfl rfl _ _ rfl rfl _ ST.out ?_))
  try simp only [Exit.inBlock, Exit.then]
  refine bodyPost_ret (results_cell_row rfl _ _ (b + 1) 48 _ (0, 0) _ rfl HF.out Tryz.underlying48 rfl (by rw [HSZ.out]; kernel_rfl)) rfl ?_
  exact ⟨x1, x2, by rw [HY.out], HE.out.2.1, HE.out.2.2, HE.out.1⟩
end Go.Proofs.YtmgbaefgcdglpaaGreatDoor.Net
end
section
namespace Go.Proofs.YtmgbaefgcdglpaaGreatDoor.Net
open Go Go.RowKit Go.Proofs Go.Proofs.YtmgbaefgcdglpaaGreatDoorW.PrintWords Go.Proofs.YtmgbaefgcdglpaaGreatDoorW.PrintLast Go.Proofs.YtmgbaefgcdglpaaGreatDoorW.PrintMore Go.Proofs.YtmgbaefgcdglpaaGreatDoor.Dir
set_option linter.unusedVariables false
set_option linter.unusedSimpArgs false
theorem drop_pe {l : List Peer} {i : Nat} {x : Peer} (h : l[i]? = some x) : l.drop i = x :: l.drop (i + 1) := by
 obtain ⟨hl, e⟩ := List.getElem?_eq_some_iff.1 h
 rw [List.drop_eq_getElem_cons hl, e]
set_option maxHeartbeats 4000000 in
set_option maxRecDepth 100000 in
theorem samePeers55 (l m : List Peer) (A0 A1 : Option Addr) (c0 c1 : Nat) (w : World) (h0 : PsAt w A0 c0 l) (h1 : PsAt w A1 c1 m) :
  Calls Tryz.prog 55 #[.slice A0 l.length c0, .slice A1 m.length c1] w fun e w' => e = .returned (.bool (decide (l = m))) ∧ Below w.heap.size w w' := by
 have H0 := Aside0.mk h0
 have H1 := Aside0.mk h1
 have hlen := h0.len
 by_cases hn : l.length = m.length
 case neg =>
  have hz : ¬ (l.length : Int) = (m.length : Int) := by omega
  have hd : decide ((l.length : Int) = (m.length : Int)) = false := decide_eq_false hz
  clear h0 h1
  go_enter Tryz.func55, Tryz.ntmps55
  go_wp2_with fail
  go_ret
  exact ⟨by rw [decide_eq_false (fun e => hn (by rw [e]))]; rfl, Below.refl _ _⟩
 have HN := Aside0.mk hn
 have hz : (l.length : Int) = (m.length : Int) := by omega
 have hd : decide ((l.length : Int) = (m.length : Int)) = true := decide_eq_true hz
 clear h0 h1 hn
 go_enter Tryz.func55, Tryz.ntmps55
 go_upto_region 4 with fail
 clear hz hd
 go_loopg [5] l.length (fun kx s5 wr => ∃ kk : Nat, s5 = .int .i64 kk ∧ kk + kx = l.length ∧ Aside0 (Below w.heap.size w wr) ∧ Aside0 (decide (l = m) = decide (l.drop kk = m.drop kk)))
 case atStart => exact ⟨0, rfl, by omega, ⟨Below.refl _ _⟩, ⟨rfl⟩⟩
 case round =>
  obtain ⟨kk, rfl, hkk, BW, AL⟩ := hrel
  by_cases hlt : kk < l.length
  ·have hltz : (kk : Int) < (l.length : Int) := by omega
   have hltm : (kk : Int) < (m.length : Int) := by have := HN.out; omega
   obtain ⟨x, hx⟩ : ∃ x, l[kk]? = some x := ⟨_, List.getElem?_eq_getElem hlt⟩
   obtain ⟨y, hy⟩ : ∃ y, m[kk]? = some y := ⟨_, List.getElem?_eq_getElem (by have := HN.out; omega)⟩
   obtain ⟨g, o, P1, d1, P2, d2, hA0, hin0, hc0⟩ := H0.out.load hx
   obtain ⟨g', o', P3, d3, P4, d4, hA1, hin1, hc1⟩ := H1.out.load hy
   subst hA0 hA1
   have HL0 := Aside0.mk hc0
   have HL1 := Aside0.mk hc1
   have HXY := Aside0.mk (And.intro (drop_pe hx) (drop_pe hy))
   have HC := Aside0.mk (fun (W : World) (hb : Below w.heap.size w W) => (samePeer71 x y P1 P2 P3 P4 d1 d2 d3 d4 W (hin0.below hb) (hin1.below hb)).mono (fun e w' h => And.intro h.1 (below_step hb h.2)))
   obtain ⟨X, hX⟩ : ∃ X, X = (peerCells x P1 d1 P2 d2).toArray := ⟨_, rfl⟩
   obtain ⟨Y, hY⟩ : ∃ Y, Y = (peerCells y P3 d3 P4 d4).toArray := ⟨_, rfl⟩
   rw [← hX] at HL0 HC
   rw [← hY] at HL1 HC
   obtain ⟨ko, rfl⟩ : ∃ ko, gk = ko + 1 := ⟨gk - 1, by omega⟩
   have HKK := Aside0.mk (And.intro hkk hlt)
   have hwr := BW.out
   clear hc0 hc1 hx hy hin0 hin1 hX hY hkk
   go_upto_region 6 with fail
   refine region_quietC (C := fun W => Below w.heap.size w W) (by kernel_rfl) (by kernel_rfl) (hwr.drew) ?_
   repeat (first | ((with_reducible refine at_ql 48 (.tmp 19) ?_); refine wpQuiet_loadK 48 (.tmp 19) rfl _ rfl _ (by kernel_rfl) (fun W hW => HL0.out W hW) ?_; simp only [Act.put, List.setIfInBounds_toArray, List.set_cons_zero, List.set_cons_succ]) | ((with_reducible refine at_ql 48 (.tmp 23) ?_); refine wpQuiet_loadK 48 (.tmp 23) rfl _ rfl _ (by kernel_rfl) (fun W hW => HL1.out W hW) ?_; simp only [Act.put, List.setIfInBounds_toArray, List.set_cons_zero, List.set_cons_succ]) | ((with_reducible refine at_qc 71 ?_); refine wpQuiet_callK Tryz.func71 (by kernel_rfl) rfl #[.agg X, .agg Y] rfl (by simp only [List.map_toArray, List.map_cons, List.map_nil]; rfl) (.bool (decide (x = y))) (by kernel_rfl) (fun W hW => HC.out W hW) ?_; simp only [Act.put, List.setIfInBounds_toArray, List.set_cons_zero, List.set_cons_succ]) | go_big_quiet_step (exact fun _ => rfl))
   refine wpQuiet_nil ?_
   rintro wq hq
   have HW := Aside0.mk hq
   clear hq hwr
   by_cases hxy : x = y
   ·have hde : decide (x = y) = true := decide_eq_true hxy
    rw [hde]
    have HE := Aside0.mk hxy
    clear hxy hde
    go_wp2_with fail
    go_roundg ko
    case measure => have := HKK.out; omega
    case rel => exact ⟨kk + 1, by go_num, by have := HKK.out; omega, HW, ⟨by rw [AL.out, HXY.out.1, HXY.out.2, HE.out]; simp⟩⟩
   ·have hde : decide (x = y) = false := decide_eq_false hxy
    rw [hde]
    have HE := Aside0.mk hxy
    clear hxy hde
    go_wp2_with fail
    go_ret
    exact ⟨by rw [AL.out, HXY.out.1, HXY.out.2, decide_eq_false (fun e => HE.out (List.cons.inj e).1)]; rfl, HW.out⟩
  ·have hltz : ¬ (kk : Int) < (l.length : Int) := by omega
   have hltm : ¬ (kk : Int) < (m.length : Int) := by have := HN.out; omega
   have HK := Aside0.mk (show l.length ≤ kk by omega)
   go_wp2_with fail
   go_ret
   exact ⟨by rw [AL.out, List.drop_of_length_le HK.out, List.drop_of_length_le (by have := HN.out; have := HK.out; omega)]; rfl, BW.out⟩
end Go.Proofs.YtmgbaefgcdglpaaGreatDoor.Net
end
section
namespace Go.Proofs.YtmgbaefgcdglpaaGreatDoor.Net
open Go Go.RowKit Go.Proofs Go.Proofs.YtmgbaefgcdglpaaGreatDoorW.PrintWords Go.Proofs.YtmgbaefgcdglpaaGreatDoorW.PrintLast Go.Proofs.YtmgbaefgcdglpaaGreatDoorW.PrintMore Go.Proofs.YtmgbaefgcdglpaaGreatDoor.Dir
set_option linter.unusedVariables false
set_option linter.unusedSimpArgs false
theorem at_bslice2 {P : Program} {w : World} {ops : Array Oper} {rest : List Oper} {a : Act} {Q : Exit → Act → World → Prop} {dst ty pos after g} (t : TypeId) (x y : Operand) (h : wpList P ops Q (⟨dst, .buildSlice t 2 #[(0, x), (1, y)], ty, pos, after, g⟩ :: rest) a w) : wpList P ops Q (⟨dst, .buildSlice t 2 #[(0, x), (1, y)], ty, pos, after, g⟩ :: rest) a w := h
theorem run_buildSlice2 (P : Program) (w : World) (t elem : TypeId) (k : Nat) (Z : Array Value) (ht : P.underlying t = some (.slice elem)) (hz : ∀ w, (Go.sizeOf elem).run P w = .ok k w) (hv : ∀ w, (zeroValue elem).run P w = .ok (.agg Z) w) (hk : 0 < k) (hk2 : k ≤ 1000) (cs ds : List Value) (hl : cs.length = k) (hl2 : ds.length = k) :
  (Instr.buildSlice t 2 #[(0, .agg cs.toArray), (1, .agg ds.toArray)]).run P w = .ok (.slice (some ⟨w.heap.size, 0, none⟩) 2 2) (w.alloc (.cells (cs ++ ds).toArray elem)) := by
 have hfill : Instr.fill (fun i => some (i * k, k)) ((Array.range (2 * k)).map (Z[· % Z.size]!)) [(0, .agg cs.toArray), (1, .agg ds.toArray)] = some (cs ++ ds).toArray := by
  rw [fill_cons _ _ 0 _ _ (0 * k) k rfl (by simpa [Value.cells] using hl) (by simp; omega)]
  have hsz : ((Array.range (2 * k)).map (Z[· % Z.size]!)).toList.length = 2 * k := by simp
  generalize ((Array.range (2 * k)).map (Z[· % Z.size]!)).toList = zs at hsz
  rw [fill_cons _ _ 1 _ _ (1 * k) k rfl (by simpa [Value.cells] using hl2) (by simp [splice, Value.cells]; omega)]
  simp only [Instr.fill, Value.cells, splice, Nat.zero_mul, Nat.one_mul, Nat.zero_add, List.take_zero, List.nil_append]
  rw [List.take_append_of_le_length (by omega), List.take_of_length_le (by omega), List.drop_append, List.drop_of_length_le (by omega), List.drop_drop, List.drop_of_length_le (by omega)]
  simp
 have h1 : ¬ (2 * k > 2 ^ 24) := by omega
 have h2 : ¬ (2 * k = 0) := by omega
 simp only [Instr.buildSlice, Sem.run_bind, run_underlying ht, Result.andThen_ok, hz, h1, h2, if_false, Sem.run_pure, hv, Value.cells]
 rw [hfill]
 simp [newRow, newObj]
 rfl
theorem execOp_buildSlice2 (P : Program) (w : World) (t : TypeId) (x y : Operand) (o : Oper) (ho : o.op = .buildSlice t 2 #[(0, x), (1, y)]) (a : Act) (v u : Value) (hx : a.eval x = v) (hy : a.eval y = u) (r : Value) (w' : World) (hr : (Instr.buildSlice t 2 #[(0, v), (1, u)]).run P w = .ok r w') : (execOp a.eval o).run P w = .ok (.value r) w' := by
 unfold execOp
 simp only [ho, Sem.run_bind]
 simp [hx, hy, hr]
theorem wpList_buildSlice2 {P : Program} {w : World} {ops : Array Oper} {rest : List Oper} {o : Oper} {a : Act} {Q : Exit → Act → World → Prop} (hgd : o.guard = none) (t : TypeId) (x y : Operand) (ho : o.op = .buildSlice t 2 #[(0, x), (1, y)]) (v u : Value) (hx : a.eval x = v) (hy : a.eval y = u) (r : Value) (w' : World)
  (hr : (Instr.buildSlice t 2 #[(0, v), (1, u)]).run P w = .ok r w') (h : wpList P ops Q rest (a.put o.dst r) w') : wpList P ops Q (o :: rest) a w :=
 wpList_plain hgd fun K hK => by
  unfold Oper.wp
  rw [execOp_buildSlice2 P w t x y o ho a v u hx hy r w' hr]
  exact hK _ _ h
theorem buildK2 (w : World) (k l : Key) : (Instr.buildSlice 23 2 #[(0, .agg (encK k).toArray), (1, .agg (encK l).toArray)]).run Tryz.prog w = .ok (.slice (some ⟨w.heap.size, 0, none⟩) 2 2) (w.alloc (.cells (encK k ++ encK l).toArray 28)) :=
 run_buildSlice2 Tryz.prog w 23 28 32 _ Tryz.underlying23 Tryz.sizeOf28 Tryz.zeroValue28 (by decide) (by decide) _ _ (encK_len k) (encK_len l)
theorem own_two (w : World) (base : Nat) (hb : base ≤ w.heap.size) (k l : Key) : OwnK (w.alloc (.cells (encK k ++ encK l).toArray 28)) base (some ⟨w.heap.size, 0, none⟩) 2 [k, l] := by
 have := World.ownsRow_lit (base := base) (e := 28) (size := 32) w (encK k ++ encK l).toArray 2 hb (by decide) (by simp [encK_len])
 unfold OwnK flatK
 simpa using this
theorem size48 : (Tryz.prog.info? 48).map (·.size) = some 36 := by kernel_rfl
theorem head34 (c n : Int) (k : Key) (e : Int) : (headCells c n k e)[34]? = some (.int .i64 e) := by
 unfold headCells
 rw [List.getElem?_cons_succ, List.getElem?_cons_succ, List.getElem?_append_right (by rw [encK_len]; decide), encK_len]; rfl
theorem headK (c n : Int) (k : Key) (e : Int) (j : Nat) (v : Value) (h : (encK k)[j]? = some v) : (headCells c n k e)[2 + j]? = some v := by
 unfold headCells
 rw [show 2 + j = j + 1 + 1 by omega, List.getElem?_cons_succ, List.getElem?_cons_succ, List.getElem?_append_left (by rw [encK_len]; have := (List.getElem?_eq_some_iff.1 h).1; rwa [encK_len] at this)]
 exact h
theorem drop_next {c n last : Int} {ks : List Key} {l : List Peer} {i : Nat} {p : Peer} (h : l[i]? = some p) : peersGo c n last ks (l.drop i) = (peerOk c n last ks p && peersGo c n p.node (ks ++ [p.key]) (l.drop (i + 1))) := by
 rw [drop_pe h]
 rfl
theorem spans_short {l : List Sp} (h : spansOk l = true) : l.length ≤ 33 := by
 unfold spansOk at h
 simp only [Bool.and_eq_true, decide_eq_true_eq] at h
 exact h.2
set_option maxHeartbeats 4000000 in
set_option maxRecDepth 100000 in
theorem may64 (c n : Int) (k : Key) (e : Int) (ps : List Peer) (A : Option Addr) (cp : Nat) (w : World) (h : PsAt w A cp ps) :
  Calls Tryz.prog 64 #[.agg (headCells c n k e).toArray, .slice A ps.length cp] w fun r w' => r = .returned (.bool (headOk c n k e ps)) ∧ Below w.heap.size w w' := by
 obtain ⟨b0, hb0⟩ : ∃ b0, b0 = w.heap.size := ⟨_, rfl⟩
 obtain ⟨W0, hW0⟩ : ∃ W0, W0 = (w.alloc (.cells (headCells c n k e).toArray 102)).alloc (.cells zeroKey 28) := ⟨_, rfl⟩
 have hbw : Below w.heap.size w W0 := by rw [hW0]; exact ((Below.refl _ w).alloc (Nat.le_refl _) _).alloc (by simp) _
 have q1 : W0.heap[b0]? = some (.cells (headCells c n k e).toArray 102 (0, 0)) := by rw [hW0, hb0, Below.heap_alloc _ _ _ (by simp)]; exact heap_alloc_new w _
 have q2 : W0.heap[b0 + 1]? = some (.cells (encK key0).toArray 28 (0, 0)) := by rw [hW0, hb0, zeroKey_eq]; have := heap_alloc_new (w.alloc (.cells (headCells c n k e).toArray 102)) (.cells zeroKey 28); rw [World.size_alloc] at this; exact this
 have hsz : w.heap.size ≤ W0.heap.size := hbw.size
 have H0 := Aside0.mk (h.below hbw)
 have hplen := h.len
 have FC := Aside0.mk (fun (W : World) (hb : Below W0.heap.size W0 W) => And.intro (show W.cell? ⟨b0, 0, none⟩ = some (.int .i64 c) by rw [cell_of_heap (roomN q1 hb)]; rfl) (And.intro (show W.cell? ⟨b0, 1, none⟩ = some (.int .i64 n) by rw [cell_of_heap (roomN q1 hb)]; rfl) (show W.cell? ⟨b0, 34, none⟩ = some (.int .i64 e) by rw [cell_of_heap (roomN q1 hb)]; exact head34 c n k e)))
 have LK := Aside0.mk (fun (W : World) (hb : Below W0.heap.size W0 W) => run_loadAtK Tryz.prog W 28 32 Tryz.isAgg28 Tryz.sizeOf28 b0 2 (encK k) (encK_len _) (fun j v hj => by rw [cell_of_heap (roomN q1 hb)]; exact headK c n k e j v hj))
 have LZ := Aside0.mk (fun (W : World) (hb : Below W0.heap.size W0 W) => run_loadAtK Tryz.prog W 28 32 Tryz.isAgg28 Tryz.sizeOf28 (b0 + 1) 0 (encK key0) (encK_len _) (cells_of_heap (roomN q2 hb)))
 have EX := Aside0.mk (fun (W : World) (hb : Below W0.heap.size W0 W) => below_step hbw hb)
 obtain ⟨X, hX⟩ : ∃ X, X = (headCells c n k e).toArray := ⟨_, rfl⟩
 rw [← hX] at hW0 ⊢
 obtain ⟨R, hR⟩ : ∃ R, R = headOk c n k e ps := ⟨_, rfl⟩
 rw [← hR]
 have HR := Aside0.mk hR
 have he := eqlK k key0
 have hgd := fun op a b w => guardK op a b k key0 w
 clear q1 q2 hbw h hX hR hsz
 go_enter Tryz.func64, Tryz.ntmps64
 go_upto_region 2 with fail
 change Code.wp _ _ _ _ ((w.alloc (.cells X 102)).alloc (.cells zeroKey 28))
 rw [← hW0, ← hb0]
 clear hW0 hb0
 obtain ⟨k0, k1, k34⟩ := FC.out W0 (Below.refl _ _)
 go_wp2_with fail
 refine (number63 c W0).mono ?_
 rintro r w1 ⟨rfl, hb1⟩
 obtain ⟨n1, hn1⟩ : ∃ n1, n1 = number c := ⟨_, rfl⟩
 rw [← hn1]
 have B1 := Aside0.mk hb1
 obtain ⟨k0, k1, k34⟩ := FC.out w1 hb1
 clear hb1
 have N1 := Aside0.mk hn1
 clear hn1
 cases n1
 ·go_wp2_with fail
  go_ret
  exact ⟨by rw [HR.out]; unfold headOk; rw [← N1.out]; rfl, EX.out _ B1.out⟩
 go_wp2_with fail
 refine (node49 n w1).mono ?_
 rintro r w2 ⟨rfl, hb2⟩
 obtain ⟨n2, hn2⟩ : ∃ n2, n2 = nodeIn n := ⟨_, rfl⟩
 rw [← hn2]
 have B2 := Aside0.mk (below_step B1.out hb2)
 clear hb2
 have N2 := Aside0.mk hn2
 clear hn2
 obtain ⟨k0, k1, k34⟩ := FC.out w2 B2.out
 cases n2
 ·go_wp2_with fail
  go_ret
  exact ⟨by rw [HR.out]; unfold headOk; rw [← N1.out, ← N2.out]; rfl, EX.out _ B2.out⟩
 have HR2 := Aside0.mk (show R = if k = key0 then decide (e = 0) && ps.isEmpty else number e && decide (c < e) && peersGo c n 0 [key0, k] ps by rw [HR.out]; unfold headOk; rw [← N1.out, ← N2.out]; rfl)
 clear HR N1 N2
 have lk := Aside0.mk (LK.out w2 B2.out)
 have lz := Aside0.mk (LZ.out w2 B2.out)
 by_cases hk : k = key0
 ·have d1 : decide (k = key0) = true := decide_eq_true hk
  have HK := Aside0.mk hk
  clear hk
  by_cases h3 : e = 0
  ·by_cases h4 : ps.length = 0
   ·have h4z : (ps.length : Int) = 0 := by omega
    have H34 := Aside0.mk (And.intro h3 h4)
    subst h3
    have d4 : decide ((ps.length : Int) = 0) = true := decide_eq_true h4z
    clear h4
    go_wp2_with (first | ((with_reducible refine at_load 28 (.tmp 23) ?_); refine wpList_loadK rfl 28 (.tmp 23) rfl _ rfl _ lk.out ?_) | ((with_reducible refine at_load 28 (.tmp 24) ?_); refine wpList_loadK rfl 28 (.tmp 24) rfl _ rfl _ lz.out ?_) | ((with_reducible refine at_load 28 (.tmp 22) ?_); refine wpList_loadK rfl 28 (.tmp 22) rfl _ rfl _ lk.out ?_) | ((with_reducible refine at_load 28 (.tmp 5) ?_); refine wpList_loadK rfl 28 (.tmp 5) rfl _ rfl _ lz.out ?_))
    go_ret
    exact ⟨by rw [HR2.out, if_pos HK.out, List.length_eq_zero_iff.1 H34.out.2]; rfl, EX.out _ B2.out⟩
   ·have h4z : ¬ (ps.length : Int) = 0 := by omega
    have H34 := Aside0.mk (And.intro h3 h4)
    subst h3
    have d4 : decide ((ps.length : Int) = 0) = false := decide_eq_false h4z
    clear h4
    go_wp2_with (first | ((with_reducible refine at_load 28 (.tmp 22) ?_); refine wpList_loadK rfl 28 (.tmp 22) rfl _ rfl _ lk.out ?_) | ((with_reducible refine at_load 28 (.tmp 5) ?_); refine wpList_loadK rfl 28 (.tmp 5) rfl _ rfl _ lz.out ?_))
    go_ret
    exact ⟨by rw [HR2.out, if_pos HK.out]; have h9 := H34.out.2; cases ps with | nil => exact absurd rfl h9 | cons a l => simp; omega, EX.out _ B2.out⟩
  ·have H3 := Aside0.mk h3
   have d3 : decide (e = 0) = false := decide_eq_false h3
   go_wp2_with (first | ((with_reducible refine at_load 28 (.tmp 22) ?_); refine wpList_loadK rfl 28 (.tmp 22) rfl _ rfl _ lk.out ?_) | ((with_reducible refine at_load 28 (.tmp 5) ?_); refine wpList_loadK rfl 28 (.tmp 5) rfl _ rfl _ lz.out ?_))
   go_ret
   exact ⟨by rw [HR2.out, if_pos HK.out, decide_eq_false H3.out]; rfl, EX.out _ B2.out⟩
 have d1 : decide (k = key0) = false := decide_eq_false hk
 have HK := Aside0.mk hk
 clear hk
 go_wp2_with (first | ((with_reducible refine at_load 28 (.tmp 22) ?_); refine wpList_loadK rfl 28 (.tmp 22) rfl _ rfl _ lk.out ?_) | ((with_reducible refine at_load 28 (.tmp 5) ?_); refine wpList_loadK rfl 28 (.tmp 5) rfl _ rfl _ lz.out ?_))
 refine (number63 e w2).mono ?_
 rintro r w3 ⟨rfl, hb3⟩
 obtain ⟨n3, hn3⟩ : ∃ n3, n3 = number e := ⟨_, rfl⟩
 rw [← hn3]
 have B3 := Aside0.mk (below_step B2.out hb3)
 have N3 := Aside0.mk hn3
 clear hb3 hn3
 obtain ⟨k0, k1, k34⟩ := FC.out w3 B3.out
 cases n3
 ·go_wp2_with fail
  go_ret
  exact ⟨by rw [HR2.out, if_neg HK.out, ← N3.out]; rfl, EX.out _ B3.out⟩
 by_cases hec : e ≤ c
 ·have d5 : decide (e ≤ c) = true := decide_eq_true hec
  have HE := Aside0.mk hec
  go_wp2_with fail
  go_ret
  exact ⟨by rw [HR2.out, if_neg HK.out, ← N3.out, decide_eq_false (show ¬ c < e by have := HE.out; omega)]; rfl, EX.out _ B3.out⟩
 have d5 : decide (e ≤ c) = false := decide_eq_false hec
 have HR3 := Aside0.mk (show R = peersGo c n 0 [key0, k] ps by rw [HR2.out, if_neg HK.out, ← N3.out, decide_eq_true (show c < e by omega)]; rfl)
 clear HR2 N3 hec
 have lk3 := Aside0.mk (LK.out w3 B3.out)
 have lz3 := Aside0.mk (LZ.out w3 B3.out)
 have b2 := Aside0.mk (buildK2 w3 key0 k)
 have OW := Aside0.mk (own_two w3 W0.heap.size B3.out.size key0 k)
 obtain ⟨g3, hg3⟩ : ∃ g3, g3 = w3.heap.size := ⟨_, rfl⟩
 obtain ⟨w4, hw4⟩ : ∃ w4, w4 = w3.alloc (.cells (encK key0 ++ encK k).toArray 28) := ⟨_, rfl⟩
 have B4 := Aside0.mk (show Below W0.heap.size W0 w4 by rw [hw4]; exact B3.out.alloc B3.out.size _)
 rw [← hg3, ← hw4] at b2
 rw [← hg3, ← hw4] at OW
 clear hg3 hw4
 go_upto_region 11 with (first | ((with_reducible refine at_load 28 (.tmp 5) ?_); refine wpList_loadK rfl 28 (.tmp 5) rfl _ rfl _ lz3.out ?_) | ((with_reducible refine at_load 28 (.tmp 47) ?_); refine wpList_loadK rfl 28 (.tmp 47) rfl _ rfl _ lk3.out ?_) | ((with_reducible refine at_bslice2 23 (.tmp 46) (.tmp 48) ?_); refine wpList_buildSlice2 rfl 23 (.tmp 46) (.tmp 48) rfl _ _ rfl rfl _ _ b2.out ?_))
 clear k0 k1 k34 lk lz lk3 lz3 b2 d1 d5
 go_loopg [6, 7, 52] ps.length (fun kx s6 s7 s52 wr => ∃ (kk : Nat) (last : Int) (ks : List Key) (A' : Option Addr) (c' : Nat), s6 = .slice A' ks.length c' ∧ s7 = .int .i64 last ∧ s52 = .int .i64 kk ∧ kk + kx = ps.length ∧ Aside0 (Below W0.heap.size W0 wr) ∧ Aside0 (OwnK wr W0.heap.size A' c' ks) ∧ Aside0 ((ks.length : Int) ≤ last + 2 ∧ 0 ≤ last ∧ last ≤ 8) ∧ Aside0 (R = peersGo c n last ks (ps.drop kk)))
 case atStart => exact ⟨0, 0, [key0, k], _, _, rfl, rfl, rfl, by omega, B4, OW, ⟨by simp, by decide, by decide⟩, HR3⟩
 case round =>
  obtain ⟨kk, last, ks, A', c', rfl, rfl, rfl, hkk, BW, OW, LE, AL⟩ := hrel
  by_cases hlt : kk < ps.length
  case neg =>
   have hltz : ¬ (kk : Int) < (ps.length : Int) := by omega
   have HL := Aside0.mk (show ps.length ≤ kk by omega)
   go_wp2_with fail
   go_ret
   exact ⟨by rw [AL.out, List.drop_of_length_le HL.out]; rfl, EX.out _ BW.out⟩
  have hltz : (kk : Int) < (ps.length : Int) := by omega
  obtain ⟨p, hp⟩ : ∃ p, ps[kk]? = some p := ⟨_, List.getElem?_eq_getElem hlt⟩
  obtain ⟨g, o, P1, d1, P2, d2, hA, hin, hld⟩ := H0.out.load hp
  subst hA
  have L0 := Aside0.mk (hld wr BW.out)
  have HIN := Aside0.mk hin
  have NX := Aside0.mk (show R = (peerOk c n last ks p && peersGo c n p.node (ks ++ [p.key]) (ps.drop (kk + 1))) by rw [AL.out]; exact drop_next hp)
  have st := Aside0.mk (fun (C : Array Value) (hc : C.size = 36) => run_storeNew Tryz.prog wr 48 36 size48 C (peerCells p P1 d1 P2 d2).toArray hc (by simpa using peerCells_len p P1 d1 P2 d2) (fun v hv => peerV_one p _ _ rfl rfl v (by simpa [peerCells] using hv)))
  obtain ⟨nb, hnb⟩ : ∃ nb, nb = wr.heap.size := ⟨_, rfl⟩
  obtain ⟨w6, hw6⟩ : ∃ w6, w6 = wr.alloc (.cells (peerCells p P1 d1 P2 d2).toArray 48) := ⟨_, rfl⟩
  have h6 : w6.heap[nb]? = some (.cells (peerCells p P1 d1 P2 d2).toArray 48 (0, 0)) := by rw [hw6, hnb]; exact heap_alloc_new wr _
  have b6 : Below wr.heap.size wr w6 := by rw [hw6]; exact (Below.refl _ wr).alloc (Nat.le_refl _) _
  have B6 := Aside0.mk (below_step BW.out b6)
  have OW6 := Aside0.mk (OW.out.below b6)
  have FP := Aside0.mk (fun (W : World) (hb : Below w6.heap.size w6 W) => And.intro (show W.cell? ⟨nb, 0, none⟩ = some (.int .i64 p.node) by rw [cell_of_heap (roomN h6 hb)]; exact peer0 p P1 d1 P2 d2) (And.intro (show W.cell? ⟨nb, 33, none⟩ = some (.int .i64 p.exp) by rw [cell_of_heap (roomN h6 hb)]; exact peer33 p P1 d1 P2 d2) (And.intro (show W.cell? ⟨nb, 34, none⟩ = some (.slice P1 p.inn.length d1) by rw [cell_of_heap (roomN h6 hb)]; exact peer34 p P1 d1 P2 d2) (show W.cell? ⟨nb, 35, none⟩ = some (.slice P2 p.out.length d2) by rw [cell_of_heap (roomN h6 hb)]; exact peer35 p P1 d1 P2 d2))))
  have LP := Aside0.mk (fun (W : World) (hb : Below w6.heap.size w6 W) => run_loadAtK Tryz.prog W 28 32 Tryz.isAgg28 Tryz.sizeOf28 nb 1 (encK p.key) (encK_len _) (fun j v hj => by rw [cell_of_heap (roomN h6 hb)]; exact peerK p P1 d1 P2 d2 j v hj))
  have SP := Aside0.mk (fun (W : World) (hb : Below w6.heap.size w6 W) => And.intro (hin.inn.below (below_step B6.out hb)) (hin.out.below (below_step B6.out hb)))
  have PL := Aside0.mk (And.intro hin.inn.len hin.out.len)
  obtain ⟨X6, hX6⟩ : ∃ X6, X6 = (peerCells p P1 d1 P2 d2).toArray := ⟨_, rfl⟩
  rw [← hX6] at L0 st hw6
  clear hX6 h6 b6 hp hin hld HIN AL OW
  have HKK := Aside0.mk (And.intro hkk hlt)
  clear hlt
  go_upto_region 13 with (first | ((with_reducible refine at_load 48 (.tmp 54) ?_); refine wpList_loadK rfl 48 (.tmp 54) rfl _ rfl _ L0.out ?_) | ((with_reducible refine at_store 48 (.tmp 9) (.tmp 55) ?_); refine wpList_storeK rfl 48 (.tmp 9) (.tmp 55) rfl rfl _ _ rfl rfl _ (st.out _ rfl) ?_))
  rw [← hw6, ← hnb]
  clear hw6 hnb L0 st
  obtain ⟨k0, k1, -⟩ := FC.out w6 B6.out
  obtain ⟨j0, j33, j34, j35⟩ := FP.out w6 (Below.refl _ _)
  by_cases e1 : p.node ≤ last
  ·have e1d : decide (p.node ≤ last) = true := decide_eq_true e1
   have E1 := Aside0.mk e1
   clear e1
   go_wp2_with fail
   go_ret
   exact ⟨by rw [NX.out]; unfold peerOk; rw [decide_eq_false (show ¬ last < p.node by have := E1.out; omega)]; simp, EX.out _ B6.out⟩
  have e1d : decide (p.node ≤ last) = false := decide_eq_false e1
  have E1 := Aside0.mk (show last < p.node by omega)
  go_wp2_with fail
  refine (node49 p.node w6).mono ?_
  rintro r w7 ⟨rfl, hb7⟩
  obtain ⟨n4, hn4⟩ : ∃ n4, n4 = nodeIn p.node := ⟨_, rfl⟩
  rw [← hn4]
  have C7 := Aside0.mk hb7
  have N4 := Aside0.mk hn4
  clear hb7 hn4 k0 k1 j0 j33 j34 j35
  obtain ⟨k0, k1, -⟩ := FC.out w7 (below_step B6.out C7.out)
  obtain ⟨j0, j33, j34, j35⟩ := FP.out w7 C7.out
  cases n4
  ·go_wp2_with fail
   go_ret
   exact ⟨by rw [NX.out]; unfold peerOk; rw [← N4.out]; simp, EX.out _ (below_step B6.out C7.out)⟩
  by_cases e2 : p.node = n
  ·subst e2
   go_wp2_with fail
   go_ret
   exact ⟨by rw [NX.out]; unfold peerOk; rw [decide_eq_false (show ¬ p.node ≠ p.node from fun h => h rfl)]; simp, EX.out _ (below_step B6.out C7.out)⟩
  have e2d : decide (p.node = n) = false := decide_eq_false e2
  have E2 := Aside0.mk e2
  have e2b : (p.node == n) = false := beq_false_of_ne e2
  have lp7 := Aside0.mk (LP.out w7 C7.out)
  go_wp2_with ((with_reducible refine at_load 28 (.tmp 76) ?_); refine wpList_loadW (by rfl) 28 (.tmp 76) rfl _ rfl _ lp7.out ?_)
  refine (contains_any ks p.key A' c' W0.heap.size w7 (OW6.out.below C7.out) (by have := LE.out; omega)).mono ?_
  rintro r w8 ⟨rfl, hb8⟩
  have C8 := Aside0.mk (below_step C7.out hb8)
  obtain ⟨n5, hn5⟩ : ∃ n5, n5 = decide (p.key ∈ ks) := ⟨_, rfl⟩
  rw [← hn5]
  have N5 := Aside0.mk hn5
  clear hb8 hn5 e2 e2d e2b k0 k1 j0 j33 j34 j35 lp7
  obtain ⟨k0, k1, -⟩ := FC.out w8 (below_step B6.out C8.out)
  obtain ⟨j0, j33, j34, j35⟩ := FP.out w8 C8.out
  cases n5
  case true =>
   go_wp2_with fail
   go_ret
   exact ⟨by rw [NX.out]; unfold peerOk; rw [decide_eq_false (show ¬ p.key ∉ ks from fun h => h (of_decide_eq_true N5.out.symm))]; simp, EX.out _ (below_step B6.out C8.out)⟩
  go_wp2_with fail
  refine (number63 p.exp w8).mono ?_
  rintro r w9 ⟨rfl, hb9⟩
  obtain ⟨n6, hn6⟩ : ∃ n6, n6 = number p.exp := ⟨_, rfl⟩
  rw [← hn6]
  have C9 := Aside0.mk (below_step C8.out hb9)
  have N6 := Aside0.mk hn6
  clear hb9 hn6 k0 k1 j0 j33 j34 j35
  obtain ⟨k0, k1, -⟩ := FC.out w9 (below_step B6.out C9.out)
  obtain ⟨j0, j33, j34, j35⟩ := FP.out w9 C9.out
  cases n6
  ·go_wp2_with fail
   go_ret
   exact ⟨by rw [NX.out]; unfold peerOk; rw [← N6.out]; simp, EX.out _ (below_step B6.out C9.out)⟩
  by_cases e3 : p.exp ≤ c
  ·have e3d : decide (p.exp ≤ c) = true := decide_eq_true e3
   have E3 := Aside0.mk e3
   clear e3
   go_wp2_with fail
   go_ret
   exact ⟨by rw [NX.out]; unfold peerOk; rw [decide_eq_false (show ¬ c < p.exp by have := E3.out; omega)]; simp, EX.out _ (below_step B6.out C9.out)⟩
  have e3d : decide (p.exp ≤ c) = false := decide_eq_false e3
  have E3 := Aside0.mk (show c < p.exp by omega)
  clear e3
  go_wp2_with fail
  refine (spans119 p.inn P1 d1 w9 (SP.out w9 C9.out).1).mono ?_
  rintro r w10 ⟨rfl, hb10⟩
  obtain ⟨n7, hn7⟩ : ∃ n7, n7 = spansOk p.inn := ⟨_, rfl⟩
  rw [← hn7]
  have C10 := Aside0.mk (below_step C9.out hb10)
  have N7 := Aside0.mk hn7
  clear hb10 hn7 k0 k1 j0 j33 j34 j35
  obtain ⟨k0, k1, -⟩ := FC.out w10 (below_step B6.out C10.out)
  obtain ⟨j0, j33, j34, j35⟩ := FP.out w10 C10.out
  cases n7
  ·go_wp2_with fail
   go_ret
   exact ⟨by rw [NX.out]; unfold peerOk; rw [← N7.out]; simp, EX.out _ (below_step B6.out C10.out)⟩
  go_wp2_with fail
  refine (spans119 p.out P2 d2 w10 (SP.out w10 C10.out).2).mono ?_
  rintro r w11 ⟨rfl, hb11⟩
  obtain ⟨n8, hn8⟩ : ∃ n8, n8 = spansOk p.out := ⟨_, rfl⟩
  rw [← hn8]
  have C11 := Aside0.mk (below_step C10.out hb11)
  have N8 := Aside0.mk hn8
  clear hb11 hn8 k0 k1 j0 j33 j34 j35
  obtain ⟨k0, k1, -⟩ := FC.out w11 (below_step B6.out C11.out)
  obtain ⟨j0, j33, j34, j35⟩ := FP.out w11 C11.out
  cases n8
  ·go_wp2_with fail
   go_ret
   exact ⟨by rw [NX.out]; unfold peerOk; rw [← N8.out]; simp, EX.out _ (below_step B6.out C11.out)⟩
  have s1 := spans_short N7.out.symm
  have s2 := spans_short N8.out.symm
  have hwr64 : wrap64 ((p.inn.length : Int) + (p.out.length : Int)) = (p.inn.length : Int) + (p.out.length : Int) := by unfold wrap64; omega
  by_cases e4 : (p.inn.length : Int) + (p.out.length : Int) = 0
  ·have e4d : decide ((p.inn.length : Int) + (p.out.length : Int) = 0) = true := decide_eq_true e4
   have e4b : ((p.inn.length : Int) + (p.out.length : Int) == 0) = true := by simpa using e4
   have E4 := Aside0.mk e4
   clear e4
   go_wp2_with fail
   go_ret
   exact ⟨by rw [NX.out]; unfold peerOk; rw [decide_eq_false (show ¬ p.inn.length + p.out.length ≠ 0 by have := E4.out; omega)]; simp, EX.out _ (below_step B6.out C11.out)⟩
  have e4d : decide ((p.inn.length : Int) + (p.out.length : Int) = 0) = false := decide_eq_false e4
  have GO := Aside0.mk (show R = peersGo c n p.node (ks ++ [p.key]) (ps.drop (kk + 1)) by
   rw [NX.out]
   unfold peerOk
   rw [← N4.out, ← N6.out, ← N7.out, ← N8.out, decide_eq_true E1.out, decide_eq_true (show p.node ≠ n from E2.out), decide_eq_true (show p.key ∉ ks from of_decide_eq_false N5.out.symm), decide_eq_true E3.out, decide_eq_true (show p.inn.length + p.out.length ≠ 0 by omega)]
   rfl)
  have NI := Aside0.mk (show 1 ≤ p.node ∧ p.node ≤ 8 by have := N4.out; unfold nodeIn at this; exact of_decide_eq_true this.symm)
  have lp11 := Aside0.mk (LP.out w11 C11.out)
  have OW11 := Aside0.mk (OW6.out.below C11.out)
  have B11 := Aside0.mk (below_step B6.out C11.out)
  have HKL := Aside0.mk (show ks.length ≤ 100000000000 by have := LE.out; omega)
  have e4b : ((p.inn.length : Int) + (p.out.length : Int) == 0) = false := by simpa using e4
  clear e4 s1 s2
  go_upto_region 20 with fail
  go_wp2_with (first | ((with_reducible refine at_load 28 (.tmp 116) ?_); refine wpList_loadK rfl 28 (.tmp 116) rfl _ rfl _ lp11.out ?_) | (refine wpList_pushK rfl rfl (.tmp 117) (.tmp 115) (.tmp 118) rfl rfl p.key rfl W0.heap.size A' c' ks.length ks OW11.out rfl rfl rfl HKL.out B11.out.size ?_; intro A2 c2 w12 hown hbel hle))
  have OW12 := Aside0.mk hown
  have B12 := Aside0.mk (B11.out.trans hbel)
  clear hown hbel hle
  go_wp2_with fail
  go_roundg (ps.length - (kk + 1))
  case measure => have := HKK.out; omega
  case rel => exact ⟨kk + 1, p.node, ks ++ [p.key], A2, c2, by rw [List.length_append]; rfl, rfl, by go_num, by have := HKK.out; omega, B12, OW12, ⟨by rw [List.length_append, List.length_singleton]; have h1 := LE.out; have h2 := E1.out; have h3 := NI.out; refine ⟨by push_cast; omega, by omega, by omega⟩⟩, GO⟩
end Go.Proofs.YtmgbaefgcdglpaaGreatDoor.Net
end
