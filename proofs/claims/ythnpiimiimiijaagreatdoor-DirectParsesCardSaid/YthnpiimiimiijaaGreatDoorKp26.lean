/- The document's Parse: the walk. -/
import Derived.Test.YthnpiimiimiijaaGreatDoorKp25
section
namespace Go.Proofs.YthnpiimiimiijaaGreatDoor.Dir
open Go Go.RowKit Go.Proofs Go.Proofs.YthnpiimiimiijaaGreatDoorW.PrintWords Go.Proofs.YthnpiimiimiijaaGreatDoorW.PrintLast Go.Proofs.YthnpiimiimiijaaGreatDoorW.PrintMore
set_option linter.unusedVariables false
set_option linter.unusedSimpArgs false
theorem stM_le (m : Nat) (st : St2) : (stM (stG 1 st).1 m (stG 1 st).2).1 ≤ m := by
 by_cases h : st.1 = 0
 ·obtain ⟨e, r⟩ := st
  have h' : e = 0 := h
  subst h'
  have hg := fit_G 1 r
  cases g : getP 1 r with
  | error c =>
   rw [g] at hg
   have b : (stG 1 (0, r)).2.1 ≠ 0 := by rw [hg.2]; exact hg.1
   rw [stM_bad b]
   unfold stG
   rw [if_neg (by simp), g]
   exact Nat.zero_le _
  | ok p =>
   obtain ⟨n, r'⟩ := p
   rw [g] at hg
   have e1 : stG 1 (0, r) = (n, (0, r')) := hg
   rw [e1]
   unfold stM
   split
   ·exact Nat.zero_le _
   ·rename_i h2
    have : ¬ m < n := fun h3 => h2 ⟨rfl, h3⟩
    omega
 ·rw [stG_bad h, stM_bad h]
  exact Nat.zero_le _
theorem stMany_step {α : Type} {f : St2 → α × St2} {n : Nat} {st0 st : St2} {N : Nat} {ds : List α} (hz : st.1 = 0) (h : stMany f N st0 = (ds ++ (stMany f (n + 1) st).1, (stMany f (n + 1) st).2)) :
  stMany f N st0 = ((ds ++ [(f st).1]) ++ (stMany f n (f st).2).1, (stMany f n (f st).2).2) := by
 rw [h]
 show (ds ++ (if st.1 ≠ 0 then ([], st) else ((f st).1 :: (stMany f n (f st).2).1, (stMany f n (f st).2).2)).1, (if st.1 ≠ 0 then ([], st) else ((f st).1 :: (stMany f n (f st).2).1, (stMany f n (f st).2).2)).2) = _
 rw [if_neg (by simp [hz])]
 simp
theorem stMany_stop {α : Type} {f : St2 → α × St2} {n : Nat} {st0 st : St2} {N : Nat} {ds : List α} (hz : n = 0 ∨ st.1 ≠ 0) (h : stMany f N st0 = (ds ++ (stMany f n st).1, (stMany f n st).2)) : stMany f N st0 = (ds, st) := by
 rw [h]
 rcases hz with rfl | hz
 ·simp [stMany]
 ·rw [stMany_bad hz]; simp
theorem wpList_build0 {P : Program} {w : World} {ops : Array Oper} {rest : List Oper} {o : Oper} {a : Act} {Q : Exit → Act → World → Prop} (hgd : o.guard = none) (t : TypeId) (ho : o.op = .build t #[]) (r : Value) (w' : World)
  (hr : (Instr.build t #[]).run P w = .ok r w') (h : wpList P ops Q rest (a.put o.dst r) w') : wpList P ops Q (o :: rest) a w :=
 wpList_plain hgd fun K hK => by
  unfold Oper.wp
  have : (execOp a.eval o).run P w = .ok (.value r) w' := by
   unfold execOp
   simp only [ho, Sem.run_bind]
   simp [hr]
  rw [this]
  exact hK _ _ h
theorem stDev_eq {st : St2} {b1 b3 b4 b5 : Nat × St2} {b2 : Key × St2} (h1 : b1 = stG 1 st) (h2 : b2 = stK b1.2) (h3 : b3 = stG 7 b2.2) (h4 : b4 = stG 1 b3.2) (h5 : b5 = stM b4.1 1 b4.2) : stDev st = (⟨(b1.1 : Int), b2.1, (b3.1 : Int), decide (b5.1 = 1)⟩, b5.2) := by
 subst h1; subst h2; subst h3; subst h4; subst h5; rfl
theorem stBook_eq {l : List UInt8} {a1 a2 a3 a4 a6 a7 : Nat × St2} {ds : List Dev} {ks : List Key} {s5 s8 : St2} (h1 : a1 = stG 7 (0, l)) (h2 : a2 = stG 7 a1.2) (h3 : a3 = stG 1 a2.2) (h4 : a4 = stM a3.1 8 a3.2) (h5 : stMany stDev a4.1 a4.2 = (ds, s5)) (h6 : a6 = stG 1 s5) (h7 : a7 = stM a6.1 64 a6.2) (h8 : stMany stK a7.1 a7.2 = (ks, s8)) :
  stBook l = ⟨a1.1, a2.1, a4.1, ds, a7.1, ks, s8⟩ := by
 subst h1; subst h2; subst h3; subst h4; subst h6; subst h7
 unfold stBook
 simp only [h5, h8]
theorem st_said_bad {l : List UInt8} {v k n m : Nat} {ds : List Dev} {ks : List Key} {st : St2} (h : stBook l = ⟨v, k, n, ds, m, ks, st⟩) (he : st.1 ≠ 0) : bookSaid l (.error st.1) := by
 unfold bookSaid
 rw [st_raw, h]
 simp [he]
theorem st_said_oct {l : List UInt8} {v k n m : Nat} {ds : List Dev} {ks : List Key} {st : St2} {c : Int} (h : stBook l = ⟨v, k, n, ds, m, ks, st⟩) (he : st.1 = 0) (ho : octP 1024 st.2 = .error c) : bookSaid l (.error c) := by
 unfold bookSaid
 rw [st_raw, h]
 simp [he, ho]
theorem st_said_raw {l : List UInt8} {v k n m : Nat} {ds : List Dev} {ks : List Key} {st : St2} {t r : List UInt8} (h : stBook l = ⟨v, k, n, ds, m, ks, st⟩) (he : st.1 = 0) (ho : octP 1024 st.2 = .ok (t, r)) : rawP l = .ok (⟨(v : Int), (k : Int), ds, ks, t⟩, r) := by
 rw [st_raw, h]
 simp [he, ho]
theorem yields_build0 {P : Program} {w : World} (t : TypeId) (o : Oper) (ho : o.op = .build t #[]) (a : Act) (v : Value) (hr : (Instr.build t #[]).run P w = .ok v w) : (execOp a.eval o).run P w = .ok (.value v) w := by
 unfold execOp
 simp only [ho, Sem.run_bind]
 simp [hr]
theorem run_build43 (w : World) : (Instr.build 43 #[]).run Tryz.prog w = .ok (.agg (bookCells book0 none 0 none 0).toArray) w := by
 simp [Instr.build, run_underlying Tryz.underlying43, Tryz.zeroValue43, Instr.fill]
 rfl
set_option maxHeartbeats 16000000 in
set_option maxRecDepth 100000 in
theorem parse36 (l : List UInt8) (n0 : Nat) (hn : n0 = l.length) (A : Option Addr) (c : Nat) (w : World) (h : SrcAt w A l.length 1 (l.map byteV)) (hl : l.length ≤ 140737488355328) :
  Calls Tryz.prog 36 #[.slice A n0 c] w fun e w' => ParseEnd w w' l e ∧ Below w.heap.size w w' := by
 obtain ⟨p, hp⟩ : ∃ p, p = w.heap.size := ⟨_, rfl⟩
 obtain ⟨W1, hW1⟩ : ∃ W1, W1 = w.alloc (.cells #[.int .i64 0, .int .i64 0, .slice none 0 0, .slice none 0 0, .string ⟨#[]⟩] 43) := ⟨_, rfl⟩
 have hb1 : Below w.heap.size w W1 := by rw [hW1]; exact (Below.refl _ w).alloc (Nat.le_refl _) _
 have q0 : W1.heap[p]? = some (.cells (bookCells book0 none 0 none 0).toArray 43 (0, 0)) := by rw [hW1, hp]; exact heap_alloc_new w _
 have HN := Aside0.mk (new73 l n0 hn A c W1 (h.grown hb1) hl)
 have HB1 := Aside0.mk (And.intro hb1 hp)
 have HQ := Aside0.mk q0
 clear hn h hl hb1 q0
 go_enter Tryz.func36, Tryz.ntmps36
 go_upto_region 1 with fail
 change Code.wp _ _ _ _ (w.alloc (.cells #[.int .i64 0, .int .i64 0, .slice none 0 0, .slice none 0 0, .string ⟨#[]⟩] 43))
 rw [← hW1, ← hp]
 clear hW1 hp
 go_wp2_with fail
 refine HN.out.mono ?_
 rintro e w2 ⟨br, rfl, hr, hb⟩
 obtain ⟨xr, hxr⟩ : ∃ xr, xr = w2.heap.size := ⟨_, rfl⟩
 obtain ⟨W2, hW2⟩ : ∃ W2, W2 = w2.alloc (.cells #[.pointer (some ⟨br, 0, none⟩), .int .i64 0] 119) := ⟨_, rfl⟩
 have hbx := (Below.refl w2.heap.size w2).alloc (Nat.le_refl _) (.cells #[.pointer (some ⟨br, 0, none⟩), .int .i64 0] 119)
 have hrr : RR W2 w.heap.size br l := by
  rw [hW2]
  obtain ⟨A9, c9, xs, pos, ha, ho, h1, h2, h3, h4⟩ := hr.below hbx
  exact ⟨A9, c9, xs, pos, ha, own_weaken ho HB1.out.1.size, h1, h2, h3, Nat.le_trans HB1.out.1.size h4⟩
 have HR2 := Aside0.mk (show RSt W2 w.heap.size xr (0, l) from ⟨br, by rw [hW2, hxr]; exact heap_alloc_new w2 _, hrr, by rw [hxr]; exact Nat.le_trans HB1.out.1.size hb.size⟩)
 have HB2 := Aside0.mk (show Below w.heap.size w W2 by rw [hW2]; exact below_step (below_step HB1.out.1 hb) hbx)
 have HQ2 := Aside0.mk (show W2.heap[p]? = some (.cells (bookCells book0 none 0 none 0).toArray 43 (0, 0)) by rw [hW2]; exact room_at (room_at HQ.out hb) hbx)
 clear hr hb hbx hrr
 go_upto_region 2 with fail
 rw [← hW2, ← hxr]
 clear hW2 hxr
 obtain ⟨q, hq⟩ : ∃ q, q = W2.heap.size := ⟨_, rfl⟩
 obtain ⟨W3, hW3⟩ : ∃ W3, W3 = W2.alloc (.cells (bookCells book0 none 0 none 0).toArray 43) := ⟨_, rfl⟩
 have hbx := (Below.refl W2.heap.size W2).alloc (Nat.le_refl _) (.cells (bookCells book0 none 0 none 0).toArray 43)
 have hplt := (Array.getElem?_eq_some_iff.1 HQ2.out).1
 have HS3 := Aside0.mk (show BkR w W3 p q xr book0 none 0 none 0 (0, l) by
  rw [hW3, hq]
  exact ⟨room_at HQ2.out hbx, heap_alloc_new W2 _, ownD_nil _ _, ownK_nil _ _, HR2.out.below hbx, below_step HB2.out hbx, HB2.out.size, Nat.le_of_eq HB1.out.2.symm, Nat.ne_of_lt hplt⟩)
 have st := Aside0.mk (fun (c : Array Value) (hc : c.size = 5) => run_storeNew Tryz.prog W2 43 5 size43 c (bookCells book0 none 0 none 0).toArray hc rfl (by simpa using book_one book0 none none 0 0))
 have HBZ := Aside0.mk run_build43
 obtain ⟨BZ, hBZ⟩ : ∃ BZ, BZ = (bookCells book0 none 0 none 0).toArray := ⟨_, rfl⟩
 rw [← hBZ] at hW3 st HBZ
 have HBZE := Aside0.mk hBZ
 clear hbx hplt hBZ
 go_upto_region 3 with (first | ((with_reducible refine at_build 43 #[] ?_); refine wpList_build0 rfl 43 rfl _ _ (HBZ.out _) ?_) | ((with_reducible refine at_store 43 (.tmp 5) (.tmp 20) ?_); refine wpList_storeK rfl 43 (.tmp 5) (.tmp 20) rfl rfl _ _ rfl rfl _ (st.out _ rfl) ?_))
 rw [← hW3, ← hq]
 clear hW3 hq st
 go_wp2_with fail
 refine (get74 w.heap.size xr 7 (0, l) W3 HS3.out.rs (by decide) (by decide)).mono ?_
 rintro e u1 ⟨rfl, hr, hb, hk⟩
 obtain ⟨a1, ha1⟩ : ∃ a1, a1 = stG 7 (0, l) := ⟨_, rfl⟩
 rw [← ha1] at hr ⊢
 have HA1 := Aside0.mk ha1
 have hs1 := HS3.out.step hb hk hr
 have f0 := hs1.frz 0
 have c0 := hs1.cells.1
 have HS4 := Aside0.mk (hs1.set 0 (.int .i64 (a1.1 : Nat)) (B' := ⟨a1.1, 0, [], [], []⟩) rfl (ownD_nil _ _) (ownK_nil _ _))
 clear hb hk hr hs1 ha1
 go_upto_region 4 with fail
 clear f0 c0
 obtain ⟨W4, hW4⟩ : ∃ W4, W4 = u1.setCell ⟨q, 0, none⟩ (.int .i64 (a1.1 : Nat)) := ⟨_, rfl⟩
 rw [← hW4] at HS4 ⊢
 clear hW4
 go_wp2_with fail
 refine (get74 w.heap.size xr 7 a1.2 W4 HS4.out.rs (by decide) (by decide)).mono ?_
 rintro e u2 ⟨rfl, hr, hb, hk⟩
 obtain ⟨a2, ha2⟩ : ∃ a2, a2 = stG 7 a1.2 := ⟨_, rfl⟩
 rw [← ha2] at hr ⊢
 have HA2 := Aside0.mk ha2
 have hs1 := HS4.out.step hb hk hr
 have f0 := hs1.frz 1
 have c0 := hs1.cells.2.1
 have HS5 := Aside0.mk (hs1.set 1 (.int .i64 (a2.1 : Nat)) (B' := ⟨a1.1, a2.1, [], [], []⟩) rfl (ownD_nil _ _) (ownK_nil _ _))
 clear hb hk hr hs1 ha2
 go_upto_region 5 with fail
 clear f0 c0
 obtain ⟨W5, hW5⟩ : ∃ W5, W5 = u2.setCell ⟨q, 1, none⟩ (.int .i64 (a2.1 : Nat)) := ⟨_, rfl⟩
 rw [← hW5] at HS5 ⊢
 clear hW5
 go_wp2_with fail
 refine (get74 w.heap.size xr 1 a2.2 W5 HS5.out.rs (by decide) (by decide)).mono ?_
 rintro e u3 ⟨rfl, hr, hb, hk⟩
 obtain ⟨a3, ha3⟩ : ∃ a3, a3 = stG 1 a2.2 := ⟨_, rfl⟩
 rw [← ha3] at hr ⊢
 have HA3 := Aside0.mk ha3
 have HS6 := Aside0.mk (HS5.out.step hb hk hr)
 clear hr hb hk ha3
 go_wp2_with fail
 refine (most75 w.heap.size xr a3.1 8 a3.2 u3 HS6.out.rs).mono ?_
 rintro e u4 ⟨rfl, hr, hb, hk⟩
 obtain ⟨a4, ha4⟩ : ∃ a4, a4 = stM a3.1 8 a3.2 := ⟨_, rfl⟩
 rw [← ha4] at hr ⊢
 have HA4 := Aside0.mk ha4
 have HN8 := Aside0.mk (show a4.1 ≤ 8 by rw [ha4, HA3.out]; exact stM_le 8 _)
 have HS7 := Aside0.mk (HS6.out.step hb hk hr)
 clear hr hb hk ha4
 obtain ⟨nn, hnn⟩ : ∃ nn, nn = a4.1 := ⟨_, rfl⟩
 rw [← hnn] at HN8 ⊢
 have HNN := Aside0.mk hnn
 clear hnn
 go_upto_region 7 with fail
 go_loopg [7] nn (fun kx s7 wr => ∃ (kk : Nat) (ds : List Dev) (A1 : Option Addr) (c1 : Nat) (st : St2), s7 = .int .i64 kk ∧ kk + kx = nn ∧ Aside0 (BkR w wr p q xr ⟨a1.1, a2.1, ds, [], []⟩ A1 c1 none 0 st ∧ ds.length = kk ∧ stMany stDev nn a4.2 = (ds ++ (stMany stDev (nn - kk) st).1, (stMany stDev (nn - kk) st).2)))
 case atStart => exact ⟨0, [], none, 0, a4.2, rfl, by omega, ⟨HS7.out, rfl, by simp⟩⟩
 case round =>
  obtain ⟨kk, ds, A1, c1, st, rfl, hkk, HT⟩ := hrel
  have hn8 := HN8.out
  have e0 := HT.out.1.rs.cell.1
  obtain ⟨sv, hsv⟩ : ∃ sv, sv = st.1 := ⟨_, rfl⟩
  rw [← hsv] at e0
  have HSV := Aside0.mk hsv
  clear hsv
  by_cases hgo : kk < nn ∧ sv = 0
  ·have hltz : (kk : Int) < (nn : Int) := by omega
   have d3 : decide ((kk : Int) < (nn : Int)) = true := decide_eq_true hltz
   obtain rfl := hgo.2
   have HTN := Aside0.mk (stMany_step (f := stDev) (n := nn - kk - 1) (st := st) HSV.out.symm (by rw [show nn - kk - 1 + 1 = nn - kk by omega]; exact HT.out.2.2))
   have HKK := Aside0.mk (And.intro hkk hgo.1)
   obtain ⟨ko, rfl⟩ : ∃ ko, gk = ko + 1 := ⟨gk - 1, by omega⟩
   clear hkk hgo
   go_wp2_with fail
   refine (get74 w.heap.size xr 1 st wr HT.out.1.rs (by decide) (by decide)).mono ?_
   rintro e u5 ⟨rfl, hr, hb, hk⟩
   obtain ⟨b1, hb1⟩ : ∃ b1, b1 = stG 1 st := ⟨_, rfl⟩
   rw [← hb1] at hr ⊢
   have HY1 := Aside0.mk hb1
   have HU1 := Aside0.mk (HT.out.1.step hb hk hr)
   clear hr hb hk hb1 e0
   go_wp2_with fail
   refine (key76 w.heap.size xr b1.2 u5 HU1.out.rs).mono ?_
   rintro e u6 ⟨rfl, hr, hb, hk⟩
   obtain ⟨b2, hb2⟩ : ∃ b2, b2 = stK b1.2 := ⟨_, rfl⟩
   rw [← hb2] at hr ⊢
   have HY2 := Aside0.mk hb2
   have HU2 := Aside0.mk (HU1.out.step hb hk hr)
   clear hr hb hk hb2
   obtain ⟨kb, hkb⟩ : ∃ kb, kb = u6.heap.size := ⟨_, rfl⟩
   obtain ⟨U3, hU3⟩ : ∃ U3, U3 = u6.alloc (.cells (encK b2.1).toArray 34) := ⟨_, rfl⟩
   have HU3 := Aside0.mk (show BkR w U3 p q xr ⟨a1.1, a2.1, ds, [], []⟩ A1 c1 none 0 b2.2 by rw [hU3]; exact HU2.out.later ((Below.refl _ u6).alloc (Nat.le_refl _) _))
   have HKB := Aside0.mk (show U3.heap[kb]? = some (.cells (encK b2.1).toArray 34 (0, 0)) by rw [hU3, hkb]; exact heap_alloc_new u6 _)
   have st9 := Aside0.mk (fun (c : Array Value) (hc : c.size = 32) => run_storeNew Tryz.prog u6 34 32 sizeK c (encK b2.1).toArray hc (by simpa using encK_len _) (by simpa using encK_one _))
   unfold keyV
   obtain ⟨KA, hKA⟩ : ∃ KA, KA = (encK b2.1).toArray := ⟨_, rfl⟩
   have HKA := Aside0.mk hKA
   rw [← hKA] at hU3 st9 ⊢
   clear hKA
   go_upto_region 11 with ((with_reducible refine at_store 34 (.tmp 9) (.tmp 46) ?_); refine wpList_storeK rfl 34 (.tmp 9) (.tmp 46) rfl rfl _ _ rfl rfl _ (st9.out _ rfl) ?_)
   rw [← hU3, ← hkb]
   clear hU3 hkb st9
   go_wp2_with fail
   refine (get74 w.heap.size xr 7 b2.2 U3 HU3.out.rs (by decide) (by decide)).mono ?_
   rintro e u7 ⟨rfl, hr, hb, hk⟩
   obtain ⟨b3, hb3⟩ : ∃ b3, b3 = stG 7 b2.2 := ⟨_, rfl⟩
   rw [← hb3] at hr ⊢
   have HY3 := Aside0.mk hb3
   have HU4 := Aside0.mk (HU3.out.step hb hk hr)
   have HKB4 := Aside0.mk (hk _ _ _ _ HKB.out (by decide))
   clear hr hb hk hb3
   go_wp2_with fail
   refine (get74 w.heap.size xr 1 b3.2 u7 HU4.out.rs (by decide) (by decide)).mono ?_
   rintro e u8 ⟨rfl, hr, hb, hk⟩
   obtain ⟨b4, hb4⟩ : ∃ b4, b4 = stG 1 b3.2 := ⟨_, rfl⟩
   rw [← hb4] at hr ⊢
   have HY4 := Aside0.mk hb4
   have HU5 := Aside0.mk (HU4.out.step hb hk hr)
   have HKB5 := Aside0.mk (hk _ _ _ _ HKB4.out (by decide))
   clear hr hb hk hb4
   go_wp2_with fail
   refine (most75 w.heap.size xr b4.1 1 b4.2 u8 HU5.out.rs).mono ?_
   rintro e u9 ⟨rfl, hr, hb, hk⟩
   obtain ⟨b5, hb5⟩ : ∃ b5, b5 = stM b4.1 1 b4.2 := ⟨_, rfl⟩
   rw [← hb5] at hr ⊢
   have HY5 := Aside0.mk hb5
   have hs9 := HU5.out.step hb hk hr
   have HU6 := Aside0.mk hs9
   have HKB6 := Aside0.mk (hk _ _ _ _ HKB5.out (by decide))
   clear hr hb hk hb5
   have LKB := Aside0.mk (run_loadAtK Tryz.prog u9 34 32 Tryz.isAgg34 Tryz.sizeOf34 kb 0 (encK b2.1) (encK_len _) (cells_of_heap HKB6.out))
   obtain ⟨bv, hbv⟩ : ∃ bv, bv = b5.1 := ⟨_, rfl⟩
   have hbq : ((bv : Int) == 1) = decide (bv = 1) := by
    by_cases e : bv = 1
    ·subst e; rfl
    ·rw [decide_eq_false e]; exact beq_eq_false_iff_ne.2 (by omega)
   obtain ⟨rv, hrv⟩ : ∃ rv, rv = decide (bv = 1) := ⟨_, rfl⟩
   rw [← hrv] at hbq
   obtain ⟨dd, hdd⟩ : ∃ dd : Dev, dd = ⟨(b1.1 : Int), b2.1, (b3.1 : Int), rv⟩ := ⟨_, rfl⟩
   have HDD := Aside0.mk (show stDev st = (dd, b5.2) by rw [hdd, hrv, hbv]; exact stDev_eq HY1.out HY2.out HY3.out HY4.out HY5.out)
   have HBD := Aside0.mk (fun (W : World) => (show (Instr.build 46 #[(0, .int .i64 (b1.1 : Nat)), (1, .agg KA), (2, .int .i64 (b3.1 : Nat)), (3, .bool rv)]).run Tryz.prog W = .ok (.agg (encD dd).toArray) W by rw [hdd, HKA.out]; exact run_buildDev4 W _ _ _ _))
   rw [← HKA.out] at LKB
   obtain ⟨DX, hDX⟩ : ∃ DX, DX = (encD dd).toArray := ⟨_, rfl⟩
   rw [← hDX] at HBD
   have HDX := Aside0.mk hDX
   obtain ⟨m8, hm8⟩ : ∃ m8, m8 = ds.length := ⟨_, rfl⟩
   have HM8 := Aside0.mk hm8
   have k2 : u9.cell? ⟨q, 2, none⟩ = some (.slice A1 m8 c1) := by rw [hm8]; exact hs9.cells.2.2.1
   rw [← hbv]
   clear hs9 hdd hDX hm8 hrv hbv
   go_wp2_with (first | ((with_reducible refine at_load 34 (.tmp 9) ?_); refine wpList_loadK rfl 34 (.tmp 9) rfl _ rfl _ LKB.out ?_) | ((with_reducible refine at_build 46 #[(0, .tmp 55), (1, .tmp 56), (2, .tmp 57), (3, .tmp 59)] ?_); refine wpList_build4 rfl 46 (.tmp 55) (.tmp 56) (.tmp 57) (.tmp 59) rfl _ _ _ _ rfl rfl rfl rfl _ _ (HBD.out _) ?_) | ((with_reducible refine at_bslice 40 (.tmp 60) ?_); refine wpList_pushDk rfl rfl (.tmp 60) (.tmp 54) (.tmp 61) rfl rfl dd (by rw [← HDX.out]; rfl) w.heap.size A1 c1 m8 ds HU6.out.d rfl HM8.out.symm rfl (by have h1 := HT.out.2.1; have h2 := HKK.out; have h3 := HN8.out; omega) HU6.out.b.size ?_; intro A3 c3 w9 h1 h2 h3; have k2' : w9.cell? ⟨q, 2, none⟩ = some (.slice A1 m8 c1) := (by rw [cell_of_heap (h3 _ _ _ _ HU6.out.bx (by decide)), HM8.out]; rfl); have f2' : w9.frozen? ⟨q, 2, none⟩ = false := frozen_of_heap (h3 _ _ _ _ HU6.out.bx (by decide)); have HP9 := Aside0.mk (HU6.out.pushD h1 h2 h3); clear h1 h2 h3))
   go_wp2_with fail
   rw [← HM8.out] at HP9
   go_roundg ko
   case measure => have := HKK.out; omega
   case rel =>
    refine ⟨kk + 1, ds ++ [dd], A3, c3, b5.2, by go_num, by have := HKK.out; omega, ⟨HP9.out, by rw [List.length_append, HT.out.2.1]; rfl, ?_⟩⟩
    have e := HTN.out
    rw [HDD.out] at e
    exact e
  ·have HEX := Aside0.mk (show stMany stDev nn a4.2 = (ds, st) from stMany_stop (n := nn - kk) (by
    by_cases h1 : kk < nn
    ·exact .inr (fun e => hgo ⟨h1, by rw [HSV.out]; exact e⟩)
    ·exact .inl (by omega)) HT.out.2.2)
   have HDL := Aside0.mk (show ds.length ≤ 8 by have := HT.out.2.1; omega)
   have hcs : (¬ (kk : Int) < (nn : Int) ∧ decide ((kk : Int) < (nn : Int)) = false) ∨ ((kk : Int) < (nn : Int) ∧ decide ((kk : Int) < (nn : Int)) = true ∧ (sv == 0) = false) := by
    by_cases h1 : kk < nn
    ·exact .inr ⟨by omega, decide_eq_true (by omega), beq_eq_false_iff_ne.2 (fun e => hgo ⟨h1, e⟩)⟩
    ·exact .inl ⟨by omega, decide_eq_false (by omega)⟩
   clear hgo hkk
   rcases hcs with ⟨hltz, d3⟩ | ⟨hltz, d3, hes⟩
   all_goals
    have HSA := Aside0.mk HT.out.1
    go_wp2_with fail
    try clear hes
    clear hltz d3 e0
    refine (get74 w.heap.size xr 1 st wr HSA.out.rs (by decide) (by decide)).mono ?_
    rintro e v3 ⟨rfl, hr, hb, hk⟩
    obtain ⟨a6, ha6⟩ : ∃ a6, a6 = stG 1 st := ⟨_, rfl⟩
    rw [← ha6] at hr ⊢
    have HA6 := Aside0.mk ha6
    have HS8 := Aside0.mk (HSA.out.step hb hk hr)
    clear hr hb hk ha6
    go_wp2_with fail
    refine (most75 w.heap.size xr a6.1 64 a6.2 v3 HS8.out.rs).mono ?_
    rintro e v4 ⟨rfl, hr, hb, hk⟩
    obtain ⟨a7, ha7⟩ : ∃ a7, a7 = stM a6.1 64 a6.2 := ⟨_, rfl⟩
    rw [← ha7] at hr ⊢
    have HA7 := Aside0.mk ha7
    have HM64 := Aside0.mk (show a7.1 ≤ 64 by rw [ha7, HA6.out]; exact stM_le 64 _)
    have HS9 := Aside0.mk (HS8.out.step hb hk hr)
    clear hr hb hk ha7
    obtain ⟨m, hm⟩ : ∃ m, m = a7.1 := ⟨_, rfl⟩
    rw [← hm] at HM64 ⊢
    have HMM := Aside0.mk hm
    clear hm
    go_upto_region 16 with fail
    go_loopg [13] m (fun kx s13 wr2 => ∃ (kj : Nat) (ks : List Key) (A2 : Option Addr) (c2 : Nat) (su : St2), s13 = .int .i64 kj ∧ kj + kx = m ∧ Aside0 (BkR w wr2 p q xr ⟨a1.1, a2.1, ds, ks, []⟩ A1 c1 A2 c2 su ∧ ks.length = kj ∧ stMany stK m a7.2 = (ks ++ (stMany stK (m - kj) su).1, (stMany stK (m - kj) su).2)))
    case atStart => exact ⟨0, [], none, 0, a7.2, rfl, by omega, ⟨HS9.out, rfl, by simp⟩⟩
    case round =>
     obtain ⟨kj, ks, A2, c2, su, rfl, hkj, HU⟩ := hrel
     have hm64 := HM64.out
     have e0 := HU.out.1.rs.cell.1
     obtain ⟨sv2, hsv⟩ : ∃ sv2, sv2 = su.1 := ⟨_, rfl⟩
     rw [← hsv] at e0
     have HSV2 := Aside0.mk hsv
     clear hsv
     by_cases hgo : kj < m ∧ sv2 = 0
     ·have hltz : (kj : Int) < (m : Int) := by omega
      have d3 : decide ((kj : Int) < (m : Int)) = true := decide_eq_true hltz
      obtain rfl := hgo.2
      have HTN := Aside0.mk (stMany_step (f := stK) (n := m - kj - 1) (st := su) HSV2.out.symm (by rw [show m - kj - 1 + 1 = m - kj by omega]; exact HU.out.2.2))
      have HKK := Aside0.mk (And.intro hkj hgo.1)
      obtain ⟨ko, rfl⟩ : ∃ ko, gk = ko + 1 := ⟨gk - 1, by omega⟩
      clear hkj hgo
      obtain ⟨m8, hm8⟩ : ∃ m8, m8 = ks.length := ⟨_, rfl⟩
      have HM8 := Aside0.mk hm8
      have HML := Aside0.mk (show m8 ≤ 64 by have := HU.out.2.1; have := HKK.out; have := HM64.out; omega)
      obtain ⟨BA, hBA⟩ : ∃ BA, BA = bookCells ⟨a1.1, a2.1, ds, ks, []⟩ A1 c1 A2 c2 := ⟨_, rfl⟩
      have HBA := Aside0.mk hBA
      have H3 := Aside0.mk (show BA[3]? = some (.slice A2 m8 c2) by rw [hBA, hm8]; rfl)
      clear hm8 hBA
      go_upto_region 18 with fail
      refine start_ (n := 8) (S := fun W => W.heap[q]? = some (.cells BA.toArray 43 (0, 0))) (ds := [7]) #[false, false, false, false, false, false, false, false] (by kernel_rfl) rfl rfl (by rw [HBA.out]; exact HU.out.1.bx) (fun hHeld => ?_)
      obtain ⟨w5, hw5⟩ : ∃ w5, w5 = wr.drew := ⟨_, rfl⟩
      have HS11 := Aside0.mk (HU.out.1.later (W' := wr.drew) ((Below.refl _ wr).drew))
      rw [← hw5] at hHeld HS11 ⊢
      clear hw5 e0
      refine pure_ (i := 0) (N := (some 80)) (v := ?_) (a' := ?_) #[true, false, false, false, false, false, false, false] rfl rfl (by kernel_rfl) (fun _ _ _ h => h) (Or.inl ⟨by rfl, ?_⟩) ?_ ?_
      rotate_left
      ·intro w'
       go_simp
       with_reducible rfl
      rotate_left
      ·simp only [Act.put, List.setIfInBounds_toArray, List.set_cons_zero, List.set_cons_succ, i64_w, i32_w]
       rfl
      refine pure_ (i := 2) (N := (some 82)) (v := ?_) (a' := ?_) #[true, false, true, false, false, false, false, false] rfl rfl (by kernel_rfl) (fun _ _ _ h => h) (Or.inl ⟨by rfl, ?_⟩) ?_ ?_
      rotate_left
      ·intro w'
       go_simp
       with_reducible rfl
      rotate_left
      ·simp only [Act.put, List.setIfInBounds_toArray, List.set_cons_zero, List.set_cons_succ, i64_w, i32_w]
       rfl
      refine take_ (i := 1) (N := (some 81)) (v := ?_) (a' := ?_) #[true, true, true, false, false, false, false, false] rfl rfl (by kernel_rfl) (fun _ _ _ h => h) (Or.inl ⟨by rfl, ?_⟩) hHeld ?_ ?_
      rotate_left
      ·rintro w' hs
       have s0 : w'.cell? ⟨q, 3, none⟩ = some (.slice A2 m8 c2) := by rw [cell_of_heap hs]; exact H3.out
       go_simp
       with_reducible rfl
      rotate_left
      ·simp only [Act.put, List.setIfInBounds_toArray, List.set_cons_zero, List.set_cons_succ, i64_w, i32_w]
       rfl
      refine one_ (i := 3) (N := (some 83)) #[true, true, true, true, false, false, false, false] rfl rfl (by kernel_rfl) (by decide) (fun K hK => ?_)
      refine goes_ Tryz.func76 (by kernel_rfl) rfl #[.pointer (some ⟨xr, 0, none⟩)] (by rfl) rfl rfl (by (try simp only [List.map_toArray, List.map_cons, List.map_nil]); first | done | rfl) ?_
      refine (key76 w.heap.size xr su w5 HS11.out.rs).mono ?_
      rintro e w5c ⟨rfl, hr, hb, hk⟩
      refine ⟨_, rfl, ?_⟩
      obtain ⟨kx1, hkx⟩ : ∃ kx1, kx1 = stK su := ⟨_, rfl⟩
      rw [← hkx] at hr ⊢
      have HKX := Aside0.mk hkx
      have HS12 := Aside0.mk (HS11.out.step hb hk hr)
      have hS_ : w5c.heap[q]? = some (.cells BA.toArray 43 (0, 0)) := hk _ _ _ _ hHeld (by decide)
      clear hb hk hr hkx
      unfold keyV
      refine hK.out _ _ hS_ (fun hHeld => ?_)
      clear hK K
      refine norm_ (a' := ?_) ?_ ?_
      rotate_left
      ·show Act.put _ (some 83) _ = _
       simp only [Act.put, List.setIfInBounds_toArray, List.set_cons_zero, List.set_cons_succ, i64_w, i32_w]
       rfl
      refine one_ (i := 4) (N := (some 84)) #[true, true, true, true, true, false, false, false] rfl rfl (by kernel_rfl) (by decide) (fun K hK => ?_)
      refine value_ (v := .slice (some ⟨w5c.heap.size, 0, none⟩) 1 1) (w1 := w5c.alloc (.cells (encK kx1.1).toArray 34)) (by rfl) rfl ?_ ?_
      ·exact execOp_buildSlice _ _ 41 (.tmp 83) _ rfl _ _ rfl _ _ (buildK w5c kx1.1)
      have hbw := (Below.refl w5c.heap.size w5c).alloc (Nat.le_refl _) (.cells (encK kx1.1).toArray 34)
      have hS_ : (w5c.alloc (.cells (encK kx1.1).toArray 34)).heap[q]? = some (.cells BA.toArray 43 (0, 0)) := room_at hHeld hbw
      have HSR := Aside0.mk (show SrcAt (w5c.alloc (.cells (encK kx1.1).toArray 34)) (some ⟨w5c.heap.size, 0, none⟩) 1 32 (flatK [kx1.1]) by rw [show flatK [kx1.1] = encK kx1.1 by unfold flatK; simp]; exact src_new (heap_alloc_new w5c _) (encK_len kx1.1))
      obtain ⟨w7, hw7⟩ : ∃ w7, w7 = w5c.alloc (.cells (encK kx1.1).toArray 34) := ⟨_, rfl⟩
      obtain ⟨p7, hp7⟩ : ∃ p7, p7 = w5c.heap.size := ⟨_, rfl⟩
      have HB7 := Aside0.mk (show Below w5c.heap.size w5c w7 by rw [hw7]; exact hbw)
      rw [← hw7, ← hp7] at HSR
      rw [← hw7] at hS_ ⊢
      rw [← hp7]
      clear hw7 hp7 hbw
      refine hK.out _ _ hS_ (fun hHeld => ?_)
      clear hK K
      refine norm_ (a' := ?_) ?_ ?_
      rotate_left
      ·show Act.put _ (some 84) _ = _
       simp only [Act.put, List.setIfInBounds_toArray, List.set_cons_zero, List.set_cons_succ, i64_w, i32_w]
       rfl
      have HO7 := Aside0.mk (show w7.ownsRow w.heap.size 34 32 (.slice A2 m8 c2) m8 (flatK ks) by rw [HM8.out]; exact (HS12.out.later HB7.out).k)
      obtain ⟨A', c', w8, hr, g2, g3⟩ := run_app appK w7 41 w.heap.size m8 c2 1 1 A2 (some ⟨p7, 0, none⟩) (flatK ks) (flatK [kx1.1]) HO7.out HSR.out (flatK_one _) (by have := HML.out; omega) (by have := HML.out; unfold maxLen; omega) (Nat.le_trans HS12.out.b.size HB7.out.size)
      refine one_ (i := 5) (N := (some 85)) #[true, true, true, true, true, true, false, false] rfl rfl (by kernel_rfl) (by decide) (fun K hK => ?_)
      refine value_ (v := .slice A' (m8 + 1) c') (w1 := w8) (by rfl) rfl ?_ ?_
      ·exact runs_append 41 (.tmp 81) (.tmp 84) _ rfl _ (.slice A2 m8 c2) (.slice (some ⟨p7, 0, none⟩) 1 1) _ rfl rfl hr
      have hkg : KeptT [34] w7 w8 := KeptT.grown HO7.out g3 (by decide)
      have HG8 := Aside0.mk (show OwnK w8 w.heap.size A' c' (ks ++ [kx1.1]) ∧ Below w.heap.size w7 w8 ∧ KeptT [34] w7 w8 from ⟨by unfold OwnK; rw [flatK_append, List.length_append, ← HM8.out]; exact g2, below_own HO7.out g3 (Nat.le_trans HS12.out.b.size HB7.out.size), hkg⟩)
      have hS_ : w8.heap[q]? = some (.cells BA.toArray 43 (0, 0)) := hkg _ _ _ _ hHeld (by decide)
      clear hr g2 g3 hkg
      refine hK.out _ _ hS_ (fun hHeld => ?_)
      clear hK K
      refine norm_ (a' := ?_) ?_ ?_
      rotate_left
      ·show Act.put _ (some 85) _ = _
       simp only [Act.put, List.setIfInBounds_toArray, List.set_cons_zero, List.set_cons_succ, i64_w, i32_w]
       rfl
      refine pure_ (i := 6) (N := (some 86)) (v := ?_) (a' := ?_) #[true, true, true, true, true, true, true, false] rfl rfl (by kernel_rfl) (fun _ _ _ h => h) (Or.inl ⟨by rfl, ?_⟩) ?_ ?_
      rotate_left
      ·intro w'
       go_simp
       with_reducible rfl
      rotate_left
      ·simp only [Act.put, List.setIfInBounds_toArray, List.set_cons_zero, List.set_cons_succ, i64_w, i32_w]
       rfl
      refine last_ (i := 7) (N := none) #[true, true, true, true, true, true, true, true] rfl rfl (by kernel_rfl) (by decide) (fun K hK => ?_)
      refine store_ (w1 := w8.setCell ⟨q, 3, none⟩ (.slice A' (m8 + 1) c')) (by rfl) rfl ?_ ?_
      ·exact runs_store 41 (.tmp 86) (.tmp 85) _ rfl _ _ _ rfl rfl _ (run_storeAt1 Tryz.prog w8 41 Tryz.sizeOf41 q 3 _ rfl rfl (.slice A2 m8 c2) (by rw [cell_of_heap hHeld]; exact H3.out) (frozen_of_heap hHeld))
      skip
      refine hK.out _ _ ?_
      clear hK K
      refine norm_ (a' := ?_) ?_ ?_
      rotate_left
      ·show Act.put _ none _ = _
       simp only [Act.put, List.setIfInBounds_toArray, List.set_cons_zero, List.set_cons_succ, i64_w, i32_w]
       rfl
      refine done_ (by kernel_rfl) ?_
      have HP9 := Aside0.mk ((HS12.out.later HB7.out).pushK HG8.out.1 HG8.out.2.1 HG8.out.2.2)
      clear hHeld
      rw [← HM8.out] at HP9
      go_wp2_with fail
      go_roundg ko
      case measure => have := HKK.out; omega
      case rel =>
       refine ⟨kj + 1, ks ++ [kx1.1], A', c', kx1.2, by go_num, by have := HKK.out; omega, ⟨HP9.out, by rw [List.length_append, HU.out.2.1]; rfl, ?_⟩⟩
       have e := HTN.out
       rw [← HKX.out] at e
       exact e
     ·have HEK := Aside0.mk (show stMany stK m a7.2 = (ks, su) from stMany_stop (n := m - kj) (by
       by_cases h1 : kj < m
       ·exact .inr (fun e => hgo ⟨h1, by rw [HSV2.out]; exact e⟩)
       ·exact .inl (by omega)) HU.out.2.2)
      have HKL := Aside0.mk (show ks.length ≤ 64 by have := HU.out.2.1; omega)
      have HSC := Aside0.mk HU.out.1
      have HFIN := Aside0.mk (stBook_eq HA1.out HA2.out HA3.out HA4.out (show stMany stDev a4.1 a4.2 = (ds, st) by rw [← HNN.out]; exact HEX.out) HA6.out HA7.out (show stMany stK a7.1 a7.2 = (ks, su) by rw [← HMM.out]; exact HEK.out))
      have hcs : (¬ (kj : Int) < (m : Int) ∧ decide ((kj : Int) < (m : Int)) = false) ∨ ((kj : Int) < (m : Int) ∧ decide ((kj : Int) < (m : Int)) = true ∧ (sv2 == 0) = false) := by
       by_cases h1 : kj < m
       ·exact .inr ⟨by omega, decide_eq_true (by omega), beq_eq_false_iff_ne.2 (fun e => hgo ⟨h1, e⟩)⟩
       ·exact .inl ⟨by omega, decide_eq_false (by omega)⟩
      clear hgo hkj
      obtain ⟨br2, hbr, hrr, hxb⟩ := HSC.out.rs
      have HRX := Aside0.mk (And.intro hbr (And.intro hrr hxb))
      have HLP := Aside0.mk HSC.out.lp
      rcases hcs with ⟨hltz, d3⟩ | ⟨hltz, d3, hes⟩
      all_goals
       clear hbr hrr hxb
       go_upto_region 19 with fail
       try clear hes
       clear hltz d3
       by_cases h0 : sv2 = 0
       case neg =>
        have hne1 : (sv2 == 0) = false := beq_eq_false_iff_ne.2 h0
        have hne2 : (sv2 != 0) = true := by simpa using h0
        have HN0 := Aside0.mk (show sv2 ≠ 0 ∧ bookSaid l (.error sv2) from ⟨h0, by rw [HSV2.out]; exact st_said_bad HFIN.out (by rw [← HSV2.out]; exact h0)⟩)
        clear h0
        go_upto_region 24 with fail
        refine start_ (n := 7) (S := fun W => W.heap[p]? = some (.cells (bookCells book0 none 0 none 0).toArray 43 (0, 0)) ∧ W.heap[xr]? = some (.cells #[.pointer (some ⟨br2, 0, none⟩), .int .i64 sv2] 119 (0, 0))) (ds := []) #[false, false, false, false, false, false, false] (by kernel_rfl) rfl rfl ⟨HSC.out.pz, by rw [HSV2.out]; exact HRX.out.1⟩ (fun hHeld => ?_)
        obtain ⟨w5, hw5⟩ : ∃ w5, w5 = wr.drew := ⟨_, rfl⟩
        have HBW := Aside0.mk (show Below w.heap.size w w5 by rw [hw5]; exact HSC.out.b.drew)
        rw [← hw5] at hHeld ⊢
        have HP5 := Aside0.mk hHeld.1
        clear hw5
        refine pure_ (i := 0) (N := (some 112)) (v := .agg BZ) (a' := ?_) #[true, false, false, false, false, false, false] rfl rfl (by kernel_rfl) (fun _ _ _ h => h) (Or.inl ⟨by rfl, ?_⟩) ?_ ?_
        ·intro w'
         exact yields_build0 43 _ rfl _ _ (HBZ.out w')
        rotate_left
        ·simp only [Act.put, List.setIfInBounds_toArray, List.set_cons_zero, List.set_cons_succ, i64_w, i32_w]
         rfl
        refine pure_ (i := 1) (N := (some 113)) (v := ?_) (a' := ?_) #[true, true, false, false, false, false, false] rfl rfl (by kernel_rfl) (fun _ _ _ h => h) (Or.inl ⟨by rfl, ?_⟩) ?_ ?_
        rotate_left
        ·intro w'
         go_simp
         with_reducible rfl
        rotate_left
        ·simp only [Act.put, List.setIfInBounds_toArray, List.set_cons_zero, List.set_cons_succ, i64_w, i32_w]
         rfl
        refine pure_ (i := 2) (N := (some 114)) (v := ?_) (a' := ?_) #[true, true, true, false, false, false, false] rfl rfl (by kernel_rfl) (fun _ _ _ h => h) (Or.inl ⟨by rfl, ?_⟩) ?_ ?_
        rotate_left
        ·intro w'
         go_simp
         with_reducible rfl
        rotate_left
        ·simp only [Act.put, List.setIfInBounds_toArray, List.set_cons_zero, List.set_cons_succ, i64_w, i32_w]
         rfl
        refine pure_ (i := 3) (N := (some 115)) (v := ?_) (a' := ?_) #[true, true, true, true, false, false, false] rfl rfl (by kernel_rfl) (fun _ _ _ h => h) (Or.inl ⟨by rfl, ?_⟩) ?_ ?_
        rotate_left
        ·intro w'
         go_simp
         with_reducible rfl
        rotate_left
        ·simp only [Act.put, List.setIfInBounds_toArray, List.set_cons_zero, List.set_cons_succ, i64_w, i32_w]
         rfl
        refine take_ (i := 4) (N := (some 116)) (v := ?_) (a' := ?_) #[true, true, true, true, true, false, false] rfl rfl (by kernel_rfl) (fun _ _ _ h => h) (Or.inl ⟨by rfl, ?_⟩) hHeld ?_ ?_
        rotate_left
        ·rintro w' hs
         have s0 : w'.cell? ⟨xr, 1, none⟩ = some (.int .i64 sv2) := by rw [cell_of_heap hs.2]; rfl
         go_simp
         with_reducible rfl
        rotate_left
        ·simp only [Act.put, List.setIfInBounds_toArray, List.set_cons_zero, List.set_cons_succ, i64_w, i32_w]
         rfl
        refine one_ (i := 5) (N := none) #[true, true, true, true, true, true, false] rfl rfl (by kernel_rfl) (by decide) (fun K hK => ?_)
        refine store_ (w1 := w5.setRow p BZ) (by rfl) rfl ?_ ?_
        ·exact runs_store 43 (.tmp 2) (.tmp 112) _ rfl _ _ _ rfl rfl _ (by rw [HBZE.out]; exact store_full w5 43 5 p Tryz.sizeOf43 _ (bookCells book0 none 0 none 0) hHeld.1 rfl rfl (book_one book0 none none 0 0))
        have hS_ : (w5.setRow p BZ).heap[p]? = some (.cells (bookCells book0 none 0 none 0).toArray 43 (0, 0)) ∧ (w5.setRow p BZ).heap[xr]? = some (.cells #[.pointer (some ⟨br2, 0, none⟩), .int .i64 sv2] 119 (0, 0)) := ⟨by rw [← HBZE.out]; exact setRow_heap w5 p _ BZ 43 (0, 0) hHeld.1, KeptT.setRow hHeld.1 (by decide : (43 : Nat) ∈ [43]) BZ _ _ _ _ hHeld.2 (by decide)⟩
        refine hK.out _ _ hS_ (fun hHeld => ?_)
        clear hK K
        refine norm_ (a' := ?_) ?_ ?_
        rotate_left
        ·show Act.put _ none _ = _
         simp only [Act.put, List.setIfInBounds_toArray, List.set_cons_zero, List.set_cons_succ, i64_w, i32_w]
         rfl
        refine pure_ (i := 6) (N := (some 3)) (v := ?_) (a' := ?_) #[true, true, true, true, true, true, true] rfl rfl (by kernel_rfl) (fun _ _ _ h => h) (Or.inl ⟨by rfl, ?_⟩) ?_ ?_
        rotate_left
        ·intro w'
         go_simp
         with_reducible rfl
        rotate_left
        ·simp only [Act.put, List.setIfInBounds_toArray, List.set_cons_zero, List.set_cons_succ, i64_w, i32_w]
         rfl
        refine done_ (by kernel_rfl) ?_
        have hq3 := setRow_heap w5 p _ BZ 43 (0, 0) HP5.out
        have HQ3 := Aside0.mk (And.intro hq3 (below_setRow HBW.out HLP.out BZ))
        have HNE := Aside0.mk (show sv2 ≠ 0 ∧ bookSaid l (.error sv2) from HN0.out)
        clear hHeld hq3
        go_wp2
        try simp only [Exit.inBlock, Exit.then]
        refine bodyPost_ret (results_row_tmp rfl _ _ p 43 _ (0, 0) _ rfl HQ3.out.1 Tryz.underlying43 rfl (by rw [HBZE.out]; kernel_rfl)) rfl ?_
        exact ⟨.inl ⟨sv2, HNE.out.1, HNE.out.2, by rw [HBZE.out]; rfl⟩, HQ3.out.2⟩
       case pos =>
        obtain rfl := h0
        have c0 : wr.cell? ⟨xr, 0, none⟩ = some (.pointer (some ⟨br2, 0, none⟩)) := by rw [cell_of_heap HRX.out.1]; rfl
        go_wp2_with fail
        refine (octets77 w.heap.size br2 1024 su.2 wr HRX.out.2.1).mono ?_
        rintro e v5 ⟨hs, hb, hk⟩
        clear c0 e0
        rcases hs with ⟨c, hc, hx, rfl⟩ | ⟨t, r7, A9, ca, hx, rfl, ho, hrd⟩
        ·have x5 := hk _ _ _ _ HRX.out.1 (by decide)
         have q5 := hk _ _ _ _ HSC.out.bx (by decide)
         have k4 : v5.cell? ⟨q, 4, none⟩ = some (.string ⟨#[]⟩) := by rw [cell_of_heap q5]; rfl
         have f4 : v5.frozen? ⟨q, 4, none⟩ = false := frozen_of_heap q5
         have hcv : (convert 67 9 (.slice none 0 0)).run Tryz.prog v5 = .ok (.string ⟨#[]⟩) v5 := conv_back (w := v5) (A := none) (c := 0) (t := []) ⟨by simp, by simp, by simp⟩
         have k6 := KeptT.setCell (j := 4) q5 (by decide : (43 : Nat) ∈ [43]) (.string ⟨#[]⟩)
         obtain ⟨v6, hv6⟩ : ∃ v6, v6 = v5.setCell ⟨q, 4, none⟩ (.string ⟨#[]⟩) := ⟨_, rfl⟩
         rw [← hv6] at k6
         have x6 := k6 _ _ _ _ x5 (by decide)
         have p6 : v6.heap[p]? = some (.cells (bookCells book0 none 0 none 0).toArray 43 (0, 0)) := by
          rw [hv6, Below.heap_setCell _ _ _ _ (fun e => by first | exact HSC.out.ne e | exact HSC.out.ne e.symm)]
          exact hk _ _ _ _ HSC.out.pz (by decide)
         have b6 : Below w.heap.size w v6 := by rw [hv6]; exact (HSC.out.b.trans hb).setCell HSC.out.lo _
         have c6 : v6.cell? ⟨xr, 1, none⟩ = some (.int .i64 0) := by rw [cell_of_heap x6]; simp [← HSV2.out]
         have f6 : v6.frozen? ⟨xr, 1, none⟩ = false := frozen_of_heap x6
         have k7 := KeptT.setCell (j := 1) x6 (by decide : (119 : Nat) ∈ [119]) (.int .i64 c)
         have p7 := k7 _ _ _ _ p6 (by decide)
         have b7 : Below w.heap.size w (v6.setCell ⟨xr, 1, none⟩ (.int .i64 c)) := b6.setCell HRX.out.2.2 _
         have c7 : (v6.setCell ⟨xr, 1, none⟩ (.int .i64 c)).cell? ⟨xr, 1, none⟩ = some (.int .i64 c) := by
          rw [cell_of_heap (heap_setCell_same v6 xr 1 _ _ _ x6)]
          rfl
         obtain ⟨v7, hv7⟩ : ∃ v7, v7 = v6.setCell ⟨xr, 1, none⟩ (.int .i64 c) := ⟨_, rfl⟩
         have x7 : v7.heap[xr]? = some (.cells #[.pointer (some ⟨br2, 0, none⟩), .int .i64 c] 119 (0, 0)) := by
          rw [hv7, heap_setCell_same v6 xr 1 _ _ _ x6]
          rfl
         rw [← hv7] at p7 b7 c7
         have H7 := Aside0.mk (And.intro p7 (And.intro b7 x7))
         have HNC := Aside0.mk (show c ≠ 0 ∧ bookSaid l (.error c) from ⟨hc, st_said_oct HFIN.out HSV2.out.symm hx⟩)
         have hne2 : (c != 0) = true := by simpa using hc
         clear hc hx hb hk x5 q5 k6 x6 p6 b6 k7 p7 b7 x7
         go_upto_region 22 with fail
         first | rw [← hv6] | rw [show v5.setCell ⟨q, 4, none⟩ (.string (str [])) = v6 from hv6.symm]
         clear k4 f4 hcv hv6
         go_upto_region 23 with fail
         rw [← hv7]
         clear c6 f6 hv7
         go_upto_region 24 with fail
         refine start_ (n := 7) (S := fun W => W.heap[p]? = some (.cells (bookCells book0 none 0 none 0).toArray 43 (0, 0)) ∧ W.heap[xr]? = some (.cells #[.pointer (some ⟨br2, 0, none⟩), .int .i64 c] 119 (0, 0))) (ds := []) #[false, false, false, false, false, false, false] (by kernel_rfl) rfl rfl ⟨H7.out.1, H7.out.2.2⟩ (fun hHeld => ?_)
         obtain ⟨w5, hw5⟩ : ∃ w5, w5 = v7.drew := ⟨_, rfl⟩
         have HBW := Aside0.mk (show Below w.heap.size w w5 by rw [hw5]; exact H7.out.2.1.drew)
         rw [← hw5] at hHeld ⊢
         have HP5 := Aside0.mk hHeld.1
         clear hw5
         refine pure_ (i := 0) (N := (some 112)) (v := .agg BZ) (a' := ?_) #[true, false, false, false, false, false, false] rfl rfl (by kernel_rfl) (fun _ _ _ h => h) (Or.inl ⟨by rfl, ?_⟩) ?_ ?_
         ·intro w'
          exact yields_build0 43 _ rfl _ _ (HBZ.out w')
         rotate_left
         ·simp only [Act.put, List.setIfInBounds_toArray, List.set_cons_zero, List.set_cons_succ, i64_w, i32_w]
          rfl
         refine pure_ (i := 1) (N := (some 113)) (v := ?_) (a' := ?_) #[true, true, false, false, false, false, false] rfl rfl (by kernel_rfl) (fun _ _ _ h => h) (Or.inl ⟨by rfl, ?_⟩) ?_ ?_
         rotate_left
         ·intro w'
          go_simp
          with_reducible rfl
         rotate_left
         ·simp only [Act.put, List.setIfInBounds_toArray, List.set_cons_zero, List.set_cons_succ, i64_w, i32_w]
          rfl
         refine pure_ (i := 2) (N := (some 114)) (v := ?_) (a' := ?_) #[true, true, true, false, false, false, false] rfl rfl (by kernel_rfl) (fun _ _ _ h => h) (Or.inl ⟨by rfl, ?_⟩) ?_ ?_
         rotate_left
         ·intro w'
          go_simp
          with_reducible rfl
         rotate_left
         ·simp only [Act.put, List.setIfInBounds_toArray, List.set_cons_zero, List.set_cons_succ, i64_w, i32_w]
          rfl
         refine pure_ (i := 3) (N := (some 115)) (v := ?_) (a' := ?_) #[true, true, true, true, false, false, false] rfl rfl (by kernel_rfl) (fun _ _ _ h => h) (Or.inl ⟨by rfl, ?_⟩) ?_ ?_
         rotate_left
         ·intro w'
          go_simp
          with_reducible rfl
         rotate_left
         ·simp only [Act.put, List.setIfInBounds_toArray, List.set_cons_zero, List.set_cons_succ, i64_w, i32_w]
          rfl
         refine take_ (i := 4) (N := (some 116)) (v := ?_) (a' := ?_) #[true, true, true, true, true, false, false] rfl rfl (by kernel_rfl) (fun _ _ _ h => h) (Or.inl ⟨by rfl, ?_⟩) hHeld ?_ ?_
         rotate_left
         ·rintro w' hs
          have s0 : w'.cell? ⟨xr, 1, none⟩ = some (.int .i64 c) := by rw [cell_of_heap hs.2]; rfl
          go_simp
          with_reducible rfl
         rotate_left
         ·simp only [Act.put, List.setIfInBounds_toArray, List.set_cons_zero, List.set_cons_succ, i64_w, i32_w]
          rfl
         refine one_ (i := 5) (N := none) #[true, true, true, true, true, true, false] rfl rfl (by kernel_rfl) (by decide) (fun K hK => ?_)
         refine store_ (w1 := w5.setRow p BZ) (by rfl) rfl ?_ ?_
         ·exact runs_store 43 (.tmp 2) (.tmp 112) _ rfl _ _ _ rfl rfl _ (by rw [HBZE.out]; exact store_full w5 43 5 p Tryz.sizeOf43 _ (bookCells book0 none 0 none 0) hHeld.1 rfl rfl (book_one book0 none none 0 0))
         have hS_ : (w5.setRow p BZ).heap[p]? = some (.cells (bookCells book0 none 0 none 0).toArray 43 (0, 0)) ∧ (w5.setRow p BZ).heap[xr]? = some (.cells #[.pointer (some ⟨br2, 0, none⟩), .int .i64 c] 119 (0, 0)) := ⟨by rw [← HBZE.out]; exact setRow_heap w5 p _ BZ 43 (0, 0) hHeld.1, KeptT.setRow hHeld.1 (by decide : (43 : Nat) ∈ [43]) BZ _ _ _ _ hHeld.2 (by decide)⟩
         refine hK.out _ _ hS_ (fun hHeld => ?_)
         clear hK K
         refine norm_ (a' := ?_) ?_ ?_
         rotate_left
         ·show Act.put _ none _ = _
          simp only [Act.put, List.setIfInBounds_toArray, List.set_cons_zero, List.set_cons_succ, i64_w, i32_w]
          rfl
         refine pure_ (i := 6) (N := (some 3)) (v := ?_) (a' := ?_) #[true, true, true, true, true, true, true] rfl rfl (by kernel_rfl) (fun _ _ _ h => h) (Or.inl ⟨by rfl, ?_⟩) ?_ ?_
         rotate_left
         ·intro w'
          go_simp
          with_reducible rfl
         rotate_left
         ·simp only [Act.put, List.setIfInBounds_toArray, List.set_cons_zero, List.set_cons_succ, i64_w, i32_w]
          rfl
         refine done_ (by kernel_rfl) ?_
         have hq3 := setRow_heap w5 p _ BZ 43 (0, 0) HP5.out
         have HQ3 := Aside0.mk (And.intro hq3 (below_setRow HBW.out HLP.out BZ))
         have HNE := Aside0.mk (show c ≠ 0 ∧ bookSaid l (.error c) from HNC.out)
         clear hHeld hq3
         go_wp2
         try simp only [Exit.inBlock, Exit.then]
         refine bodyPost_ret (results_row_tmp rfl _ _ p 43 _ (0, 0) _ rfl HQ3.out.1 Tryz.underlying43 rfl (by rw [HBZE.out]; kernel_rfl)) rfl ?_
         exact ⟨.inl ⟨c, HNE.out.1, HNE.out.2, by rw [HBZE.out]; rfl⟩, HQ3.out.2⟩
        ·have HRAW := Aside0.mk (st_said_raw HFIN.out HSV2.out.symm hx)
         have hs10 := HSC.out.step hb (hk.more (by simp)) (show RSt v5 w.heap.size xr (0, r7) from ⟨br2, by rw [hk _ _ _ _ HRX.out.1 (by decide), ← HSV2.out], hrd, HRX.out.2.2⟩)
         have HCV := Aside0.mk (conv_back (c := ca) ho.src)
         have hs11 := hs10.set 4 (.string (str t)) (B' := ⟨a1.1, a2.1, ds, ks, t⟩) rfl hs10.d hs10.k
         have f4 := hs10.frz 4
         have k4 : v5.cell? ⟨q, 4, none⟩ = some (.string ⟨#[]⟩) := hs10.cells.2.2.2.2
         obtain ⟨tl, htl⟩ : ∃ tl, tl = t.length := ⟨_, rfl⟩
         rw [← htl] at HCV ⊢
         have hcv := HCV.out
         obtain ⟨v6, hv6⟩ : ∃ v6, v6 = v5.setCell ⟨q, 4, none⟩ (.string (str t)) := ⟨_, rfl⟩
         rw [← hv6] at hs11
         have c6 := hs11.rs.cell.1
         have f6 := hs11.rs.cell.2
         have hst := hs11.rs.set 0
         have hs12 := hs11.step hst.2.1 hst.2.2 hst.1
         obtain ⟨v7, hv7⟩ : ∃ v7, v7 = v6.setCell ⟨xr, 1, none⟩ (.int .i64 0) := ⟨_, rfl⟩
         rw [← hv7] at hs12
         have HS12 := Aside0.mk hs12
         clear hb hk hrd hx ho hs10 htl hs11 hst hs12
         go_upto_region 22 with fail
         rw [← hv6]
         clear hcv f4 k4 HCV hv6
         go_upto_region 23 with fail
         rw [← hv7]
         clear c6 f6 hv7
         have e7 := HS12.out.rs.cell.1
         go_upto_region 25 with fail
         clear e7
         obtain ⟨br3, hbr, hrr, hxb⟩ := HS12.out.rs
         have c0 : v7.cell? ⟨xr, 0, none⟩ = some (.pointer (some ⟨br3, 0, none⟩)) := by rw [cell_of_heap hbr]; rfl
         have LB := Aside0.mk (fun (W : World) (hb : Below v7.heap.size v7 W) => run_loadAtK Tryz.prog W 43 5 Tryz.isAgg43 Tryz.sizeOf43 q 0 (bookCells ⟨a1.1, a2.1, ds, ks, t⟩ A1 c1 A2 c2) rfl (cells_of_heap (HS12.out.later hb).bx))
         have HCK := Aside0.mk (fun (W : World) (hb : Below v7.heap.size v7 W) => check_ref ⟨a1.1, a2.1, ds, ks, t⟩ A1 c1 A2 c2 W ⟨(HS12.out.later hb).d.src, (HS12.out.later hb).k.src, by have := HDL.out; show ds.length ≤ _; omega, by have := HKL.out; show ks.length ≤ _; omega⟩)
         have hlf := Aside0.mk (left78 w.heap.size br3 r7 v7 hrr)
         obtain ⟨rl, hrl⟩ : ∃ rl, rl = r7.length := ⟨_, rfl⟩
         rw [← hrl] at hlf
         have HRL := Aside0.mk hrl
         clear hrl hbr hrr hxb
         obtain ⟨BB, hBB⟩ : ∃ BB, BB = (bookCells ⟨a1.1, a2.1, ds, ks, t⟩ A1 c1 A2 c2).toArray := ⟨_, rfl⟩
         rw [← hBB] at LB HCK
         have HBB2 := Aside0.mk hBB
         clear hBB
         by_cases h0 : 0 < rl
         ·have h0z : (0 : Int) < (rl : Int) := by omega
          have d0 : decide ((0 : Int) < (rl : Int)) = true := decide_eq_true h0z
          have HNE := Aside0.mk (show bookSaid l (.error 4) by unfold bookSaid; rw [HRAW.out]; exact .inr ⟨fun e => by have h1 := HRL.out; rw [e.1] at h1; simp at h1; omega, rfl⟩)
          clear h0
          go_upto_region 26 with (go_at_call 78; refine hlf.out.mono ?_; rintro e v8 ⟨rfl, hb5⟩)
          have HS13 := Aside0.mk (HS12.out.later hb5)
          clear hb5
          have st := Aside0.mk (show (Instr.storeAt 43 (.pointer (some ⟨p, 0, none⟩)) (.agg BZ)).run Tryz.prog v8 = .ok () (v8.setRow p BZ) by rw [HBZE.out]; exact store_full v8 43 5 p Tryz.sizeOf43 _ (bookCells book0 none 0 none 0) HS13.out.pz rfl rfl (book_one book0 none none 0 0))
          have HQ3 := Aside0.mk (And.intro (setRow_heap v8 p _ BZ 43 (0, 0) HS13.out.pz) (below_setRow HS13.out.b HLP.out BZ))
          go_wp2_with (first | ((with_reducible refine at_build 43 #[] ?_); refine wpList_build0 rfl 43 rfl _ _ (HBZ.out _) ?_) | ((with_reducible refine at_store 43 (.tmp 2) (.tmp 128) ?_); refine wpList_storeK rfl 43 (.tmp 2) (.tmp 128) rfl rfl _ _ rfl rfl _ st.out ?_))
          try simp only [Exit.inBlock, Exit.then]
          refine bodyPost_ret (results_row_tmp rfl _ _ p 43 _ (0, 0) _ rfl HQ3.out.1 Tryz.underlying43 rfl (by rw [HBZE.out]; kernel_rfl)) rfl ?_
          exact ⟨.inl ⟨4, by decide, HNE.out, by rw [HBZE.out]; rfl⟩, HQ3.out.2⟩
         have hlf : Aside0 (Calls Tryz.prog 78 #[.pointer (some ⟨br3, 0, none⟩)] v7 fun e w' => e = .returned (.int .i64 0) ∧ Below v7.heap.size v7 w') := ⟨by have := hlf.out; rw [show rl = 0 by omega] at this; exact this⟩
         have HR0 := Aside0.mk (show r7 = [] by have := HRL.out; exact List.eq_nil_of_length_eq_zero (by omega))
         clear h0
         go_wp2_with (first | (go_at_call 78; refine hlf.out.mono ?_; rintro e v8 ⟨rfl, hb5⟩) | ((with_reducible refine at_load 43 (.tmp 5) ?_); refine wpList_loadW (by rfl) 43 (.tmp 5) rfl _ rfl _ (LB.out _ hb5) ?_))
         have HB5 := Aside0.mk (HS12.out.later hb5)
         have hck := HCK.out _ hb5
         clear hb5
         refine hck.mono ?_
         rintro e v9 ⟨hce, hb6⟩
         clear hck
         have HS13 := Aside0.mk (HB5.out.later hb6)
         clear hb6
         rcases hce with ⟨rfl, hok⟩ | ⟨rfl, hno⟩
         case inr =>
          have HNE := Aside0.mk (show bookSaid l (.error 4) by unfold bookSaid; rw [HRAW.out]; exact .inr ⟨fun e => hno e.2, rfl⟩)
          clear hno
          go_upto_region 26 with fail
          have st := Aside0.mk (show (Instr.storeAt 43 (.pointer (some ⟨p, 0, none⟩)) (.agg BZ)).run Tryz.prog v9 = .ok () (v9.setRow p BZ) by rw [HBZE.out]; exact store_full v9 43 5 p Tryz.sizeOf43 _ (bookCells book0 none 0 none 0) HS13.out.pz rfl rfl (book_one book0 none none 0 0))
          have HQ3 := Aside0.mk (And.intro (setRow_heap v9 p _ BZ 43 (0, 0) HS13.out.pz) (below_setRow HS13.out.b HLP.out BZ))
          go_wp2_with (first | ((with_reducible refine at_build 43 #[] ?_); refine wpList_build0 rfl 43 rfl _ _ (HBZ.out _) ?_) | ((with_reducible refine at_store 43 (.tmp 2) (.tmp 128) ?_); refine wpList_storeK rfl 43 (.tmp 2) (.tmp 128) rfl rfl _ _ rfl rfl _ st.out ?_))
          try simp only [Exit.inBlock, Exit.then]
          refine bodyPost_ret (results_row_tmp rfl _ _ p 43 _ (0, 0) _ rfl HQ3.out.1 Tryz.underlying43 rfl (by rw [HBZE.out]; kernel_rfl)) rfl ?_
          exact ⟨.inl ⟨4, by decide, HNE.out, by rw [HBZE.out]; rfl⟩, HQ3.out.2⟩
         case inl =>
          have HE := Aside0.mk (show bookSaid l (.ok ⟨a1.1, a2.1, ds, ks, t⟩) by unfold bookSaid; rw [HRAW.out]; exact .inl ⟨HR0.out, hok, rfl⟩)
          clear hok
          have LB2 := Aside0.mk (run_loadAtK Tryz.prog v9 43 5 Tryz.isAgg43 Tryz.sizeOf43 q 0 (bookCells ⟨a1.1, a2.1, ds, ks, t⟩ A1 c1 A2 c2) rfl (cells_of_heap HS13.out.bx))
          have st := Aside0.mk (store_full v9 43 5 p Tryz.sizeOf43 _ (bookCells ⟨a1.1, a2.1, ds, ks, t⟩ A1 c1 A2 c2) HS13.out.pz rfl rfl (book_one _ A1 A2 c1 c2))
          have hq3 := setRow_heap v9 p _ (bookCells ⟨a1.1, a2.1, ds, ks, t⟩ A1 c1 A2 c2).toArray 43 (0, 0) HS13.out.pz
          have k1 := KeptT.setRow HS13.out.pz (by decide : (43 : Nat) ∈ [43]) (bookCells ⟨a1.1, a2.1, ds, ks, t⟩ A1 c1 A2 c2).toArray
          have HF := Aside0.mk (show OwnD (v9.setRow p (bookCells ⟨a1.1, a2.1, ds, ks, t⟩ A1 c1 A2 c2).toArray) w.heap.size A1 c1 ds ∧ OwnK (v9.setRow p (bookCells ⟨a1.1, a2.1, ds, ks, t⟩ A1 c1 A2 c2).toArray) w.heap.size A2 c2 ks ∧ Below w.heap.size w (v9.setRow p (bookCells ⟨a1.1, a2.1, ds, ks, t⟩ A1 c1 A2 c2).toArray) from
           ⟨own_keptT HS13.out.d k1 (by decide), own_keptT HS13.out.k k1 (by decide), below_setRow HS13.out.b HS13.out.lp _⟩)
          have HQ3 := Aside0.mk hq3
          rw [← HBB2.out] at LB2 st HQ3 HF
          clear hq3 k1
          go_wp2_with (first | ((with_reducible refine at_load 43 (.tmp 5) ?_); refine wpList_loadK rfl 43 (.tmp 5) rfl _ rfl _ LB2.out ?_) | ((with_reducible refine at_store 43 (.tmp 2) (.tmp 129) ?_); refine wpList_storeK rfl 43 (.tmp 2) (.tmp 129) rfl rfl _ _ rfl rfl _ st.out ?_))
          try simp only [Exit.inBlock, Exit.then]
          refine bodyPost_ret (results_row_tmp rfl _ _ p 43 _ (0, 0) _ rfl HQ3.out Tryz.underlying43 rfl (by rw [HBB2.out]; kernel_rfl)) rfl ?_
          exact ⟨.inr ⟨⟨a1.1, a2.1, ds, ks, t⟩, A1, c1, A2, c2, HE.out, by rw [HBB2.out]; rfl, HF.out.1, HF.out.2.1⟩, HF.out.2.2⟩
end Go.Proofs.YthnpiimiimiijaaGreatDoor.Dir
end
