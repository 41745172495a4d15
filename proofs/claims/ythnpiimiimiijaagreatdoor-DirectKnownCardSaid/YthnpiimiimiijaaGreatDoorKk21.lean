/- The directory's reader: the book. direct.Parse and its deferred literal. The document's reader: Left, number. The document's reader: Get, Bytes, Octets. The document's reader: Bytes, Octets. The document's directory's reader: get, most, key; errors stay. The document's book of bytes: plain; a book on its way. -/
import Derived.Test.YthnpiimiimiijaaGreatDoorKk20
section
namespace Go.Proofs.YthnpiimiimiijaaGreatDoor.Dir
open Go Go.RowKit Go.Proofs Go.Proofs.YthnpiimiimiijaaGreatDoorW.PrintWords Go.Proofs.YthnpiimiimiijaaGreatDoorW.PrintLast Go.Proofs.YthnpiimiimiijaaGreatDoorW.PrintMore
set_option linter.unusedVariables false
set_option linter.unusedSimpArgs false
theorem run_buildDev1 (w : World) (n : Int) : (Instr.build 46 #[(0, .int .i64 n)]).run Tryz.prog w = .ok (.agg (encD ⟨n, key0, 0, false⟩).toArray) w := by
 have hf : Instr.fill (#[(0, 1), (1, 32), (33, 1), (34, 1)][·]?) zeroDev [(0, .int .i64 n)] = some (encD ⟨n, key0, 0, false⟩).toArray := by
  rw [fill_cons _ _ 0 _ _ 0 1 rfl rfl (by decide)]
  rfl
 have hz : (zeroValue 46).run Tryz.prog w = .ok (.agg zeroDev) w := Tryz.zeroValue46 w
 generalize zeroDev = Z at hf hz
 simp only [Instr.build, Sem.run_bind, hz, Result.andThen_ok, run_underlying Tryz.underlying46, Value.cells]
 simp only [List.mapM_toArray, List.mapM_cons, List.mapM_nil, Sem.run_bind, Sem.run_map, Sem.run_pure, Result.andThen_ok, Tryz.sizeOf3, Tryz.sizeOf34, Tryz.sizeOf4, Functor.map]
 have hb : ∀ {α β : Type} (x : Sem α) (f : α → Sem β), Sem.bind x f = x >>= f := fun _ _ => rfl
 simp only [hb, Sem.run_bind, Sem.run_pure, Result.andThen_ok, Tryz.sizeOf3, Tryz.sizeOf34, Tryz.sizeOf4, Function.comp]
 change ((Result.ok (#[(0, 1), (1, 32), (33, 1), (34, 1)] : Array (Nat × Nat)) w).andThen fun a w' => _) = _
 simp only [Result.andThen_ok]
 rw [hf]
 rfl
theorem wpList_buildN {P : Program} {w : World} {ops : Array Oper} {rest : List Oper} {o : Oper} {a : Act} {Q : Exit → Act → World → Prop} (hgd : o.guard = none) (t : TypeId) (x0 : Operand) (ho : o.op = .build t #[(0, x0)]) (v0 : Value) (h0 : a.eval x0 = v0) (r : Value) (w' : World)
  (hr : (Instr.build t #[(0, v0)]).run P w = .ok r w') (h : wpList P ops Q rest (a.put o.dst r) w') : wpList P ops Q (o :: rest) a w :=
 wpList_plain hgd fun K hK => by
  unfold Oper.wp
  have : (execOp a.eval o).run P w = .ok (.value r) w' := by
   unfold execOp
   simp only [ho, Sem.run_bind]
   simp [h0, hr]
  rw [this]
  exact hK _ _ h
structure DvS (T W : World) (base br nb : Nat) (d : Dev) (r : List UInt8) : Prop where
 hd : W.heap[nb]? = some (.cells (encD d).toArray 46 (0, 0))
 rd : Rd W base br r
 b : Below base T W
 kt : KeptT [144] T W
 lo : T.heap.size ≤ nb
 ba : base ≤ T.heap.size
section
variable {T W W' : World} {base br nb : Nat} {d : Dev} {r r' : List UInt8}
theorem DvS.step (h : DvS T W base br nb d r) (hb : Below base W W') (hk : KeptT [144] W W') (hr : Rd W' base br r') : DvS T W' base br nb d r' :=
 ⟨hk _ _ _ _ h.hd (by decide), hr, h.b.trans hb, h.kt.trans hk, h.lo, h.ba⟩
theorem DvS.set (h : DvS T W base br nb d r) (j : Nat) (u : Value) {d' : Dev} (he : (encD d).set j u = encD d') : DvS T (W.setCell ⟨nb, j, none⟩ u) base br nb d' r := by
 have k1 := KeptT.setCell (j := j) h.hd (by decide : (46 : Nat) ∈ [46]) u
 refine ⟨?_, h.rd.kept k1 (by decide) (by decide) (by decide), h.b.setCell (Nat.le_trans h.ba h.lo) _, h.kt.new h.lo _ _, h.lo, h.ba⟩
 rw [heap_setCell_same W nb j _ _ _ h.hd, ← he]
 simp
theorem KeptT.setRow {ts : List TypeId} {w : World} {b : Nat} {cs : Array Value} {T : TypeId} {fr : Nat × Nat} (hb : w.heap[b]? = some (.cells cs T fr)) (hT : T ∈ ts) (u : Array Value) : KeptT ts w (w.setRow b u) := fun g cs' T' fr' h ht => by
 rw [(grownBy_setRow w b u).block g (Array.getElem?_eq_some_iff.1 h).1 (fun e => by
  have e2 := Option.some.inj e
  subst e2
  rw [hb] at h
  cases h
  exact ht hT)]
 exact h
theorem KeptT.newRow {ts : List TypeId} {w W : World} (h : KeptT ts w W) {b : Nat} (hb : w.heap.size ≤ b) (hs : w.heap.size ≤ W.heap.size) (u : Array Value) : KeptT ts w (W.setRow b u) := fun g cs T fr hg ht => by
 have hlt := (Array.getElem?_eq_some_iff.1 hg).1
 rw [(grownBy_setRow W b u).block g (Nat.lt_of_lt_of_le hlt hs) (fun e => by have := Option.some.inj e; omega)]
 exact h g cs T fr hg ht
theorem DvS.key (h : DvS T W base br nb d r) (k : Key) :
  (Instr.storeAt 34 (.pointer (some ⟨nb, 1, none⟩)) (.agg (encK k).toArray)).run Tryz.prog W = .ok () (W.setRow nb (encD { d with key := k }).toArray) ∧ DvS T (W.setRow nb (encD { d with key := k }).toArray) base br nb { d with key := k } r := by
 have hr := run_storeAtK Tryz.prog W 34 32 Tryz.sizeOf34 nb 1 (encK k) (encK_len k) (encK_one k) (encD d) 46 h.hd (by rw [encD_len]; omega)
 have e : splice (encD d) 1 (encK k) = encD { d with key := k } := by
  unfold splice encD
  rw [encK_len]
  simp only [List.take_succ_cons, List.take_zero, Nat.reduceAdd, List.drop_succ_cons]
  rw [List.drop_append, List.drop_eq_nil_of_le (by rw [encK_len]; omega), encK_len]
  rfl
 rw [e] at hr
 have k1 := KeptT.setRow h.hd (by decide : (46 : Nat) ∈ [46]) (encD { d with key := k }).toArray
 exact ⟨hr, setRow_heap W nb _ _ 46 (0, 0) h.hd, h.rd.kept k1 (by decide) (by decide) (by decide), below_setRow h.b (Nat.le_trans h.ba h.lo) _, h.kt.newRow h.lo h.b.size _, h.lo, h.ba⟩
theorem DvS.load (h : DvS T W base br nb d r) : (Instr.loadAt 46 (.pointer (some ⟨nb, 0, none⟩))).run Tryz.prog W = .ok (.agg (encD d).toArray) W :=
 run_loadAtK Tryz.prog W 46 35 Tryz.isAgg46 Tryz.sizeOf46 nb 0 (encD d) (encD_len d) (cells_of_heap h.hd)
end
theorem setExp (d : Dev) (e : Int) : (encD d).set 33 (.int .i64 e) = encD { d with exp := e } := by
 unfold encD
 simp only [List.set_cons_succ]
 rw [List.set_append_right _ _ (by rw [encK_len]; omega), encK_len]
 rfl
theorem setRev (d : Dev) (e : Bool) : (encD d).set 34 (.bool e) = encD { d with rev := e } := by
 unfold encD
 simp only [List.set_cons_succ]
 rw [List.set_append_right _ _ (by rw [encK_len]; omega), encK_len]
 rfl
theorem conv_back {w : World} {A : Option Addr} {c : Nat} {t : List UInt8} (h : SrcAt w A t.length 1 (t.map byteV)) : (convert 67 9 (.slice A t.length c)).run Tryz.prog w = .ok (.string (str t)) w := by
 cases A with
 | none =>
  have h0 := h.2.1 rfl
  have ht : t = [] := List.eq_nil_of_length_eq_zero h0
  subst ht
  show (convert 67 9 (.slice none 0 c)).run Tryz.prog w = _
  rw [run_convert_bytes_string w 67 9 5 none 0 c Tryz.underlying67 Tryz.underlying5 Tryz.underlying9]
  simp [Conv.bytesToString]
  rfl
 | some a => exact run_convert_bytes_back w 67 9 5 a c t Tryz.underlying67 Tryz.underlying5 Tryz.underlying9 (fun j hj => by
   have := h.2.2 a rfl j (byteV t[j]) (by rw [List.getElem?_map, List.getElem?_eq_getElem hj]; rfl)
   exact this)
theorem devP_stop1 {l : List UInt8} {c : Int} (h : getP 1 l = .error c) : devP l = .error c := by unfold devP; rw [h]
theorem devP_stop2 {l r1 : List UInt8} {n : Nat} {c : Int} (h : getP 1 l = .ok (n, r1)) (h2 : keyP r1 = .error c) : devP l = .error c := by unfold devP; rw [h]; show (match keyP r1 with | .error c => _ | .ok (k, r2) => _) = _; rw [h2]
theorem devP_stop3 {l r1 r2 : List UInt8} {n : Nat} {k : Key} {c : Int} (h : getP 1 l = .ok (n, r1)) (h2 : keyP r1 = .ok (k, r2)) (h3 : getP 7 r2 = .error c) : devP l = .error c := by simp [devP, h, h2, h3]
theorem devP_stop4 {l r1 r2 r3 : List UInt8} {n e : Nat} {k : Key} {c : Int} (h : getP 1 l = .ok (n, r1)) (h2 : keyP r1 = .ok (k, r2)) (h3 : getP 7 r2 = .ok (e, r3)) (h4 : mostP 1 r3 = .error c) : devP l = .error c := by simp [devP, h, h2, h3, h4]
theorem devP_done {l r1 r2 r3 r4 : List UInt8} {n e v : Nat} {k : Key} (h : getP 1 l = .ok (n, r1)) (h2 : keyP r1 = .ok (k, r2)) (h3 : getP 7 r2 = .ok (e, r3)) (h4 : mostP 1 r3 = .ok (v, r4)) : devP l = .ok (⟨(n : Int), k, (e : Int), decide (v = 1)⟩, r4) := by simp [devP, h, h2, h3, h4]
def BookEnd (w w' : World) (base br : Nat) (l : List UInt8) (e : Ending) : Prop :=
 ((∃ c, c ≠ 0 ∧ bookSaid l (.error c) ∧ e = thrown c) ∨ (∃ B A1 c1 A2 c2, bookSaid l (.ok B) ∧ e = .returned (.agg (bookCells B A1 c1 A2 c2).toArray) ∧ OwnD w' w.heap.size A1 c1 B.devs ∧ OwnK w' w.heap.size A2 c2 B.spent)) ∧ Below base w w' ∧ KeptT [144] w w'
theorem said_err {l : List UInt8} {c : Int} (h : rawP l = .error c) : bookSaid l (.error c) := by unfold bookSaid; rw [h]
set_option maxHeartbeats 8000000 in
set_option maxRecDepth 100000 in
theorem book72 (base br : Nat) (r : List UInt8) (w w0 : World) (h : Rd w base br r) (hx : PA.LaidW w0) (h00 : w0.heap.size ≤ base) (hb00 : Below w0.heap.size w0 w) :
  Calls Tryz.prog 72 #[readerV br] w fun e w' => BookEnd w w' base br r e := by
 obtain ⟨p, hp⟩ : ∃ p, p = w.heap.size := ⟨_, rfl⟩
 obtain ⟨W1, hW1⟩ : ∃ W1, W1 = (w.alloc (.cells #[.pointer (some ⟨br, 0, none⟩)] 114)).alloc (.cells #[.int .i64 0, .int .i64 0, .slice none 0 0, .slice none 0 0, .string ⟨#[]⟩] 43) := ⟨_, rfl⟩
 have hb1 : Below w.heap.size w W1 := by rw [hW1]; exact ((Below.refl _ w).alloc (Nat.le_refl _) _).alloc (by simp) _
 have q0 : W1.heap[p]? = some (.cells #[.pointer (some ⟨br, 0, none⟩)] 114 (0, 0)) := by rw [hW1, hp, Below.heap_alloc _ _ _ (by simp)]; exact heap_alloc_new w _
 have q1 : W1.heap[p + 1]? = some (.cells (bookCells book0 none 0 none 0).toArray 43 (0, 0)) := by rw [hW1, hp]; have := heap_alloc_new (w.alloc (.cells #[.pointer (some ⟨br, 0, none⟩)] 114)) (.cells #[.int .i64 0, .int .i64 0, .slice none 0 0, .slice none 0 0, .string ⟨#[]⟩] 43); rw [World.size_alloc] at this; exact this
 have hsz : (w.alloc (.cells #[.pointer (some ⟨br, 0, none⟩)] 114)).heap.size = p + 1 := by rw [hp]; simp
 have HS1 := Aside0.mk (show BkS w W1 base p (p + 1) br book0 none 0 none 0 r from ⟨q0, q1, ownD_nil _ _, ownK_nil _ _, h.below hb1, hb1.mono h.base_le, KeptT.below hb1, by omega, h.base_le⟩)
 have HX := Aside0.mk (show ∀ W, Below base w W → PA.LaidW W from fun W hb => hx.below (hb00.trans (hb.mono h00)))
 clear h hb1 q0 q1 hx h00 hb00
 unfold readerV
 go_enter Tryz.func72, Tryz.ntmps72
 go_upto_region 1 with fail
 change Code.wp _ _ _ _ ((w.alloc (.cells #[.pointer (some ⟨br, 0, none⟩)] 114)).alloc (.cells #[.int .i64 0, .int .i64 0, .slice none 0 0, .slice none 0 0, .string ⟨#[]⟩] 43))
 rw [← hW1]
 try rw [hsz]
 rw [← hp]
 have HPP := Aside0.mk hp
 clear hW1 hsz hp
 obtain ⟨q, hq⟩ : ∃ q, q = p + 1 := ⟨_, rfl⟩
 rw [← hq] at HS1 ⊢
 clear hq
 have L1 := Aside0.mk HS1.out.rdl
 go_wp2_with ((with_reducible refine at_load 114 (.tmp 1) ?_); refine wpList_loadK rfl 114 (.tmp 1) rfl _ rfl _ L1.out ?_)
 refine (get107 base br 7 r W1 HS1.out.rd (by decide) (by decide)).mono ?_
 rintro e w1 ⟨hs, hb, hk⟩
 rcases hs with ⟨c, hc, hx, rfl⟩ | ⟨vn, r1, hx, rfl, hrd⟩
 ·have HBB := Aside0.mk (And.intro (HS1.out.b.trans hb) (HS1.out.kt.trans hk))
  clear hb hk
  have HE := Aside0.mk (said_err (show rawP r = .error c by unfold rawP; rw [hx]))
  have HC := Aside0.mk hc
  clear hc hx
  unfold thrown
  go_wp2
  exact ⟨rfl, .inl ⟨c, HC.out, HE.out, rfl⟩, HBB.out.1, HBB.out.2⟩
 have HX1 := Aside0.mk hx
 have hs1 := HS1.out.step hb hk hrd
 have f0 := hs1.frz 0
 have c0 := hs1.cells.1
 have HS2 := Aside0.mk (hs1.set 0 (.int .i64 vn) (B' := ⟨vn, 0, [], [], []⟩) rfl (ownD_nil _ _) (ownK_nil _ _))
 clear hb hk hrd hx L1 hs1
 go_upto_region 2 with fail
 clear f0 c0
 obtain ⟨W2, hW2⟩ : ∃ W2, W2 = w1.setCell ⟨q, 0, none⟩ (.int .i64 vn) := ⟨_, rfl⟩
 rw [← hW2] at HS2 ⊢
 clear hW2
 have L1 := Aside0.mk HS2.out.rdl
 go_wp2_with ((with_reducible refine at_load 114 (.tmp 1) ?_); refine wpList_loadK rfl 114 (.tmp 1) rfl _ rfl _ L1.out ?_)
 refine (get107 base br 7 r1 W2 HS2.out.rd (by decide) (by decide)).mono ?_
 rintro e w1' ⟨hs, hb, hk⟩
 rcases hs with ⟨c, hc, hx, rfl⟩ | ⟨cn, r2, hx, rfl, hrd⟩
 ·have HBB := Aside0.mk (And.intro (HS2.out.b.trans hb) (HS2.out.kt.trans hk))
  clear hb hk
  have HE := Aside0.mk (said_err (show rawP r = .error c by simp [rawP, HX1.out, hx]))
  have HC := Aside0.mk hc
  clear hc hx
  unfold thrown
  go_wp2
  exact ⟨rfl, .inl ⟨c, HC.out, HE.out, rfl⟩, HBB.out.1, HBB.out.2⟩
 have HX2 := Aside0.mk hx
 have hs1 := HS2.out.step hb hk hrd
 have f0 := hs1.frz 1
 have c0 := hs1.cells.2.1
 have HS3 := Aside0.mk (hs1.set 1 (.int .i64 cn) (B' := ⟨vn, cn, [], [], []⟩) rfl (ownD_nil _ _) (ownK_nil _ _))
 clear hb hk hrd hx L1 hs1
 go_upto_region 3 with fail
 clear f0 c0
 obtain ⟨W3, hW3⟩ : ∃ W3, W3 = w1'.setCell ⟨q, 1, none⟩ (.int .i64 cn) := ⟨_, rfl⟩
 rw [← hW3] at HS3 ⊢
 clear hW3
 have L1 := Aside0.mk HS3.out.rdl
 go_wp2_with ((with_reducible refine at_load 114 (.tmp 1) ?_); refine wpList_loadK rfl 114 (.tmp 1) rfl _ rfl _ L1.out ?_)
 refine (most108 base br 8 r2 W3 HS3.out.rd).mono ?_
 rintro e w1'' ⟨hs, hb, hk⟩
 rcases hs with ⟨c, hc, hx, rfl⟩ | ⟨n, r3, hx, rfl, hrd⟩
 ·have HBB := Aside0.mk (And.intro (HS3.out.b.trans hb) (HS3.out.kt.trans hk))
  clear hb hk
  have HE := Aside0.mk (said_err (show rawP r = .error c by simp [rawP, HX1.out, HX2.out, hx]))
  have HC := Aside0.mk hc
  clear hc hx
  unfold thrown
  go_wp2
  exact ⟨rfl, .inl ⟨c, HC.out, HE.out, rfl⟩, HBB.out.1, HBB.out.2⟩
 have HX3 := Aside0.mk hx
 have HN8 := Aside0.mk (mostP_le hx)
 have HS4 := Aside0.mk (HS3.out.step hb hk hrd)
 clear hb hk hrd hx L1
 go_upto_region 4 with fail
 go_loopg [14] n (fun kx s14 wr => ∃ (kk : Nat) (ds : List Dev) (A1 : Option Addr) (c1 : Nat) (ri : List UInt8), s14 = .int .i64 kk ∧ kk + kx = n ∧ Aside0 (BkS w wr base p q br ⟨vn, cn, ds, [], []⟩ A1 c1 none 0 ri ∧ ds.length = kk ∧ manyP devP n r3 = withPre ds (manyP devP (n - kk) ri)))
 case atStart => exact ⟨0, [], none, 0, r3, rfl, by omega, ⟨HS4.out, rfl, (withPre_nil _).symm⟩⟩
 case round =>
  obtain ⟨kk, ds, A1, c1, ri, rfl, hkk, HT⟩ := hrel
  have hn8 := HN8.out
  by_cases hlt : kk < n
  ·have hltz : (kk : Int) < (n : Int) := by omega
   have L1 := Aside0.mk HT.out.1.rdl
   have HTN := Aside0.mk (show manyP devP n r3 = withPre ds (manyP devP (n - kk - 1 + 1) ri) by rw [show n - kk - 1 + 1 = n - kk by omega]; exact HT.out.2.2)
   have HKK := Aside0.mk (And.intro hkk hlt)
   obtain ⟨ko, rfl⟩ : ∃ ko, gk = ko + 1 := ⟨gk - 1, by omega⟩
   clear hkk hlt
   have HBAD := Aside0.mk (show ∀ c, devP ri = .error c → bookSaid r (.error c) from fun c hd => said_err (by simp [rawP, HX1.out, HX2.out, HX3.out, HTN.out, withPre_stop hd]))
   go_wp2_with ((with_reducible refine at_load 114 (.tmp 1) ?_); refine wpList_loadK rfl 114 (.tmp 1) rfl _ rfl _ L1.out ?_)
   refine (get107 base br 1 ri wr HT.out.1.rd (by decide) (by decide)).mono ?_
   rintro e u1 ⟨hs, hb, hk⟩
   rcases hs with ⟨c, hc, hx, rfl⟩ | ⟨dn, q1, hx, rfl, hrd⟩
   ·have HBB := Aside0.mk (And.intro (HT.out.1.b.trans hb) (HT.out.1.kt.trans hk))
    have HE := Aside0.mk (HBAD.out c (devP_stop1 hx))
    have HC := Aside0.mk hc
    clear hb hk hc hx
    unfold thrown
    go_wp2
    exact ⟨rfl, .inl ⟨c, HC.out, HE.out, rfl⟩, HBB.out.1, HBB.out.2⟩
   have HY1 := Aside0.mk hx
   obtain ⟨nb, hnb⟩ : ∃ nb, nb = u1.heap.size := ⟨_, rfl⟩
   obtain ⟨U2, hU2⟩ : ∃ U2, U2 = u1.alloc (.cells (encD ⟨dn, key0, 0, false⟩).toArray 46) := ⟨_, rfl⟩
   have hbu := (Below.refl u1.heap.size u1).alloc (Nat.le_refl _) (.cells (encD ⟨dn, key0, 0, false⟩).toArray 46)
   have HD2 := Aside0.mk (show DvS wr U2 base br nb ⟨dn, key0, 0, false⟩ q1 by
    rw [hU2, hnb]
    exact ⟨heap_alloc_new u1 _, hrd.below hbu, hb.trans (hbu.mono hrd.base_le), hk.trans (KeptT.below hbu), hb.size, HT.out.1.rd.base_le⟩)
   have HB1 := Aside0.mk (fun (W : World) => run_buildDev1 W (dn : Int))
   have st := Aside0.mk (fun (c : Array Value) (hc : c.size = 35) => run_storeNew Tryz.prog u1 46 35 sizeD c (encD ⟨dn, key0, 0, false⟩).toArray hc (by simpa using encD_len _) (by simpa using encD_one _))
   obtain ⟨DA, hDA⟩ : ∃ DA, DA = (encD ⟨(dn : Int), key0, 0, false⟩).toArray := ⟨_, rfl⟩
   rw [← hDA] at HB1 st hU2
   have HTB := Aside0.mk (show ∀ W, Below base wr W → KeptT [144] wr W → Below base w W ∧ KeptT [144] w W from fun W h1 h2 => ⟨HT.out.1.b.trans h1, HT.out.1.kt.trans h2⟩)
   clear hb hk hrd hx L1 hbu hDA
   go_upto_region 6 with (first | ((with_reducible refine at_build 46 #[(0, .tmp 17)] ?_); refine wpList_buildN rfl 46 (.tmp 17) rfl _ rfl _ _ (HB1.out _) ?_) | ((with_reducible refine at_store 46 (.tmp 3) (.tmp 18) ?_); refine wpList_storeK rfl 46 (.tmp 3) (.tmp 18) rfl rfl _ _ rfl rfl _ (st.out _ rfl) ?_))
   rw [← hU2, ← hnb]
   clear hU2 hnb HB1 st
   have L1 := Aside0.mk (HT.out.1.step HD2.out.b HD2.out.kt HD2.out.rd).rdl
   go_wp2_with ((with_reducible refine at_load 114 (.tmp 1) ?_); refine wpList_loadK rfl 114 (.tmp 1) rfl _ rfl _ L1.out ?_)
   refine (key109 base br q1 U2 HD2.out.rd).mono ?_
   rintro e u3 ⟨hs, hb, hk⟩
   rcases hs with ⟨c, hc, hx, rfl⟩ | ⟨dk, q2, hx, rfl, hrd⟩
   ·have HBB := Aside0.mk (And.intro ((HTB.out _ HD2.out.b HD2.out.kt).1.trans hb) ((HTB.out _ HD2.out.b HD2.out.kt).2.trans hk))
    have HE := Aside0.mk (HBAD.out c (devP_stop2 HY1.out hx))
    have HC := Aside0.mk hc
    clear hb hk hc hx
    unfold thrown
    go_wp2
    exact ⟨rfl, .inl ⟨c, HC.out, HE.out, rfl⟩, HBB.out.1, HBB.out.2⟩
   have HY2 := Aside0.mk hx
   have hd3 := HD2.out.step hb hk hrd
   obtain ⟨hst, hd4⟩ := hd3.key dk
   have HST := Aside0.mk hst
   have HD4 := Aside0.mk hd4
   obtain ⟨U4, hU4⟩ : ∃ U4, U4 = u3.setRow nb (encD { (⟨dn, key0, 0, false⟩ : Dev) with key := dk }).toArray := ⟨_, rfl⟩
   rw [← hU4] at HST HD4
   clear hb hk hrd hx L1 hd3 hst hd4 hU4
   unfold keyV
   obtain ⟨KA, hKA⟩ : ∃ KA, KA = (encK dk).toArray := ⟨_, rfl⟩
   rw [← hKA] at HST ⊢
   clear hKA
   go_upto_region 7 with ((with_reducible refine at_store 34 (.tmp 21) (.tmp 20) ?_); refine wpList_storeK rfl 34 (.tmp 21) (.tmp 20) rfl rfl _ _ rfl rfl _ HST.out ?_)
   have L1 := Aside0.mk (HT.out.1.step HD4.out.b HD4.out.kt HD4.out.rd).rdl
   go_wp2_with ((with_reducible refine at_load 114 (.tmp 1) ?_); refine wpList_loadK rfl 114 (.tmp 1) rfl _ rfl _ L1.out ?_)
   refine (get107 base br 7 q2 U4 HD4.out.rd (by decide) (by decide)).mono ?_
   rintro e u5 ⟨hs, hb, hk⟩
   rcases hs with ⟨c, hc, hx, rfl⟩ | ⟨de, q3, hx, rfl, hrd⟩
   ·have HBB := Aside0.mk (And.intro ((HTB.out _ HD4.out.b HD4.out.kt).1.trans hb) ((HTB.out _ HD4.out.b HD4.out.kt).2.trans hk))
    have HE := Aside0.mk (HBAD.out c (devP_stop3 HY1.out HY2.out hx))
    have HC := Aside0.mk hc
    clear hb hk hc hx
    unfold thrown
    go_wp2
    exact ⟨rfl, .inl ⟨c, HC.out, HE.out, rfl⟩, HBB.out.1, HBB.out.2⟩
   have HY3 := Aside0.mk hx
   have hd5 := HD4.out.step hb hk hrd
   have c0 : u5.cell? ⟨nb, 33, none⟩ = some (.int .i64 0) := by rw [cell_of_heap hd5.hd]; exact expOfD _
   have f0 : u5.frozen? ⟨nb, 33, none⟩ = false := frozen_of_heap hd5.hd
   have HD6 := Aside0.mk (hd5.set 33 (.int .i64 de) (setExp _ de))
   clear hb hk hrd hx L1 hd5
   go_upto_region 8 with fail
   clear c0 f0
   obtain ⟨U6, hU6⟩ : ∃ U6, U6 = u5.setCell ⟨nb, 33, none⟩ (.int .i64 de) := ⟨_, rfl⟩
   rw [← hU6] at HD6 ⊢
   clear hU6
   have L1 := Aside0.mk (HT.out.1.step HD6.out.b HD6.out.kt HD6.out.rd).rdl
   go_wp2_with ((with_reducible refine at_load 114 (.tmp 1) ?_); refine wpList_loadK rfl 114 (.tmp 1) rfl _ rfl _ L1.out ?_)
   refine (most108 base br 1 q3 U6 HD6.out.rd).mono ?_
   rintro e u7 ⟨hs, hb, hk⟩
   rcases hs with ⟨c, hc, hx, rfl⟩ | ⟨dv, q4, hx, rfl, hrd⟩
   ·have HBB := Aside0.mk (And.intro ((HTB.out _ HD6.out.b HD6.out.kt).1.trans hb) ((HTB.out _ HD6.out.b HD6.out.kt).2.trans hk))
    have HE := Aside0.mk (HBAD.out c (devP_stop4 HY1.out HY2.out HY3.out hx))
    have HC := Aside0.mk hc
    clear hb hk hc hx
    unfold thrown
    go_wp2
    exact ⟨rfl, .inl ⟨c, HC.out, HE.out, rfl⟩, HBB.out.1, HBB.out.2⟩
   have HY4 := Aside0.mk (devP_done HY1.out HY2.out HY3.out hx)
   have hd7 := HD6.out.step hb hk hrd
   have c0 : u7.cell? ⟨nb, 34, none⟩ = some (.bool false) := by rw [cell_of_heap hd7.hd]; exact revOfD _
   have f0 : u7.frozen? ⟨nb, 34, none⟩ = false := frozen_of_heap hd7.hd
   have HD8 := Aside0.mk (hd7.set 34 (.bool (decide (dv = 1))) (setRev _ (decide (dv = 1))))
   have hbq : ((dv : Int) == 1) = decide (dv = 1) := by
    by_cases e : dv = 1
    ·subst e; rfl
    ·rw [decide_eq_false e]; exact beq_eq_false_iff_ne.2 (by omega)
   clear hb hk hrd hx L1 hd7
   obtain ⟨rv, hrv⟩ : ∃ rv, rv = decide (dv = 1) := ⟨_, rfl⟩
   rw [← hrv] at HD8 hbq HY4
   clear hrv
   go_upto_region 9 with fail
   clear c0 f0 hbq
   obtain ⟨U8, hU8⟩ : ∃ U8, U8 = u7.setCell ⟨nb, 34, none⟩ (.bool rv) := ⟨_, rfl⟩
   rw [← hU8] at HD8 ⊢
   clear hU8
   have hs8 := HT.out.1.step HD8.out.b HD8.out.kt HD8.out.rd
   have HS8 := Aside0.mk hs8
   have L8 := Aside0.mk HD8.out.load
   obtain ⟨dd, hdd⟩ : ∃ dd : Dev, dd = ⟨dn, dk, de, rv⟩ := ⟨_, rfl⟩
   rw [show ({ (⟨(dn : Int), key0, 0, false⟩ : Dev) with key := dk, exp := (de : Int), rev := rv } : Dev) = dd from hdd.symm] at L8
   have HY5 := Aside0.mk (show devP ri = .ok (dd, q4) by rw [hdd]; exact HY4.out)
   obtain ⟨DX, hDX⟩ : ∃ DX, DX = (encD dd).toArray := ⟨_, rfl⟩
   rw [← hDX] at L8
   have HDX := Aside0.mk hDX
   obtain ⟨m8, hm8⟩ : ∃ m8, m8 = ds.length := ⟨_, rfl⟩
   have HM8 := Aside0.mk hm8
   have k2 : U8.cell? ⟨q, 2, none⟩ = some (.slice A1 m8 c1) := by rw [hm8]; exact hs8.cells.2.2.1
   clear hs8 hdd hDX hm8
   go_wp2_with (first | ((with_reducible refine at_load 46 (.tmp 3) ?_); refine wpList_loadK rfl 46 (.tmp 3) rfl _ rfl _ L8.out ?_) | ((with_reducible refine at_bslice 40 (.tmp 31) ?_); refine wpList_pushDk rfl rfl (.tmp 31) (.tmp 30) (.tmp 32) rfl rfl dd (by rw [← HDX.out]; rfl) w.heap.size A1 c1 m8 ds HS8.out.d rfl HM8.out.symm rfl (by have h1 := HT.out.2.1; have h2 := HKK.out; have h3 := HN8.out; omega) HS8.out.sz ?_; intro A3 c3 w9 h1 h2 h3; have k2' : w9.cell? ⟨q, 2, none⟩ = some (.slice A1 m8 c1) := (by rw [cell_of_heap (h3 _ _ _ _ HS8.out.bx (by decide)), HM8.out]; rfl); have f2' : w9.frozen? ⟨q, 2, none⟩ = false := frozen_of_heap (h3 _ _ _ _ HS8.out.bx (by decide)); have HP9 := Aside0.mk (HS8.out.pushD h1 h2 h3); clear h1 h2 h3))
   go_wp2_with fail
   rw [← HM8.out] at HP9
   go_roundg ko
   case measure => have := HKK.out; omega
   case rel =>
    refine ⟨kk + 1, ds ++ [dd], A3, c3, q4, by go_num, by have := HKK.out; omega, ⟨HP9.out, by rw [List.length_append, HT.out.2.1]; rfl, ?_⟩⟩
    rw [HTN.out, withPre_step HY5.out]
    congr 2
  ·have hltz : ¬ (kk : Int) < (n : Int) := by omega
   have HDS := Aside0.mk (show manyP devP n r3 = .ok (ds, ri) by rw [HT.out.2.2, show n - kk = 0 by omega]; exact withPre_done)
   have HS5 := Aside0.mk HT.out.1
   have L1 := Aside0.mk HS5.out.rdl
   have HDL := Aside0.mk (show ds.length ≤ 8 by have := HT.out.2.1; omega)
   clear hlt hkk
   go_wp2_with ((with_reducible refine at_load 114 (.tmp 1) ?_); refine wpList_loadK rfl 114 (.tmp 1) rfl _ rfl _ L1.out ?_)
   refine (most108 base br 64 ri wr HS5.out.rd).mono ?_
   rintro e v1 ⟨hs, hb, hk⟩
   rcases hs with ⟨c, hc, hx, rfl⟩ | ⟨m, r5, hx, rfl, hrd⟩
   ·have HBB := Aside0.mk (And.intro (HS5.out.b.trans hb) (HS5.out.kt.trans hk))
    clear hb hk
    have HE := Aside0.mk (said_err (show rawP r = .error c by simp [rawP, HX1.out, HX2.out, HX3.out, HDS.out, hx]))
    have HC := Aside0.mk hc
    clear hc hx
    unfold thrown
    go_wp2
    exact ⟨rfl, .inl ⟨c, HC.out, HE.out, rfl⟩, HBB.out.1, HBB.out.2⟩
   have HX5 := Aside0.mk hx
   have HM64 := Aside0.mk (mostP_le hx)
   have HS6 := Aside0.mk (HS5.out.step hb hk hrd)
   clear hb hk hrd hx L1
   go_upto_region 12 with fail
   go_loopg [38] m (fun kx s38 wr2 => ∃ (kk : Nat) (ks : List Key) (A2 : Option Addr) (c2 : Nat) (rj : List UInt8), s38 = .int .i64 kk ∧ kk + kx = m ∧ Aside0 (BkS w wr2 base p q br ⟨vn, cn, ds, ks, []⟩ A1 c1 A2 c2 rj ∧ ks.length = kk ∧ manyP keyP m r5 = withPre ks (manyP keyP (m - kk) rj)))
   case atStart => exact ⟨0, [], none, 0, r5, rfl, by omega, ⟨HS6.out, rfl, (withPre_nil _).symm⟩⟩
   case round =>
    obtain ⟨kk, ks, A2, c2, rj, rfl, hkk, HU⟩ := hrel
    have hm64 := HM64.out
    by_cases hlt : kk < m
    ·have hltz : (kk : Int) < (m : Int) := by omega
     have HTN := Aside0.mk (show manyP keyP m r5 = withPre ks (manyP keyP (m - kk - 1 + 1) rj) by rw [show m - kk - 1 + 1 = m - kk by omega]; exact HU.out.2.2)
     have HKK := Aside0.mk (And.intro hkk hlt)
     obtain ⟨ko, rfl⟩ : ∃ ko, gk = ko + 1 := ⟨gk - 1, by omega⟩
     have HBAD := Aside0.mk (show ∀ c, keyP rj = .error c → bookSaid r (.error c) from fun c hd => said_err (by simp [rawP, HX1.out, HX2.out, HX3.out, HDS.out, HX5.out, HTN.out, withPre_stop hd]))
     obtain ⟨m8, hm8⟩ : ∃ m8, m8 = ks.length := ⟨_, rfl⟩
     have HM8 := Aside0.mk hm8
     have HML := Aside0.mk (show m8 ≤ 64 by have := HU.out.2.1; omega)
     obtain ⟨BA, hBA⟩ : ∃ BA, BA = bookCells ⟨vn, cn, ds, ks, []⟩ A1 c1 A2 c2 := ⟨_, rfl⟩
     have HBA := Aside0.mk hBA
     have h3 : BA[3]? = some (.slice A2 m8 c2) := by rw [hBA, hm8]; rfl
     have H3 := Aside0.mk h3
     clear hkk hlt hm8 hBA h3
     go_upto_region 13 with fail
     refine start_ (n := 8) (S := fun W => W.heap[q]? = some (.cells BA.toArray 43 (0, 0)) ∧ W.heap[p]? = some (.cells #[.pointer (some ⟨br, 0, none⟩)] 114 (0, 0))) (ds := [7]) #[false, false, false, false, false, false, false, false] (by kernel_rfl) rfl rfl ⟨by rw [HBA.out]; exact HU.out.1.bx, HU.out.1.rb⟩ (fun hHeld => ?_)
     obtain ⟨w5, hw5⟩ : ∃ w5, w5 = wr.drew := ⟨_, rfl⟩
     have HS7 := Aside0.mk (HU.out.1.later (W' := wr.drew) ((Below.refl _ wr).drew))
     rw [← hw5] at hHeld HS7 ⊢
     clear hw5
     refine pure_ (i := 0) (N := (some 40)) (v := ?_) (a' := ?_) #[true, false, false, false, false, false, false, false] rfl rfl (by kernel_rfl) (fun _ _ _ h => h) (Or.inl ⟨by rfl, ?_⟩) ?_ ?_
     rotate_left
     ·intro w'
      go_simp
      with_reducible rfl
     rotate_left
     ·simp only [Act.put, List.setIfInBounds_toArray, List.set_cons_zero, List.set_cons_succ, i64_w, i32_w]
      rfl
     refine take_ (i := 1) (N := (some 41)) (v := ?_) (a' := ?_) #[true, true, false, false, false, false, false, false] rfl rfl (by kernel_rfl) (fun _ _ _ h => h) (Or.inl ⟨by rfl, ?_⟩) hHeld ?_ ?_
     rotate_left
     ·rintro w' hs
      have s0 : w'.cell? ⟨q, 3, none⟩ = some (.slice A2 m8 c2) := by rw [cell_of_heap hs.1]; exact H3.out
      go_simp
      with_reducible rfl
     rotate_left
     ·simp only [Act.put, List.setIfInBounds_toArray, List.set_cons_zero, List.set_cons_succ, i64_w, i32_w]
      rfl
     refine take_ (i := 2) (N := (some 42)) (v := _) (a' := ?_) #[true, true, true, false, false, false, false, false] rfl rfl (by kernel_rfl) (fun _ _ _ h => h) (Or.inl ⟨by rfl, fun w' hs => yields_load 114 (.tmp 1) _ rfl _ _ rfl _ (run_loadAtK Tryz.prog w' 114 1 Tryz.isAgg114 Tryz.sizeOf114 p 0 [.pointer (some ⟨br, 0, none⟩)] rfl (cells_of_heap hs.2))⟩) hHeld ?_ ?_
     rotate_left
     ·simp only [Act.put, List.setIfInBounds_toArray, List.set_cons_zero, List.set_cons_succ, i64_w, i32_w]
      rfl
     refine one_ (i := 3) (N := (some 43)) #[true, true, true, true, false, false, false, false] rfl rfl (by kernel_rfl) (by decide) (fun K hK => ?_)
     refine goesp_ Tryz.func109 (by kernel_rfl) rfl #[.agg #[.pointer (some ⟨br, 0, none⟩)]] (by rfl) rfl rfl (by (try simp only [List.map_toArray, List.map_cons, List.map_nil]); first | done | rfl) ?_
     refine (key109 base br rj w5 HS7.out.rd).mono ?_
     rintro e w5c ⟨hs, hb, hk⟩
     rcases hs with ⟨c, hc, hx, rfl⟩ | ⟨kx1, rk, hx, rfl, hrd⟩
     ·right
      refine ⟨_, rfl, ?_⟩
      have HBB := Aside0.mk (And.intro (HS7.out.b.trans hb) (HS7.out.kt.trans hk))
      exact ⟨rfl, .inl ⟨c, hc, HBAD.out c hx, rfl⟩, HBB.out.1, HBB.out.2⟩
     left
     refine ⟨_, rfl, ?_⟩
     have HX6 := Aside0.mk hx
     have HS8 := Aside0.mk (HS7.out.step hb hk hrd)
     have hS_ : w5c.heap[q]? = some (.cells BA.toArray 43 (0, 0)) ∧ w5c.heap[p]? = some (.cells #[.pointer (some ⟨br, 0, none⟩)] 114 (0, 0)) := ⟨hk _ _ _ _ hHeld.1 (by decide), hk _ _ _ _ hHeld.2 (by decide)⟩
     clear hb hk hrd hx
     unfold keyV
     refine hK.out _ _ hS_ (fun hHeld => ?_)
     clear hK K
     refine norm_ (a' := ?_) ?_ ?_
     rotate_left
     ·show Act.put _ (some 43) _ = _
      simp only [Act.put, List.setIfInBounds_toArray, List.set_cons_zero, List.set_cons_succ, i64_w, i32_w]
      rfl
     refine one_ (i := 4) (N := (some 44)) #[true, true, true, true, true, false, false, false] rfl rfl (by kernel_rfl) (by decide) (fun K hK => ?_)
     refine value_ (v := .slice (some ⟨w5c.heap.size, 0, none⟩) 1 1) (w1 := w5c.alloc (.cells (encK kx1).toArray 34)) (by rfl) rfl ?_ ?_
     ·exact execOp_buildSlice _ _ 41 (.tmp 43) _ rfl _ _ rfl _ _ (buildK w5c kx1)
     have hbw := (Below.refl w5c.heap.size w5c).alloc (Nat.le_refl _) (.cells (encK kx1).toArray 34)
     have hS_ : (w5c.alloc (.cells (encK kx1).toArray 34)).heap[q]? = some (.cells BA.toArray 43 (0, 0)) ∧ (w5c.alloc (.cells (encK kx1).toArray 34)).heap[p]? = some (.cells #[.pointer (some ⟨br, 0, none⟩)] 114 (0, 0)) := ⟨room_at hHeld.1 hbw, room_at hHeld.2 hbw⟩
     have HSR := Aside0.mk (show SrcAt (w5c.alloc (.cells (encK kx1).toArray 34)) (some ⟨w5c.heap.size, 0, none⟩) 1 32 (flatK [kx1]) by rw [show flatK [kx1] = encK kx1 by unfold flatK; simp]; exact src_new (heap_alloc_new w5c _) (encK_len kx1))
     obtain ⟨w7, hw7⟩ : ∃ w7, w7 = w5c.alloc (.cells (encK kx1).toArray 34) := ⟨_, rfl⟩
     obtain ⟨p7, hp7⟩ : ∃ p7, p7 = w5c.heap.size := ⟨_, rfl⟩
     have HB7 := Aside0.mk (show Below w5c.heap.size w5c w7 by rw [hw7]; exact hbw)
     rw [← hw7, ← hp7] at HSR
     rw [← hw7] at hS_ ⊢
     rw [← hp7]
     clear hw7 hp7 hbw
     refine hK.out _ _ hS_ (fun hHeld => ?_)
     clear hK K
     refine norm_ (a' := ?_) ?_ ?_
     rotate_left
     ·show Act.put _ (some 44) _ = _
      simp only [Act.put, List.setIfInBounds_toArray, List.set_cons_zero, List.set_cons_succ, i64_w, i32_w]
      rfl
     have HO7 := Aside0.mk (show w7.ownsRow w.heap.size 34 32 (.slice A2 m8 c2) m8 (flatK ks) by rw [HM8.out]; exact (HS8.out.later HB7.out).k)
     obtain ⟨A', c', w8, hr, g2, g3⟩ := run_app appK w7 41 w.heap.size m8 c2 1 1 A2 (some ⟨p7, 0, none⟩) (flatK ks) (flatK [kx1]) HO7.out HSR.out (flatK_one _) (by have := HML.out; omega) (by have := HML.out; unfold maxLen; omega) (Nat.le_trans HS8.out.sz HB7.out.size)
     refine one_ (i := 5) (N := (some 45)) #[true, true, true, true, true, true, false, false] rfl rfl (by kernel_rfl) (by decide) (fun K hK => ?_)
     refine value_ (v := .slice A' (m8 + 1) c') (w1 := w8) (by rfl) rfl ?_ ?_
     ·exact runs_append 41 (.tmp 41) (.tmp 44) _ rfl _ (.slice A2 m8 c2) (.slice (some ⟨p7, 0, none⟩) 1 1) _ rfl rfl hr
     have hkg : KeptT [34] w7 w8 := KeptT.grown HO7.out g3 (by decide)
     have HG8 := Aside0.mk (show OwnK w8 w.heap.size A' c' (ks ++ [kx1]) ∧ Below w.heap.size w7 w8 ∧ KeptT [34] w7 w8 from ⟨by unfold OwnK; rw [flatK_append, List.length_append, ← HM8.out]; exact g2, below_own HO7.out g3 (Nat.le_trans HS8.out.sz HB7.out.size), hkg⟩)
     have hS_ : w8.heap[q]? = some (.cells BA.toArray 43 (0, 0)) ∧ w8.heap[p]? = some (.cells #[.pointer (some ⟨br, 0, none⟩)] 114 (0, 0)) := ⟨hkg _ _ _ _ hHeld.1 (by decide), hkg _ _ _ _ hHeld.2 (by decide)⟩
     clear hr g2 g3 hkg
     refine hK.out _ _ hS_ (fun hHeld => ?_)
     clear hK K
     refine norm_ (a' := ?_) ?_ ?_
     rotate_left
     ·show Act.put _ (some 45) _ = _
      simp only [Act.put, List.setIfInBounds_toArray, List.set_cons_zero, List.set_cons_succ, i64_w, i32_w]
      rfl
     refine pure_ (i := 6) (N := (some 46)) (v := ?_) (a' := ?_) #[true, true, true, true, true, true, true, false] rfl rfl (by kernel_rfl) (fun _ _ _ h => h) (Or.inl ⟨by rfl, ?_⟩) ?_ ?_
     rotate_left
     ·intro w'
      go_simp
      with_reducible rfl
     rotate_left
     ·simp only [Act.put, List.setIfInBounds_toArray, List.set_cons_zero, List.set_cons_succ, i64_w, i32_w]
      rfl
     refine last_ (i := 7) (N := none) #[true, true, true, true, true, true, true, true] rfl rfl (by kernel_rfl) (by decide) (fun K hK => ?_)
     refine store_ (w1 := w8.setCell ⟨q, 3, none⟩ (.slice A' (m8 + 1) c')) (by rfl) rfl ?_ ?_
     ·exact runs_store 41 (.tmp 46) (.tmp 45) _ rfl _ _ _ rfl rfl _ (run_storeAt1 Tryz.prog w8 41 Tryz.sizeOf41 q 3 _ rfl rfl (.slice A2 m8 c2) (by rw [cell_of_heap hHeld.1]; exact H3.out) (frozen_of_heap hHeld.1))
     skip
     refine hK.out _ _ ?_
     clear hK K
     refine norm_ (a' := ?_) ?_ ?_
     rotate_left
     ·show Act.put _ none _ = _
      simp only [Act.put, List.setIfInBounds_toArray, List.set_cons_zero, List.set_cons_succ, i64_w, i32_w]
      rfl
     refine done_ (by kernel_rfl) ?_
     have HP9 := Aside0.mk ((HS8.out.later HB7.out).pushK HG8.out.1 HG8.out.2.1 HG8.out.2.2)
     clear hHeld
     rw [← HM8.out] at HP9
     go_wp2_with fail
     go_roundg ko
     case measure => have := HKK.out; omega
     case rel =>
      refine ⟨kk + 1, ks ++ [kx1], A', c', rk, by go_num, by have := HKK.out; omega, ⟨HP9.out, by rw [List.length_append, HU.out.2.1]; rfl, ?_⟩⟩
      rw [HTN.out, withPre_step HX6.out]
      congr 2
    ·have hltz : ¬ (kk : Int) < (m : Int) := by omega
     have HKS := Aside0.mk (show manyP keyP m r5 = .ok (ks, rj) by rw [HU.out.2.2, show m - kk = 0 by omega]; exact withPre_done)
     have HS9 := Aside0.mk HU.out.1
     have HKL := Aside0.mk (show ks.length ≤ 64 by have := HU.out.2.1; omega)
     have c0 : wr.cell? ⟨p, 0, none⟩ = some (.pointer (some ⟨br, 0, none⟩)) := by rw [cell_of_heap HS9.out.rb]; rfl
     clear hlt hkk
     go_wp2_with fail
     refine (octets110 base br 1024 rj wr HS9.out.rd).mono ?_
     rintro e v2 ⟨hs, hb, hk⟩
     rcases hs with ⟨c, hc, hx, rfl⟩ | ⟨t, r7, A, ca, hx, rfl, ho, hrd⟩
     ·have HBB := Aside0.mk (And.intro (HS9.out.b.trans hb) (HS9.out.kt.trans hk))
      have HE := Aside0.mk (said_err (show rawP r = .error c by simp [rawP, HX1.out, HX2.out, HX3.out, HDS.out, HX5.out, HKS.out, hx]))
      have HC := Aside0.mk hc
      clear hb hk hx c0 hc
      go_wp2_with fail
      refine (must_stop c HC.out _).mono ?_
      rintro e w3 ⟨rfl, rfl⟩
      unfold thrown
      go_wp2
      exact ⟨rfl, .inl ⟨c, HC.out, HE.out, rfl⟩, HBB.out.1, HBB.out.2⟩
     have HRAW := Aside0.mk (show rawP r = .ok (⟨vn, cn, ds, ks, t⟩, r7) by simp [rawP, HX1.out, HX2.out, HX3.out, HDS.out, HX5.out, HKS.out, hx])
     have hs10 := HS9.out.step hb hk hrd
     have HCV := Aside0.mk (conv_back (c := ca) ho.src)
     have HS11 := Aside0.mk (hs10.set 4 (.string (str t)) (B' := ⟨vn, cn, ds, ks, t⟩) rfl hs10.d hs10.k)
     have f0 := hs10.frz 4
     have k4 : v2.cell? ⟨q, 4, none⟩ = some (.string ⟨#[]⟩) := hs10.cells.2.2.2.2
     obtain ⟨tl, htl⟩ : ∃ tl, tl = t.length := ⟨_, rfl⟩
     rw [← htl] at HCV ⊢
     clear hb hk hrd hx ho hs10 c0 htl
     go_wp2_with fail
     refine (must_go _).mono ?_
     rintro e w3 ⟨rfl, rfl⟩
     have hcv := HCV.out
     go_upto_region 18 with fail
     clear hcv f0 k4 HCV
     obtain ⟨V3, hV3⟩ : ∃ V3, V3 = w3.setCell ⟨q, 4, none⟩ (.string (str t)) := ⟨_, rfl⟩
     rw [← hV3] at HS11 ⊢
     clear hV3
     have c0 : V3.cell? ⟨p, 0, none⟩ = some (.pointer (some ⟨br, 0, none⟩)) := by rw [cell_of_heap HS11.out.rb]; rfl
     have LB := Aside0.mk (fun (W : World) (hb : Below V3.heap.size V3 W) => run_loadAtK Tryz.prog W 43 5 Tryz.isAgg43 Tryz.sizeOf43 q 0 (bookCells ⟨vn, cn, ds, ks, t⟩ A1 c1 A2 c2) rfl (cells_of_heap (HS11.out.later hb).bx))
     have HCK := Aside0.mk (fun (W : World) (hb : Below V3.heap.size V3 W) => check_any ⟨vn, cn, ds, ks, t⟩ A1 c1 A2 c2 W (HS11.out.later hb).d.src (HS11.out.later hb).k.src (by have := HDL.out; show ds.length ≤ _; omega) (by have := HKL.out; show ks.length ≤ _; omega) (bare_own (HS11.out.later hb).d) (HX.out W (HS11.out.later hb).b))
     have hlf := Aside0.mk (left112 base br r7 V3 HS11.out.rd)
     obtain ⟨rl, hrl⟩ : ∃ rl, rl = r7.length := ⟨_, rfl⟩
     rw [← hrl] at hlf
     have HRL := Aside0.mk hrl
     clear hrl
     obtain ⟨BB, hBB⟩ : ∃ BB, BB = (bookCells ⟨vn, cn, ds, ks, t⟩ A1 c1 A2 c2).toArray := ⟨_, rfl⟩
     rw [← hBB] at LB HCK
     have HBB2 := Aside0.mk hBB
     clear hBB
     by_cases h0 : 0 < rl
     ·have h0z : (0 : Int) < (rl : Int) := by omega
      have HE := Aside0.mk (show bookSaid r (.error 4) by unfold bookSaid; rw [HRAW.out]; exact .inr ⟨fun e => by have h1 := HRL.out; rw [e.1] at h1; simp at h1; omega, rfl⟩)
      clear h0
      go_wp2_with (go_at_call 112; refine hlf.out.mono ?_; rintro e v5 ⟨rfl, hb5⟩)
      have HB5 := Aside0.mk (HS11.out.later hb5)
      clear hb5
      go_wp2_with fail
      refine (must_stop 4 (by decide) _).mono ?_
      rintro e w9 ⟨rfl, rfl⟩
      unfold thrown
      go_wp2
      exact ⟨rfl, .inl ⟨4, by decide, HE.out, rfl⟩, HB5.out.b, HB5.out.kt⟩
     have hlf : Aside0 (Calls Tryz.prog 112 #[.pointer (some ⟨br, 0, none⟩)] V3 fun e w' => e = .returned (.int .i64 0) ∧ Below V3.heap.size V3 w') := ⟨by have := hlf.out; rw [show rl = 0 by omega] at this; exact this⟩
     have HR0 := Aside0.mk (show r7 = [] by have := HRL.out; exact List.eq_nil_of_length_eq_zero (by omega))
     clear h0
     go_wp2_with (first | (go_at_call 112; refine hlf.out.mono ?_; rintro e v5 ⟨rfl, hb5⟩) | ((with_reducible refine at_load 43 (.tmp 2) ?_); refine wpList_loadW (by rfl) 43 (.tmp 2) rfl _ rfl _ (LB.out _ hb5) ?_))
     have HB5 := Aside0.mk (HS11.out.later hb5)
     have hck := HCK.out _ hb5
     clear hb5
     refine hck.mono ?_
     rintro e v6 ⟨hce, hb6⟩
     clear hck
     have HS12 := Aside0.mk (HB5.out.later hb6)
     clear hb6
     rcases hce with ⟨rfl, hok⟩ | ⟨rfl, hno⟩
     case inr =>
      have HE := Aside0.mk (show bookSaid r (.error 4) by unfold bookSaid; rw [HRAW.out]; exact .inr ⟨fun e => hno ((may_ok _).2 e.2), rfl⟩)
      clear hno
      go_wp2_with fail
      refine (must_stop 4 (by decide) _).mono ?_
      rintro e w9 ⟨rfl, rfl⟩
      unfold thrown
      go_wp2
      exact ⟨rfl, .inl ⟨4, by decide, HE.out, rfl⟩, HS12.out.b, HS12.out.kt⟩
     case inl =>
      have HE := Aside0.mk (show bookSaid r (.ok ⟨vn, cn, ds, ks, t⟩) by unfold bookSaid; rw [HRAW.out]; exact .inl ⟨HR0.out, (may_ok _).1 hok, rfl⟩)
      clear hok
      have LB2 := Aside0.mk (run_loadAtK Tryz.prog v6 43 5 Tryz.isAgg43 Tryz.sizeOf43 q 0 (bookCells ⟨vn, cn, ds, ks, t⟩ A1 c1 A2 c2) rfl (cells_of_heap HS12.out.bx))
      have st := Aside0.mk (store_full v6 43 5 q Tryz.sizeOf43 _ (bookCells ⟨vn, cn, ds, ks, t⟩ A1 c1 A2 c2) HS12.out.bx rfl rfl (book_one _ A1 A2 c1 c2))
      have hq3 := setRow_heap v6 q _ (bookCells ⟨vn, cn, ds, ks, t⟩ A1 c1 A2 c2).toArray 43 (0, 0) HS12.out.bx
      have k1 := KeptT.setRow HS12.out.bx (by decide : (43 : Nat) ∈ [43]) (bookCells ⟨vn, cn, ds, ks, t⟩ A1 c1 A2 c2).toArray
      have HF := Aside0.mk (show OwnD (v6.setRow q (bookCells ⟨vn, cn, ds, ks, t⟩ A1 c1 A2 c2).toArray) w.heap.size A1 c1 ds ∧ OwnK (v6.setRow q (bookCells ⟨vn, cn, ds, ks, t⟩ A1 c1 A2 c2).toArray) w.heap.size A2 c2 ks ∧ Below base w (v6.setRow q (bookCells ⟨vn, cn, ds, ks, t⟩ A1 c1 A2 c2).toArray) ∧ KeptT [144] w (v6.setRow q (bookCells ⟨vn, cn, ds, ks, t⟩ A1 c1 A2 c2).toArray) from
       ⟨own_keptT HS12.out.d k1 (by decide), own_keptT HS12.out.k k1 (by decide), below_setRow HS12.out.b (Nat.le_trans HS12.out.ba HS12.out.lo) _, HS12.out.kt.newRow HS12.out.lo HS12.out.b.size _⟩)
      have HQ3 := Aside0.mk hq3
      rw [← HBB2.out] at LB2 st HQ3 HF
      clear hq3 k1
      go_wp2_with (first | ((with_reducible refine at_load 43 (.tmp 2) ?_); refine wpList_loadK rfl 43 (.tmp 2) rfl _ rfl _ LB2.out ?_) | ((with_reducible refine at_store 43 (.tmp 2) (.tmp 69) ?_); refine wpList_storeK rfl 43 (.tmp 2) (.tmp 69) rfl rfl _ _ rfl rfl _ st.out ?_))
      try simp only [Exit.inBlock, Exit.then]
      refine bodyPost_ret (results_cell_row rfl _ _ q 43 _ (0, 0) _ rfl HQ3.out Tryz.underlying43 rfl (by rw [HBB2.out]; kernel_rfl)) rfl ?_
      exact ⟨.inr ⟨⟨vn, cn, ds, ks, t⟩, A1, c1, A2, c2, HE.out, by rw [HBB2.out], HF.out.1, HF.out.2.1⟩, HF.out.2.2.1, HF.out.2.2.2⟩
end Go.Proofs.YthnpiimiimiijaaGreatDoor.Dir
end
section
namespace Go.Proofs.YthnpiimiimiijaaGreatDoor.Dir
open Go Go.RowKit Go.Proofs Go.Proofs.YthnpiimiimiijaaGreatDoorW.PrintWords Go.Proofs.YthnpiimiimiijaaGreatDoorW.PrintLast Go.Proofs.YthnpiimiimiijaaGreatDoorW.PrintMore
set_option linter.unusedVariables false
set_option linter.unusedSimpArgs false
set_option maxHeartbeats 1000000 in
theorem lit70_idle (p q : Addr) (w : World) :
  CallsD Tryz.prog 70 #[.pointer (some p), .pointer (some q)] .returning w fun e u' w' => e = .returned (.tuple #[]) ∧ u' = .returning ∧ w' = w := by
 refine callsD_of_wpS Tryz.func70 rfl fun c₀ cs hu => ?_
 apply wpS_seq
 apply wpS_region
 simp [wpOpsS, go_sem, recoverD, hu, Tryz.ntmps70, Exit.thenS]
 refine wpS_of_wp ?_
 go_wp2
 cases c₀
 simp_all [bodyPostS, results, Tryz.results70]
set_option maxRecDepth 100000 in
set_option maxHeartbeats 1000000 in
theorem lit70_panic (b q : Nat) (x0 x1 x2 x3 x4 y : Value) (c : Int) (B : Nat) (w : World) (hBb : B ≤ b) (hBq : B ≤ q) (hpq : b ≠ q)
  (hc : w.heap[b]? = some (.cells #[x0, x1, x2, x3, x4] 43 (0, 0))) (hq : w.heap[q]? = some (.cells #[y] 28 (0, 0))) :
  CallsD Tryz.prog 70 #[.pointer (some ⟨b, 0, none⟩), .pointer (some ⟨q, 0, none⟩)] (.panicking [{ v := .iface 110 (.int .i64 c), recovered := false }]) w fun e u' w' =>
   e = .returned (.tuple #[]) ∧ u' = .panicking [{ v := .iface 110 (.int .i64 c), recovered := true }] ∧ Below B w w' ∧
   w'.heap[b]? = some (.cells #[.int .i64 0, .int .i64 0, .slice none 0 0, .slice none 0 0, .string ⟨#[]⟩] 43 (0, 0)) ∧ w'.heap[q]? = some (.cells #[.int .i64 c] 28 (0, 0)) := by
 have hta : ∀ (v : Value) (W : World), (Instr.typeAssert (.iface 110 v) 20 110 true).run Tryz.prog W = .ok (.tuple #[v, .bool true]) W := fun v W => by rfl
 refine callsD_of_wpS Tryz.func70 rfl fun c₀ cs hu => ?_
 apply wpS_seq
 apply wpS_region
 simp [wpOpsS, go_sem, recoverD, hu, Tryz.ntmps70, Exit.thenS]
 refine wpS_of_wp ?_
 clear hu
 have hbl : b < w.heap.size := (Array.getElem?_eq_some_iff.1 hc).1
 have hql : q < w.heap.size := (Array.getElem?_eq_some_iff.1 hq).1
 have c0 : w.cell? ⟨b, 0, none⟩ = some x0 := by simp [World.cell?, hc]
 have c1 : w.cell? ⟨b, 1, none⟩ = some x1 := by simp [World.cell?, hc]
 have c2 : w.cell? ⟨b, 2, none⟩ = some x2 := by simp [World.cell?, hc]
 have c3 : w.cell? ⟨b, 3, none⟩ = some x3 := by simp [World.cell?, hc]
 have c4 : w.cell? ⟨b, 4, none⟩ = some x4 := by simp [World.cell?, hc]
 have d0 : w.cell? ⟨q, 0, none⟩ = some y := by simp [World.cell?, hq]
 have f0 : ∀ j, w.frozen? ⟨b, j, none⟩ = false := fun j => by simp [World.frozen?, hc]
 have e0 : w.frozen? ⟨q, 0, none⟩ = false := by simp [World.frozen?, hq]
 have HC := Lib.hid hc; have HQ := Lib.hid hq
 have hqb : ¬ q = b := fun e => hpq e.symm
 clear hc hq
 go_wp2_with fail
 refine ⟨rfl, _, rfl, .tuple #[], results_none rfl _ _ _, rfl, rfl, ?_, ?_, ?_⟩
 ·exact (((((((Below.refl B w).setCell (p := ⟨b, 0, none⟩) hBb _).setCell (p := ⟨b, 1, none⟩) hBb _).setCell (p := ⟨b, 2, none⟩) hBb _).setCell (p := ⟨b, 3, none⟩) hBb _).setCell (p := ⟨b, 4, none⟩) hBb _).setCell (p := ⟨q, 0, none⟩) hBq _)
 ·refine (Below.heap_setCell _ _ _ _ hpq).trans ?_
  exact Acl.heap_set5 HC.out _ _ _ _ _
 ·simp [World.setCell, Array.getElem?_modify, HQ.out, hpq]
def ParseEnd (w w' : World) (l : List UInt8) (e : Ending) : Prop :=
 (∃ c, c ≠ 0 ∧ bookSaid l (.error c) ∧ e = .returned (.tuple #[.agg (bookCells book0 none 0 none 0).toArray, .int .i64 c])) ∨
 (∃ B A1 c1 A2 c2, bookSaid l (.ok B) ∧ e = .returned (.tuple #[.agg (bookCells B A1 c1 A2 c2).toArray, .int .i64 0]) ∧ OwnD w' w.heap.size A1 c1 B.devs ∧ OwnK w' w.heap.size A2 c2 B.spent)
set_option maxHeartbeats 4000000 in
set_option maxRecDepth 100000 in
theorem parse35 (l : List UInt8) (n : Nat) (hn : n = l.length) (A : Option Addr) (c : Nat) (w : World) (h : SrcAt w A l.length 1 (l.map byteV)) (hl : l.length ≤ 140737488355328) (hx : PA.LaidW w) :
  Calls Tryz.prog 35 #[.slice A n c] w fun e w' => ParseEnd w w' l e ∧ Below w.heap.size w w' := by
 have hmf : ∀ (fn : Fn) (first cap : Array Value) (w : World), (Instr.makeFunc fn first cap).run Tryz.prog w = .ok (.func fn first cap) w := fun _ _ _ _ => rfl
 obtain ⟨p, hp⟩ : ∃ p, p = w.heap.size := ⟨_, rfl⟩
 obtain ⟨W1, hW1⟩ : ∃ W1, W1 = (w.alloc (.cells #[.int .i64 0, .int .i64 0, .slice none 0 0, .slice none 0 0, .string ⟨#[]⟩] 43)).alloc (.cells #[.int .i64 0] 28) := ⟨_, rfl⟩
 have hb1 : Below w.heap.size w W1 := by rw [hW1]; exact ((Below.refl _ w).alloc (Nat.le_refl _) _).alloc (by simp) _
 have q0 : W1.heap[p]? = some (.cells (bookCells book0 none 0 none 0).toArray 43 (0, 0)) := by rw [hW1, hp, Below.heap_alloc _ _ _ (by simp)]; exact heap_alloc_new w _
 have q1 : W1.heap[p + 1]? = some (.cells #[.int .i64 0] 28 (0, 0)) := by rw [hW1, hp]; have := heap_alloc_new (w.alloc (.cells #[.int .i64 0, .int .i64 0, .slice none 0 0, .slice none 0 0, .string ⟨#[]⟩] 43)) (.cells #[.int .i64 0] 28); rw [World.size_alloc] at this; exact this
 have hsz : (w.alloc (.cells #[.int .i64 0, .int .i64 0, .slice none 0 0, .slice none 0 0, .string ⟨#[]⟩] 43)).heap.size = p + 1 := by rw [hp]; simp
 have hs2 : W1.heap.size = p + 2 := by rw [hW1, hp]; simp
 have HN := Aside0.mk (new71 l n hn A c W1 (h.grown hb1) hl)
 have HQ := Aside0.mk (And.intro q0 q1)
 have HB1 := Aside0.mk hb1
 have HX := Aside0.mk hx
 have HS2 := Aside0.mk (And.intro hs2 hp)
 clear hn h hl hb1 q0 q1 hs2 hx
 go_enter_defers Tryz.func35, Tryz.ntmps35
 go_upto_region 1 with fail
 change Code.wp _ _ _ _ ((w.alloc (.cells #[.int .i64 0, .int .i64 0, .slice none 0 0, .slice none 0 0, .string ⟨#[]⟩] 43)).alloc (.cells #[.int .i64 0] 28))
 rw [← hW1]
 try rw [hsz]
 rw [← hp]
 clear hW1 hsz hp
 go_wp2_with fail
 refine HN.out.mono ?_
 rintro e w2 ⟨br, rfl, hrd, hb2⟩
 have HB2 := Aside0.mk (below_step HB1.out hb2)
 have HQ2 := Aside0.mk (And.intro (room_at HQ.out.1 hb2) (room_at HQ.out.2 hb2))
 have HBK : Aside0 (Calls Tryz.prog 72 #[.agg #[.pointer (some ⟨br, 0, none⟩)]] w2 fun e w' => BookEnd w2 w' W1.heap.size br l e) := ⟨book72 W1.heap.size br l w2 w hrd HX.out HB1.out.size HB2.out⟩
 clear hrd hb2
 go_wp2_with fail
 refine HBK.out.mono ?_
 rintro e w3 ⟨hs, hb, -⟩
 have hlt : p < W1.heap.size ∧ p + 1 < W1.heap.size := by have := HS2.out.1; omega
 have HQ3 := Aside0.mk (show w3.heap[p]? = some (.cells (bookCells book0 none 0 none 0).toArray 43 (0, 0)) ∧ w3.heap[p + 1]? = some (.cells #[.int .i64 0] 28 (0, 0)) from ⟨(hb.block _ hlt.1).trans HQ2.out.1, (hb.block _ hlt.2).trans HQ2.out.2⟩)
 have HB3 := Aside0.mk (show Below w.heap.size w w3 from HB2.out.trans (hb.mono HB1.out.size))
 clear hb hlt
 rcases hs with ⟨cd, hc, hx, rfl⟩ | ⟨B, A1, c1, A2, c2, hx, rfl, hd, hk⟩
 ·have HX3 := Aside0.mk (And.intro hc hx)
  clear hc hx
  unfold thrown
  go_wp2
  refine leaves_cons (f := 70) (args := #[.pointer (some ⟨p, 0, none⟩), .pointer (some ⟨p + 1, 0, none⟩)]) (by simp) (by simp [go_sem]) ?_
  refine (lit70_panic p (p + 1) _ _ _ _ _ _ cd w.heap.size w3 (by have := HS2.out.2; omega) (by have := HS2.out.2; omega) (by omega) HQ3.out.1 HQ3.out.2).mono ?_
  rintro e u' w4 ⟨rfl, rfl, hb4, g1, g2⟩
  have k0 := Acl.cell_in g1 0
  have k1 := Acl.cell_in g1 1
  have k2 := Acl.cell_in g1 2
  have k3 := Acl.cell_in g1 3
  have k4 := Acl.cell_in g1 4
  have k5 := Acl.cell_in g2 0
  simp at k0 k1 k2 k3 k4 k5
  simp [Leaves, settle, results, Tryz.results35, go_sem, k0, k1, k2, k3, k4, k5]
  exact ⟨.inl ⟨cd, HX3.out.1, HX3.out.2, rfl⟩, HB3.out.trans hb4⟩
 ·have st := Aside0.mk (store_full w3 43 5 p Tryz.sizeOf43 _ (bookCells B A1 c1 A2 c2) HQ3.out.1 rfl rfl (book_one B A1 A2 c1 c2))
  have g1 := setRow_heap w3 p _ (bookCells B A1 c1 A2 c2).toArray 43 (0, 0) HQ3.out.1
  have hne : (w3.setRow p (bookCells B A1 c1 A2 c2).toArray).heap[p + 1]? = some (.cells #[.int .i64 0] 28 (0, 0)) := ((grownBy_setRow w3 p _).block (p + 1) (Array.getElem?_eq_some_iff.1 HQ3.out.2).1 (by simp)).trans HQ3.out.2
  have k1 := KeptT.setRow HQ3.out.1 (by decide : (43 : Nat) ∈ [43]) (bookCells B A1 c1 A2 c2).toArray
  obtain ⟨W4, hW4⟩ : ∃ W4, W4 = w3.setRow p (bookCells B A1 c1 A2 c2).toArray := ⟨_, rfl⟩
  have HW4 := Aside0.mk (show OwnD W4 w2.heap.size A1 c1 B.devs ∧ OwnK W4 w2.heap.size A2 c2 B.spent ∧ Below w.heap.size w W4 by
   rw [hW4]
   exact ⟨own_keptT hd k1 (by decide), own_keptT hk k1 (by decide), below_setRow HB3.out (by have := HS2.out.2; omega) _⟩)
  rw [← hW4] at st g1 hne
  have HG := Aside0.mk (And.intro g1 hne)
  have HX3 := Aside0.mk hx
  have c5 : W4.cell? ⟨p + 1, 0, none⟩ = some (.int .i64 0) := by rw [cell_of_heap hne]; rfl
  have f5 : W4.frozen? ⟨p + 1, 0, none⟩ = false := frozen_of_heap hne
  have HW2 := Aside0.mk (show w.heap.size ≤ w2.heap.size from HB2.out.size)
  obtain ⟨BA, hBA⟩ : ∃ BA, BA = (bookCells B A1 c1 A2 c2).toArray := ⟨_, rfl⟩
  rw [← hBA] at st ⊢
  have HBA := Aside0.mk hBA
  clear hd hk hx g1 hne k1 hW4 hBA
  go_wp2_with ((with_reducible refine at_store 43 (.tmp 2) (.tmp 8) ?_); refine wpList_storeK rfl 43 (.tmp 2) (.tmp 8) rfl rfl _ _ rfl rfl _ st.out ?_)
  refine leaves_cons (f := 70) (args := #[.pointer (some ⟨p, 0, none⟩), .pointer (some ⟨p + 1, 0, none⟩)]) (by simp) (by simp [go_sem]) ?_
  refine (lit70_idle _ _ _).mono ?_
  rintro e u' w5 ⟨rfl, rfl, rfl⟩
  have e1 : (W4.setCell ⟨p + 1, 0, none⟩ (.int .i64 0)).heap[p]? = some (.cells (bookCells B A1 c1 A2 c2).toArray 43 (0, 0)) := (Below.heap_setCell _ _ _ _ (by simp)).trans HG.out.1
  have e2 : (W4.setCell ⟨p + 1, 0, none⟩ (.int .i64 0)).heap[p + 1]? = some (.cells #[.int .i64 0] 28 (0, 0)) := by rw [heap_setCell_same W4 (p + 1) 0 _ _ _ HG.out.2]; rfl
  have k0 := Acl.cell_in e1 0
  have k1 := Acl.cell_in e1 1
  have k2 := Acl.cell_in e1 2
  have k3 := Acl.cell_in e1 3
  have k4 := Acl.cell_in e1 4
  have k5 := Acl.cell_in e2 0
  have hkt := KeptT.setCell (j := 0) HG.out.2 (by decide : (28 : Nat) ∈ [28]) (.int .i64 0)
  simp [bookCells] at k0 k1 k2 k3 k4 k5
  simp [Leaves, settle, results, Tryz.results35, go_sem, k0, k1, k2, k3, k4, k5]
  refine ⟨.inr ⟨B, A1, c1, A2, c2, HX3.out, rfl, ?_, ?_⟩, HW4.out.2.2.setCell (by have := HS2.out.2; simp; omega) _⟩
  ·exact own_keptT (own_weaken HW4.out.1 HW2.out) hkt (by decide)
  ·exact own_keptT (own_weaken HW4.out.2.1 HW2.out) hkt (by decide)
end Go.Proofs.YthnpiimiimiijaaGreatDoor.Dir
end
section
namespace Go.Proofs.YthnpiimiimiijaaGreatDoor.Dir
open Go Go.RowKit Go.Proofs Go.Proofs.YthnpiimiimiijaaGreatDoorW.PrintWords Go.Proofs.YthnpiimiimiijaaGreatDoorW.PrintLast Go.Proofs.YthnpiimiimiijaaGreatDoorW.PrintMore
set_option linter.unusedVariables false
set_option linter.unusedSimpArgs false
def RR (w : World) (base br : Nat) (r : List UInt8) : Prop := ∃ A c xs pos, w.heap[br]? = some (.cells #[.slice A xs.length c, .int .i64 (pos : Nat)] 162 (0, 0)) ∧ OwnB w base A c xs ∧ pos ≤ xs.length ∧ r = xs.drop pos ∧ xs.length ≤ 140737488355328 ∧ base ≤ br
theorem RR.kept {w w' : World} {base br : Nat} {r : List UInt8} {ts : List TypeId} (h : RR w base br r) (hk : KeptT ts w w') (h1 : 162 ∉ ts) (h3 : 5 ∉ ts) : RR w' base br r := by
 obtain ⟨A, c, xs, pos, ha, ho, hr⟩ := h
 exact ⟨A, c, xs, pos, hk _ _ _ _ ha h1, own_keptT ho hk h3, hr⟩
theorem RR.below {w w' : World} {base br : Nat} {r : List UInt8} (h : RR w base br r) (hb : Below w.heap.size w w') : RR w' base br r := h.kept (ts := []) (KeptT.below hb) (by simp) (by simp)
theorem RR.base_le {w : World} {base br : Nat} {r : List UInt8} (h : RR w base br r) : base ≤ w.heap.size := by
 obtain ⟨A, c, xs, pos, ha, -, -, -, -, h6⟩ := h
 exact Nat.le_trans h6 (Nat.le_of_lt (Array.getElem?_eq_some_iff.1 ha).1)
end Go.Proofs.YthnpiimiimiijaaGreatDoor.Dir
end
section
namespace Go.Proofs.YthnpiimiimiijaaGreatDoor.Dir
open Go Go.RowKit Go.Proofs Go.Proofs.YthnpiimiimiijaaGreatDoorW.PrintWords Go.Proofs.YthnpiimiimiijaaGreatDoorW.PrintLast Go.Proofs.YthnpiimiimiijaaGreatDoorW.PrintMore
set_option linter.unusedVariables false
set_option linter.unusedSimpArgs false
end Go.Proofs.YthnpiimiimiijaaGreatDoor.Dir
end
section
namespace Go.Proofs.YthnpiimiimiijaaGreatDoor.Dir
open Go Go.RowKit Go.Proofs Go.Proofs.YthnpiimiimiijaaGreatDoorW.PrintWords Go.Proofs.YthnpiimiimiijaaGreatDoorW.PrintLast Go.Proofs.YthnpiimiimiijaaGreatDoorW.PrintMore
set_option linter.unusedVariables false
set_option linter.unusedSimpArgs false
end Go.Proofs.YthnpiimiimiijaaGreatDoor.Dir
end
section
namespace Go.Proofs.YthnpiimiimiijaaGreatDoor.Dir
open Go Go.RowKit Go.Proofs Go.Proofs.YthnpiimiimiijaaGreatDoorW.PrintWords Go.Proofs.YthnpiimiimiijaaGreatDoorW.PrintLast Go.Proofs.YthnpiimiimiijaaGreatDoorW.PrintMore
set_option linter.unusedVariables false
set_option linter.unusedSimpArgs false
abbrev St2 := Int × List UInt8
def RSt (w : World) (base xr : Nat) (st : St2) : Prop := ∃ br, w.heap[xr]? = some (.cells #[.pointer (some ⟨br, 0, none⟩), .int .i64 st.1] 119 (0, 0)) ∧ RR w base br st.2 ∧ base ≤ xr
theorem RSt.kept {w w' : World} {base xr : Nat} {st : St2} {ts : List TypeId} (h : RSt w base xr st) (hk : KeptT ts w w') (h1 : 119 ∉ ts) (h2 : 162 ∉ ts) (h3 : 5 ∉ ts) : RSt w' base xr st := by
 obtain ⟨br, ha, hr, hb⟩ := h
 exact ⟨br, hk _ _ _ _ ha h1, hr.kept hk h2 h3, hb⟩
theorem RSt.below {w w' : World} {base xr : Nat} {st : St2} (h : RSt w base xr st) (hb : Below w.heap.size w w') : RSt w' base xr st := h.kept (ts := []) (KeptT.below hb) (by simp) (by simp) (by simp)
theorem RSt.base_le {w : World} {base xr : Nat} {st : St2} (h : RSt w base xr st) : base ≤ w.heap.size := by
 obtain ⟨br, ha, hr, hb⟩ := h
 exact hr.base_le
theorem RSt.cell {w : World} {base xr : Nat} {st : St2} (h : RSt w base xr st) : w.cell? ⟨xr, 1, none⟩ = some (.int .i64 st.1) ∧ w.frozen? ⟨xr, 1, none⟩ = false := by
 obtain ⟨br, ha, hr, hb⟩ := h
 exact ⟨by rw [cell_of_heap ha]; rfl, frozen_of_heap ha⟩
theorem RSt.set {w : World} {base xr : Nat} {e : Int} {r : List UInt8} (h : RSt w base xr (e, r)) (v : Int) : RSt (w.setCell ⟨xr, 1, none⟩ (.int .i64 v)) base xr (v, r) ∧ Below base w (w.setCell ⟨xr, 1, none⟩ (.int .i64 v)) ∧ KeptT [119, 162] w (w.setCell ⟨xr, 1, none⟩ (.int .i64 v)) := by
 obtain ⟨br, ha, hr, hb⟩ := h
 have k1 := KeptT.setCell (j := 1) ha (by decide : (119 : Nat) ∈ [119]) (.int .i64 v)
 refine ⟨⟨br, ?_, hr.kept k1 (by decide) (by decide), hb⟩, (Below.refl _ _).setCell hb _, KeptT.setCell ha (by decide) _⟩
 rw [heap_setCell_same w xr 1 _ _ _ ha]
 rfl
theorem KeptT.more {ts us : List TypeId} {w w' : World} (h : KeptT ts w w') (hs : ∀ t, t ∈ ts → t ∈ us) : KeptT us w w' := fun g cs T fr hg ht => h g cs T fr hg (fun e => ht (hs _ e))
end Go.Proofs.YthnpiimiimiijaaGreatDoor.Dir
end
section
namespace Go.Proofs.YthnpiimiimiijaaGreatDoor.Dir
open Go Go.RowKit Go.Proofs Go.Proofs.YthnpiimiimiijaaGreatDoorW.PrintWords Go.Proofs.YthnpiimiimiijaaGreatDoorW.PrintLast Go.Proofs.YthnpiimiimiijaaGreatDoorW.PrintMore
set_option linter.unusedVariables false
set_option linter.unusedSimpArgs false
end Go.Proofs.YthnpiimiimiijaaGreatDoor.Dir
end
