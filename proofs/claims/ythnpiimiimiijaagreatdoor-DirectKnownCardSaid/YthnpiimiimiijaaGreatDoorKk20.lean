/- The program's reader: Octets, and its deferred literal. The directory's reader: must, get, most, key. The book of bytes: plain; a book on its way. -/
import Derived.Test.YthnpiimiimiijaaGreatDoorKk19
section
namespace Go.Proofs.YthnpiimiimiijaaGreatDoor.Dir
open Go Go.RowKit Go.Proofs Go.Proofs.YthnpiimiimiijaaGreatDoorW.PrintWords Go.Proofs.YthnpiimiimiijaaGreatDoorW.PrintLast Go.Proofs.YthnpiimiimiijaaGreatDoorW.PrintMore
set_option linter.unusedVariables false
set_option linter.unusedSimpArgs false
theorem lit144_ok (q u p : Addr) (w : World) (hq : w.cell? q = some (.int .i64 0)) :
  CallsD Tryz.prog 144 #[.pointer (some q), .pointer (some u), .pointer (some p)] .returning w fun e u' w' => u' = .returning ∧ e = .returned (.tuple #[]) ∧ w' = w := by
 go_enter_d Tryz.func144, Tryz.ntmps144
 go_wp2
 go_end0
 exact ⟨rfl, rfl⟩
set_option maxHeartbeats 2000000 in
theorem lit144_bad (q u p br bs n c pos pos2 : Nat) (A : Option Addr) (cd : Int) (hcd : cd ≠ 0) (w : World) (hq : w.cell? ⟨q, 0, none⟩ = some (.int .i64 cd)) (hu : w.cell? ⟨u, 0, none⟩ = some (.int .i64 pos2)) (hp : w.cell? ⟨p, 0, none⟩ = some (.pointer (some ⟨br, 0, none⟩))) (h : RdAt w br bs A n c pos) :
  CallsD Tryz.prog 144 #[.pointer (some ⟨q, 0, none⟩), .pointer (some ⟨u, 0, none⟩), .pointer (some ⟨p, 0, none⟩)] .returning w fun e u' w' => u' = .returning ∧ e = .returned (.tuple #[]) ∧ w' = (w.setCell ⟨bs, 1, none⟩ (.int .i64 pos2)).drew := by
 obtain ⟨d1, d2, d3, d4⟩ := h.cells
 go_enter_d Tryz.func144, Tryz.ntmps144
 go_wp2
 go_region
 go_end0
 exact ⟨rfl, rfl⟩
def takeP (s : Nat) (l : List UInt8) : Except Int (List UInt8 × List UInt8) := if l.length < s then .error 3 else .ok (l.take s, l.drop s)
def getP (s : Nat) (l : List UInt8) : Except Int (Nat × List UInt8) :=
 match takeP s l with
 | .error c => .error c
 | .ok (a, r) => .ok (natB a, r)
def octP (m : Nat) (l : List UInt8) : Except Int (List UInt8 × List UInt8) :=
 match getP 2 l with
 | .error c => .error c
 | .ok (n, r) => if m < n then .error 5 else takeP n r
theorem takeP_no {s : Nat} {l : List UInt8} (h : l.length < s) : takeP s l = .error 3 := if_pos h
theorem takeP_yes {s : Nat} {l : List UInt8} (h : s ≤ l.length) : takeP s l = .ok (l.take s, l.drop s) := if_neg (by omega)
theorem getP_no {s : Nat} {l : List UInt8} (h : l.length < s) : getP s l = .error 3 := by unfold getP; rw [takeP_no h]
theorem getP_yes {s : Nat} {l : List UInt8} (h : s ≤ l.length) : getP s l = .ok (natB (l.take s), l.drop s) := by unfold getP; rw [takeP_yes h]
def OctEnd (w w' : World) (base br m : Nat) (r : List UInt8) (e : Ending) : Prop :=
 (∃ c, c ≠ 0 ∧ octP m r = .error c ∧ e = .returned (.tuple #[.slice none 0 0, .int .i64 c])) ∨ (∃ a r' A c, octP m r = .ok (a, r') ∧ e = .returned (.tuple #[.slice A a.length c, .int .i64 0]) ∧ OwnB w' w.heap.size A c a ∧ Rd w' base br r')
structure Oc (w W : World) (p : Nat) (br : Nat) (cd pos : Int) : Prop where
 b0 : W.heap[p]? = some (.cells #[.pointer (some ⟨br, 0, none⟩)] 111 (0, 0))
 b1 : W.heap[p + 1]? = some (.cells #[.int .i64 cd] 28 (0, 0))
 b2 : W.heap[p + 2]? = some (.cells #[.int .i64 pos] 3 (0, 0))
theorem Oc.kept {w W W' : World} {p br : Nat} {cd pos : Int} (h : Oc w W p br cd pos) (hk : KeptT [144] W W') : Oc w W' p br cd pos := ⟨hk _ _ _ _ h.b0 (by decide), hk _ _ _ _ h.b1 (by decide), hk _ _ _ _ h.b2 (by decide)⟩
theorem Oc.set {w W : World} {p br : Nat} {cd pos : Int} (h : Oc w W p br cd pos) (v : Int) : Oc w (W.setCell ⟨p + 1, 0, none⟩ (.int .i64 v)) p br v pos :=
 ⟨(Below.heap_setCell _ _ _ _ (by simp)).trans h.b0, by rw [heap_setCell_same W (p + 1) 0 _ _ _ h.b1]; rfl, (Below.heap_setCell _ _ _ _ (by simp)).trans h.b2⟩
theorem Oc.cells {w W : World} {p br : Nat} {cd pos : Int} (h : Oc w W p br cd pos) : W.cell? ⟨p, 0, none⟩ = some (.pointer (some ⟨br, 0, none⟩)) ∧ W.cell? ⟨p + 1, 0, none⟩ = some (.int .i64 cd) ∧ W.cell? ⟨p + 2, 0, none⟩ = some (.int .i64 pos) ∧ W.frozen? ⟨p + 1, 0, none⟩ = false := by
 refine ⟨?_, ?_, ?_, frozen_of_heap h.b1⟩
 ·rw [cell_of_heap h.b0]; rfl
 ·rw [cell_of_heap h.b1]; rfl
 ·rw [cell_of_heap h.b2]; rfl
theorem Rd.at {w : World} {base br : Nat} {r : List UInt8} (h : Rd w base br r) : ∃ bs A n c pos, RdAt w br bs A n c pos ∧ base ≤ bs := by
 obtain ⟨bs, A, c, xs, pos, ha, -, -, -, -, -, h7⟩ := h
 exact ⟨bs, A, _, c, pos, ha, h7⟩
theorem keptT_drew (ts : List TypeId) (w : World) : KeptT ts w w.drew := fun _ _ _ _ h _ => h
set_option maxHeartbeats 4000000 in
set_option maxRecDepth 100000 in
theorem oct_door {w W : World} {base p br bs n c pos pos2 : Nat} {A : Option Addr} {cd : Int} {tmps : Array Value} {Q : Ending → World → Prop} (h4 : tmps[4]? = some (.slice none 0 0)) (h5 : tmps[5]? = some (.pointer (some ⟨p + 1, 0, none⟩))) (hcd : cd ≠ 0)
  (hO : Oc w W p br cd pos2) (hA : RdAt W br bs A n c pos) (hbs : base ≤ bs) (hb : Below base w W) (hk : KeptT [144] w W)
  (hQ : ∀ w', Below base w w' → KeptT [144] w w' → Q (.returned (.tuple #[.slice none 0 0, .int .i64 cd])) w') :
  bodyPostD Tryz.prog Tryz.f110 Q Exit.ret { tmps := tmps, defers := [{ target := Target.fn (Fn.func 144) #[.pointer (some ⟨p + 1, 0, none⟩), .pointer (some ⟨p + 2, 0, none⟩), .pointer (some ⟨p, 0, none⟩)], args := #[] }] } W := by
 obtain ⟨c0, c1, c2, -⟩ := hO.cells
 refine leaves_cons (f := 144) (args := #[.pointer (some ⟨p + 1, 0, none⟩), .pointer (some ⟨p + 2, 0, none⟩), .pointer (some ⟨p, 0, none⟩)]) (by simp) (by simp [go_sem]) ?_
 refine (lit144_bad (p + 1) (p + 2) p br bs n c pos pos2 A cd hcd W c1 c2 c0 hA).mono ?_
 rintro e u' w2 ⟨rfl, rfl, rfl⟩
 have hb2 := (hb.setCell (p := ⟨bs, 1, none⟩) hbs (.int .i64 pos2)).drew
 have hk2 := (hk.trans (KeptT.setCell (j := 1) hA.sh (by decide) (.int .i64 (pos2 : Int)))).trans (keptT_drew [144] _)
 have c1' : ((W.setCell ⟨bs, 1, none⟩ (.int .i64 pos2)).drew).cell? ⟨p + 1, 0, none⟩ = some (.int .i64 cd) := by
  have := (KeptT.setCell (j := 1) hA.sh (by decide : (144 : Nat) ∈ [144]) (.int .i64 (pos2 : Int))) _ _ _ _ hO.b1 (by decide)
  rw [World.cell?_drew, cell_of_heap this]
  rfl
 simp [Leaves, settle, results, Tryz.results110, go_sem, h4, h5, c1']
 exact hQ _ hb2 hk2
theorem KeptT.new {ts : List TypeId} {w W : World} (h : KeptT ts w W) {b : Nat} (hb : w.heap.size ≤ b) (j : Nat) (u : Value) : KeptT ts w (W.setCell ⟨b, j, none⟩ u) := fun g cs T fr hg ht => by
 have hlt := (Array.getElem?_eq_some_iff.1 hg).1
 have hne : g ≠ b := by omega
 rw [Below.heap_setCell _ _ _ _ (fun e => by first | exact hne e | exact hne e.symm)]
 exact h g cs T fr hg ht
structure OcS (w W : World) (base p br : Nat) (cd : Int) (pos : Nat) : Prop where
 o : Oc w W p br cd pos
 r : ∃ bs A n c q, RdAt W br bs A n c q ∧ base ≤ bs
 b : Below base w W
 k : KeptT [144] w W
 lo : w.heap.size ≤ p
 ba : base ≤ w.heap.size
theorem OcS.set {w W : World} {base p br pos : Nat} {cd : Int} (h : OcS w W base p br cd pos) (v : Int) : OcS w (W.setCell ⟨p + 1, 0, none⟩ (.int .i64 v)) base p br v pos := by
 obtain ⟨bs, A, n, c, q, ha, hbs⟩ := h.r
 have hk := KeptT.setCell (j := 0) h.o.b1 (by decide : (28 : Nat) ∈ [28]) (.int .i64 v)
 exact ⟨h.o.set v, ⟨bs, A, n, c, q, ⟨hk _ _ _ _ ha.rd (by decide), hk _ _ _ _ ha.sh (by decide)⟩, hbs⟩, h.b.setCell (Nat.le_trans h.ba (Nat.le_trans h.lo (by simp))) _, h.k.new (Nat.le_trans h.lo (by simp)) 0 _, h.lo, h.ba⟩
theorem OcS.drew {w W : World} {base p br pos : Nat} {cd : Int} (h : OcS w W base p br cd pos) : OcS w W.drew base p br cd pos := by
 obtain ⟨bs, A, n, c, q, ha, hbs⟩ := h.r
 exact ⟨⟨h.o.b0, h.o.b1, h.o.b2⟩, ⟨bs, A, n, c, q, ⟨ha.rd, ha.sh⟩, hbs⟩, h.b.drew, h.k.trans (keptT_drew _ _), h.lo, h.ba⟩
theorem OcS.step {w W W' : World} {base p br pos : Nat} {cd : Int} (h : OcS w W base p br cd pos) (hb : Below base W W') (hk : KeptT [144] W W') (hr : ∃ bs A n c q, RdAt W' br bs A n c q ∧ base ≤ bs) : OcS w W' base p br cd pos :=
 ⟨h.o.kept hk, hr, h.b.trans hb, h.k.trans hk, h.lo, h.ba⟩
theorem OcS.door {w W : World} {base p br pos : Nat} {cd : Int} {tmps : Array Value} {Q : Ending → World → Prop} (h : OcS w W base p br cd pos) (h4 : tmps[4]? = some (.slice none 0 0)) (h5 : tmps[5]? = some (.pointer (some ⟨p + 1, 0, none⟩))) (hcd : cd ≠ 0)
  (hQ : ∀ w', Below base w w' → KeptT [144] w w' → Q (.returned (.tuple #[.slice none 0 0, .int .i64 cd])) w') :
  bodyPostD Tryz.prog Tryz.f110 Q Exit.ret { tmps := tmps, defers := [{ target := Target.fn (Fn.func 144) #[.pointer (some ⟨p + 1, 0, none⟩), .pointer (some ⟨p + 2, 0, none⟩), .pointer (some ⟨p, 0, none⟩)], args := #[] }] } W := by
 obtain ⟨bs, A, n, c, q, ha, hbs⟩ := h.r
 exact oct_door h4 h5 hcd h.o ha hbs h.b h.k hQ
theorem oct_yes {w W : World} {base p br pos : Nat} {tmps : Array Value} {v : Value} {Q : Ending → World → Prop} (h : OcS w W base p br 0 pos) (h4 : tmps[4]? = some v) (h5 : tmps[5]? = some (.pointer (some ⟨p + 1, 0, none⟩))) (hQ : Q (.returned (.tuple #[v, .int .i64 0])) W) :
  bodyPostD Tryz.prog Tryz.f110 Q Exit.ret { tmps := tmps, defers := [{ target := Target.fn (Fn.func 144) #[.pointer (some ⟨p + 1, 0, none⟩), .pointer (some ⟨p + 2, 0, none⟩), .pointer (some ⟨p, 0, none⟩)], args := #[] }] } W := by
 obtain ⟨c0, c1, c2, -⟩ := h.o.cells
 refine leaves_cons (f := 144) (args := #[.pointer (some ⟨p + 1, 0, none⟩), .pointer (some ⟨p + 2, 0, none⟩), .pointer (some ⟨p, 0, none⟩)]) (by simp) (by simp [go_sem]) ?_
 refine (lit144_ok _ _ _ W c1).mono ?_
 rintro e u' w2 ⟨rfl, rfl, rfl⟩
 simp [Leaves, settle, results, Tryz.results110, go_sem, h4, h5, c1]
 exact hQ
set_option maxHeartbeats 4000000 in
set_option maxRecDepth 100000 in
theorem octets110 (base br m : Nat) (r : List UInt8) (w : World) (h : Rd w base br r) :
  Calls Tryz.prog 110 #[.pointer (some ⟨br, 0, none⟩), .int .i64 m] w fun e w' => OctEnd w w' base br m r e ∧ Below base w w' ∧ KeptT [144] w w' := by
 have hmf : ∀ (fn : Fn) (first cap : Array Value) (w : World), (Instr.makeFunc fn first cap).run Tryz.prog w = .ok (.func fn first cap) w := fun _ _ _ _ => rfl
 obtain ⟨bs, A, n, c, pos, ha, hbs⟩ := h.at
 have hbase : base ≤ w.heap.size := Nat.le_trans hbs (Nat.le_of_lt (Array.getElem?_eq_some_iff.1 ha.sh).1)
 obtain ⟨p, hp⟩ : ∃ p, p = w.heap.size := ⟨_, rfl⟩
 obtain ⟨W1, hW1⟩ : ∃ W1, W1 = (w.alloc (.cells #[.pointer (some ⟨br, 0, none⟩)] 111)).alloc (.cells #[.int .i64 0] 28) := ⟨_, rfl⟩
 have hb1 : Below w.heap.size w W1 := by rw [hW1]; exact ((Below.refl _ w).alloc (Nat.le_refl _) _).alloc (by simp) _
 have q0 : W1.heap[p]? = some (.cells #[.pointer (some ⟨br, 0, none⟩)] 111 (0, 0)) := by rw [hW1, hp, Below.heap_alloc _ _ _ (by simp)]; exact heap_alloc_new w _
 have q1 : W1.heap[p + 1]? = some (.cells #[.int .i64 0] 28 (0, 0)) := by rw [hW1, hp]; have := heap_alloc_new (w.alloc (.cells #[.pointer (some ⟨br, 0, none⟩)] 111)) (.cells #[.int .i64 0] 28); simpa using this
 have hs1 : W1.heap.size = p + 2 := by rw [hW1, hp]; simp
 obtain ⟨W2, hW2⟩ : ∃ W2, W2 = W1.alloc (.cells #[.int .i64 pos] 3) := ⟨_, rfl⟩
 have hb2 : Below w.heap.size w W2 := by rw [hW2]; exact hb1.alloc hb1.size _
 have hO : Oc w W2 p br 0 pos := by
  have hbb := (Below.refl W1.heap.size W1).alloc (Nat.le_refl _) (.cells #[.int .i64 pos] 3)
  rw [hW2]
  exact ⟨room_at q0 hbb, room_at q1 hbb, by rw [← hs1]; exact heap_alloc_new W1 _⟩
 have hn := Aside0.mk (none143 br bs n c pos A W1 (ha.later hb1))
 obtain ⟨d1, d2, d3, d4⟩ := (ha.later hb1).cells
 have c0 : W1.cell? ⟨p, 0, none⟩ = some (.pointer (some ⟨br, 0, none⟩)) := by rw [cell_of_heap q0]; rfl
 have HG : Aside0 (Calls Tryz.prog 141 #[.pointer (some ⟨br, 0, none⟩), .int .i64 2] W2 fun e w' => GetEnd W2 w' base br 2 r e) := ⟨get141 base br 2 r W2 (h.below hb2) (by decide) (by decide)⟩
 have HRD := Aside0.mk h
 have HO := Aside0.mk hO
 have HB2 := Aside0.mk hb2
 have HBS := Aside0.mk (And.intro hbs hbase)
 have hsz : (w.alloc (.cells #[.pointer (some ⟨br, 0, none⟩)] 111)).heap.size = p + 1 := by rw [hp]; simp
 clear h ha hbs hbase hb1 hb2 hO q0 q1
 go_enter_defers Tryz.func110, Tryz.ntmps110
 go_upto_region 1 with fail
 rw [← hW1]
 try rw [hsz]
 rw [← hp]
 have HPP := Aside0.mk hp
 clear hW1 hsz hp
 go_upto_region 3 with (go_at_call 143; refine hn.out.mono ?_; rintro e w' ⟨rfl, rfl⟩)
 clear hn
 go_upto_region 4 with fail
 rw [← hW2]
 try rw [hs1]
 clear hW2 hs1 d1 d2 d3 d4 c0
 obtain ⟨c0, c1, c2, f1⟩ := HO.out.cells
 have HS := Aside0.mk (show OcS w W2 base p br 0 pos from ⟨HO.out, HRD.out.below HB2.out |>.at, HB2.out.mono HBS.out.2, KeptT.below HB2.out, Nat.le_of_eq HPP.out.symm, HBS.out.2⟩)
 go_wp2_with fail
 refine HG.out.mono ?_
 intro e w3 hG
 rcases hG with ⟨hlt, rfl, hb3⟩ | ⟨hle, rfl, hrd, hb3, hk3⟩
 ·have hS3 := HS.out.step (hb3.mono (Nat.le_trans HBS.out.2 HB2.out.size)) (KeptT.below hb3) ((HRD.out.below HB2.out).below hb3).at
  obtain ⟨e0, e1, e2, e3⟩ := hS3.o.cells
  have HS3 := Aside0.mk hS3
  have HLT := Aside0.mk (show octP m r = .error 3 by unfold octP; rw [getP_no hlt])
  clear hlt hb3 c0 c1 c2 f1 hS3
  go_wp2_with fail
  go_region
  go_wp2
  refine ((HS3.out.set 3).set 3).drew.door rfl rfl (by decide) fun w' g1 g2 => ⟨.inl ⟨3, by decide, HLT.out, rfl⟩, g1, g2⟩
 ·have hS3 := HS.out.step hb3 hk3 hrd.at
  obtain ⟨e0, e1, e2, e3⟩ := hS3.o.cells
  have HS3 := Aside0.mk hS3
  have HRD3 := Aside0.mk hrd
  have HW3 := Aside0.mk (show W2.heap.size ≤ w3.heap.size from hb3.size)
  have HGP := Aside0.mk (getP_yes hle)
  obtain ⟨k, hk⟩ : ∃ k, k = natB (r.take 2) := ⟨_, rfl⟩
  obtain ⟨r2, hr2⟩ : ∃ r2, r2 = r.drop 2 := ⟨_, rfl⟩
  rw [← hk, ← hr2] at HGP
  rw [← hr2] at HRD3
  rw [← hk]
  clear hle hb3 hk3 hrd c0 c1 c2 f1 hS3 hk hr2
  by_cases hm : m < k
  ·have hmz : (m : Int) < (k : Int) := by omega
   have HLT := Aside0.mk (show octP m r = .error 5 by unfold octP; rw [HGP.out]; exact if_pos hm)
   clear hm
   go_wp2_with fail
   refine ((HS3.out.set 0).set 5).door rfl rfl (by decide) fun w' g1 g2 => ⟨.inl ⟨5, by decide, HLT.out, rfl⟩, g1, g2⟩
  ·have hmz : ¬ (m : Int) < (k : Int) := by omega
   have HLT := Aside0.mk (show octP m r = takeP k r2 by unfold octP; rw [HGP.out]; exact if_neg hm)
   have hk0 := KeptT.setCell (j := 0) HS3.out.o.b1 (by decide : (28 : Nat) ∈ [28]) (.int .i64 0)
   have HT := Aside0.mk (take142 base br k r2 (w3.setCell ⟨p + 1, 0, none⟩ (.int .i64 0)) (HRD3.out.kept hk0 (by decide) (by decide) (by decide)))
   have hS4 := HS3.out.set 0
   obtain ⟨g0, g1, g2, g3⟩ := hS4.o.cells
   have HS4 := Aside0.mk hS4
   have HRD4 := Aside0.mk (HRD3.out.kept hk0 (by decide) (by decide) (by decide))
   obtain ⟨w4, hw4⟩ : ∃ w4, w4 = w3.setCell ⟨p + 1, 0, none⟩ (.int .i64 0) := ⟨_, rfl⟩
   have HW4 := Aside0.mk (show w3.heap.size = w4.heap.size by rw [hw4]; simp [World.setCell])
   clear hm hk0 hS4
   go_upto_region 6 with fail
   rw [← hw4] at HT HS4 HRD4 g0 g1 g2 g3 ⊢
   clear hw4 e0 e1 e2 e3
   go_wp2_with fail
   refine HT.out.mono ?_
   intro e w5 hT
   rcases hT with ⟨hlt, rfl, hb5⟩ | ⟨hle, A5, c5, rfl, ho5, hrd5, hb5, hk5⟩
   ·have hS5 := HS4.out.step (hb5.mono (Nat.le_trans (Nat.le_trans HBS.out.2 HB2.out.size) (by rw [← HW4.out]; exact HW3.out))) (KeptT.below hb5) (HRD4.out.below hb5).at
    obtain ⟨e0, e1, e2, e3⟩ := hS5.o.cells
    have HS5 := Aside0.mk hS5
    have HL5 := Aside0.mk (takeP_no hlt)
    clear hlt hb5 g0 g1 g2 g3 hS5
    go_wp2_with fail
    refine (HS5.out.set 3).door rfl rfl (by decide) fun w' g1 g2 => ⟨.inl ⟨3, by decide, HLT.out.trans HL5.out, rfl⟩, g1, g2⟩
   ·have hS5 := HS4.out.step hb5 hk5 hrd5.at
    obtain ⟨e0, e1, e2, e3⟩ := hS5.o.cells
    have HS5 := Aside0.mk hS5
    have HL5 := Aside0.mk (takeP_yes hle)
    have HR5 := Aside0.mk hrd5
    have HO5 := Aside0.mk (own_weaken ho5 (show w.heap.size ≤ w4.heap.size from Nat.le_trans HB2.out.size (by rw [← HW4.out]; exact HW3.out)))
    have HTL := Aside0.mk (show (r2.take k).length = k by rw [List.length_take]; omega)
    clear hle hb5 hk5 hrd5 ho5 g0 g1 g2 g3 hS5
    go_wp2_with fail
    refine oct_yes (HS5.out.set 0) rfl rfl ⟨.inr ⟨r2.take k, r2.drop k, A5, c5, HLT.out.trans HL5.out, by rw [HTL.out]; rfl, ?_, ?_⟩, (HS5.out.set 0).b, (HS5.out.set 0).k⟩
    ·exact own_setCellT HO5.out HS5.out.o.b1 (by decide) _
    ·exact HR5.out.kept (KeptT.setCell (j := 0) HS5.out.o.b1 (by decide : (28 : Nat) ∈ [28]) (.int .i64 0)) (by decide) (by decide) (by decide)
end Go.Proofs.YthnpiimiimiijaaGreatDoor.Dir
end
section
namespace Go.Proofs.YthnpiimiimiijaaGreatDoor.Dir
open Go Go.RowKit Go.Proofs Go.Proofs.YthnpiimiimiijaaGreatDoorW.PrintWords Go.Proofs.YthnpiimiimiijaaGreatDoorW.PrintLast Go.Proofs.YthnpiimiimiijaaGreatDoorW.PrintMore
set_option linter.unusedVariables false
set_option linter.unusedSimpArgs false
def thrown (c : Int) : Ending := .panicked [{ v := .iface 110 (.int .i64 c), recovered := false }]
theorem must_go (w : World) : Calls Tryz.prog 111 #[.int .i64 0] w fun e w' => e = .returned (.tuple #[]) ∧ w' = w := by
 go_enter Tryz.func111, Tryz.ntmps111
 go_wp2
 go_end0
 exact ⟨rfl, rfl⟩
set_option maxRecDepth 100000 in
theorem must_stop (c : Int) (hc : c ≠ 0) (w : World) : Calls Tryz.prog 111 #[.int .i64 c] w fun e w' => e = thrown c ∧ w' = w := by
 have hu := Tryz.underlying110
 go_enter Tryz.func111, Tryz.ntmps111
 go_wp2
 exact ⟨rfl, rfl, rfl⟩
def StepEnd {α : Type} (w w' : World) (base br : Nat) (x : Except Int (α × List UInt8)) (f : α → Value) (e : Ending) : Prop :=
 ((∃ c, c ≠ 0 ∧ x = .error c ∧ e = thrown c) ∨ (∃ a r', x = .ok (a, r') ∧ e = .returned (f a) ∧ Rd w' base br r')) ∧ Below base w w' ∧ KeptT [144] w w'
def readerV (br : Nat) : Value := .agg #[.pointer (some ⟨br, 0, none⟩)]
theorem Rd.base_le {w : World} {base br : Nat} {r : List UInt8} (h : Rd w base br r) : base ≤ w.heap.size := by
 obtain ⟨bs, A, c, xs, pos, ha, -, -, -, -, h6, h7⟩ := h
 exact Nat.le_trans h6 (Nat.le_of_lt (Array.getElem?_eq_some_iff.1 ha.rd).1)
set_option maxHeartbeats 4000000 in
set_option maxRecDepth 100000 in
theorem get107 (base br s : Nat) (r : List UInt8) (w : World) (h : Rd w base br r) (hs1 : 1 ≤ s) (hs7 : s ≤ 7) :
  Calls Tryz.prog 107 #[readerV br, .int .i64 s] w fun e w' => StepEnd w w' base br (getP s r) (fun n => .int .i64 (n : Nat)) e := by
 unfold readerV
 obtain ⟨W1, hW1⟩ : ∃ W1, W1 = w.alloc (.cells #[.pointer (some ⟨br, 0, none⟩)] 114) := ⟨_, rfl⟩
 obtain ⟨p, hp⟩ : ∃ p, p = w.heap.size := ⟨_, rfl⟩
 have hb1 : Below w.heap.size w W1 := by rw [hW1]; exact (Below.refl _ w).alloc (Nat.le_refl _) _
 have q0 : W1.heap[p]? = some (.cells #[.pointer (some ⟨br, 0, none⟩)] 114 (0, 0)) := by rw [hW1, hp]; exact heap_alloc_new w _
 have c0 : W1.cell? ⟨p, 0, none⟩ = some (.pointer (some ⟨br, 0, none⟩)) := by rw [cell_of_heap q0]; rfl
 have HG := Aside0.mk (get141 base br s r W1 (h.below hb1) hs1 hs7)
 have HB := Aside0.mk (hb1.mono h.base_le)
 have HK := Aside0.mk (KeptT.below (ts := [144]) hb1)
 have HBS := Aside0.mk (Nat.le_trans h.base_le hb1.size)
 clear h hb1 q0 hs1 hs7
 go_enter Tryz.func107, Tryz.ntmps107
 go_upto_region 1 with fail
 rw [← hW1, ← hp]
 clear hW1 hp
 go_wp2_with fail
 refine HG.out.mono ?_
 intro e w2 hG
 rcases hG with ⟨hlt, rfl, hb⟩ | ⟨hle, rfl, hrd, hb, hk⟩
 ·have HE := Aside0.mk (getP_no hlt)
  have HB2 := Aside0.mk (HB.out.trans (hb.mono HBS.out))
  have HK2 := Aside0.mk (HK.out.trans (KeptT.below (ts := [144]) hb))
  clear hlt hb c0
  go_wp2_with fail
  refine (must_stop 3 (by decide) _).mono ?_
  rintro e w3 ⟨rfl, rfl⟩
  unfold thrown
  go_wp2
  exact ⟨rfl, .inl ⟨3, by decide, HE.out, rfl⟩, HB2.out, HK2.out⟩
 ·have HE := Aside0.mk (getP_yes hle)
  have HB2 := Aside0.mk (HB.out.trans hb)
  have HK2 := Aside0.mk (HK.out.trans hk)
  have HRD := Aside0.mk hrd
  clear hle hb hk hrd c0
  go_wp2_with fail
  refine (must_go _).mono ?_
  rintro e w3 ⟨rfl, rfl⟩
  go_wp2_with fail
  go_ret
  exact ⟨.inr ⟨_, _, HE.out, rfl, HRD.out⟩, HB2.out, HK2.out⟩
def mostP (m : Nat) (l : List UInt8) : Except Int (Nat × List UInt8) :=
 match getP 1 l with
 | .error c => .error c
 | .ok (n, r) => if m < n then .error 4 else .ok (n, r)
set_option maxHeartbeats 4000000 in
set_option maxRecDepth 100000 in
theorem most108 (base br m : Nat) (r : List UInt8) (w : World) (h : Rd w base br r) :
  Calls Tryz.prog 108 #[readerV br, .int .i64 m] w fun e w' => StepEnd w w' base br (mostP m r) (fun n => .int .i64 (n : Nat)) e := by
 obtain ⟨W1, hW1⟩ : ∃ W1, W1 = w.alloc (.cells #[.pointer (some ⟨br, 0, none⟩)] 114) := ⟨_, rfl⟩
 obtain ⟨p, hp⟩ : ∃ p, p = w.heap.size := ⟨_, rfl⟩
 have hb1 : Below w.heap.size w W1 := by rw [hW1]; exact (Below.refl _ w).alloc (Nat.le_refl _) _
 have q0 : W1.heap[p]? = some (.cells #[.pointer (some ⟨br, 0, none⟩)] 114 (0, 0)) := by rw [hW1, hp]; exact heap_alloc_new w _
 have L0 := Aside0.mk (run_loadAtK Tryz.prog W1 114 1 Tryz.isAgg114 Tryz.sizeOf114 p 0 [.pointer (some ⟨br, 0, none⟩)] rfl (cells_of_heap q0))
 have HG : Aside0 (Calls Tryz.prog 107 #[.agg #[.pointer (some ⟨br, 0, none⟩)], .int .i64 1] W1 fun e w' => StepEnd W1 w' base br (getP 1 r) (fun n => .int .i64 (n : Nat)) e) := ⟨get107 base br 1 r W1 (h.below hb1) (by decide) (by decide)⟩
 have HB := Aside0.mk (hb1.mono h.base_le)
 have HK := Aside0.mk (KeptT.below (ts := [144]) hb1)
 unfold readerV
 clear h hb1 q0
 go_enter Tryz.func108, Tryz.ntmps108
 go_upto_region 1 with fail
 rw [← hW1, ← hp]
 clear hW1 hp
 go_wp2_with ((with_reducible refine at_load 114 (.tmp 2) ?_); refine wpList_loadK rfl 114 (.tmp 2) rfl _ rfl _ L0.out ?_)
 refine HG.out.mono ?_
 rintro e w2 ⟨hG, hb, hk⟩
 have HB2 := Aside0.mk (HB.out.trans hb)
 have HK2 := Aside0.mk (HK.out.trans hk)
 clear hb hk
 rcases hG with ⟨c, hc, hx, rfl⟩ | ⟨n, r', hx, rfl, hrd⟩
 ·have HE := Aside0.mk (show mostP m r = .error c by unfold mostP; rw [hx])
  clear hx
  unfold thrown
  go_wp2
  exact ⟨rfl, .inl ⟨c, hc, HE.out, rfl⟩, HB2.out, HK2.out⟩
 ·have HRD := Aside0.mk hrd
  by_cases hm : m < n
  ·have hmz : (m : Int) < (n : Int) := by omega
   have HE := Aside0.mk (show mostP m r = .error 4 by unfold mostP; rw [hx]; exact if_pos hm)
   clear hx hm hrd
   go_wp2_with fail
   refine (must_stop 4 (by decide) _).mono ?_
   rintro e w3 ⟨rfl, rfl⟩
   unfold thrown
   go_wp2
   exact ⟨rfl, .inl ⟨4, by decide, HE.out, rfl⟩, HB2.out, HK2.out⟩
  ·have hmz : ¬ (m : Int) < (n : Int) := by omega
   have HE := Aside0.mk (show mostP m r = .ok (n, r') by unfold mostP; rw [hx]; exact if_neg hm)
   clear hx hm hrd
   go_wp2_with fail
   go_ret
   exact ⟨.inr ⟨_, _, HE.out, rfl, HRD.out⟩, HB2.out, HK2.out⟩
def toKey (l : List UInt8) : Key := ⟨(l ++ List.replicate 32 0).take 32, by simp⟩
theorem toKey_eq {l : List UInt8} (h : l.length = 32) : (toKey l).1 = l := by
 show (l ++ List.replicate 32 0).take 32 = l
 rw [List.take_append_of_le_length (by omega), List.take_of_length_le (by omega)]
def keyP (l : List UInt8) : Except Int (Key × List UInt8) :=
 match takeP 32 l with
 | .error c => .error c
 | .ok (a, r) => .ok (toKey a, r)
def keyV (k : Key) : Value := .agg (encK k).toArray
theorem array34 (g c : Nat) (W : World) : (Instr.arrayAt 34 (.slice (some ⟨g, 0, none⟩) 32 c)).run Tryz.prog W = .ok (.pointer (some ⟨g, 0, none⟩)) W := by
 simp [Instr.arrayAt, run_underlying Tryz.underlying34]
set_option maxHeartbeats 4000000 in
set_option maxRecDepth 100000 in
theorem key109 (base br : Nat) (r : List UInt8) (w : World) (h : Rd w base br r) :
  Calls Tryz.prog 109 #[readerV br] w fun e w' => StepEnd w w' base br (keyP r) keyV e := by
 unfold readerV
 obtain ⟨p, hp⟩ : ∃ p, p = w.heap.size := ⟨_, rfl⟩
 obtain ⟨W1, hW1⟩ : ∃ W1, W1 = (w.alloc (.cells #[.pointer (some ⟨br, 0, none⟩)] 114)).alloc (.cells zeroKey 34) := ⟨_, rfl⟩
 have hb1 : Below w.heap.size w W1 := by rw [hW1]; exact ((Below.refl _ w).alloc (Nat.le_refl _) _).alloc (by simp) _
 have q0 : W1.heap[p]? = some (.cells #[.pointer (some ⟨br, 0, none⟩)] 114 (0, 0)) := by rw [hW1, hp, Below.heap_alloc _ _ _ (by simp)]; exact heap_alloc_new w _
 have q1 : W1.heap[p + 1]? = some (.cells (encK key0).toArray 34 (0, 0)) := by rw [hW1, hp, zeroKey_eq]; have := heap_alloc_new (w.alloc (.cells #[.pointer (some ⟨br, 0, none⟩)] 114)) (.cells zeroKey 34); simpa using this
 have hsz : (w.alloc (.cells #[.pointer (some ⟨br, 0, none⟩)] 114)).heap.size = p + 1 := by rw [hp]; simp
 have c0 : W1.cell? ⟨p, 0, none⟩ = some (.pointer (some ⟨br, 0, none⟩)) := by rw [cell_of_heap q0]; rfl
 have HG : Aside0 (Calls Tryz.prog 142 #[.pointer (some ⟨br, 0, none⟩), .int .i64 32] W1 fun e w' => TakeEnd W1 w' base br 32 r e) := ⟨take142 base br 32 r W1 (h.below hb1)⟩
 have HB := Aside0.mk (hb1.mono h.base_le)
 have HK := Aside0.mk (KeptT.below (ts := [144]) hb1)
 have HBS := Aside0.mk (Nat.le_trans h.base_le hb1.size)
 have HQ := Aside0.mk q1
 have HPP := Aside0.mk (And.intro hp h.base_le)
 clear h hb1 q0 q1
 go_enter Tryz.func109, Tryz.ntmps109
 go_upto_region 1 with fail
 change Code.wp _ _ _ _ ((w.alloc (.cells #[.pointer (some ⟨br, 0, none⟩)] 114)).alloc (.cells zeroKey 34))
 rw [← hW1]
 try rw [hsz]
 rw [← hp]
 clear hW1 hsz hp
 go_wp2_with fail
 refine HG.out.mono ?_
 intro e w2 hG
 rcases hG with ⟨hlt, rfl, hb⟩ | ⟨hle, A, c, rfl, ho, hrd, hb, hk⟩
 ·have HE := Aside0.mk (show keyP r = .error 3 by unfold keyP; rw [takeP_no hlt])
  have HB2 := Aside0.mk (HB.out.trans (hb.mono HBS.out))
  have HK2 := Aside0.mk (HK.out.trans (KeptT.below (ts := [144]) hb))
  clear hlt hb c0
  go_wp2_with fail
  refine (must_stop 3 (by decide) _).mono ?_
  rintro e w3 ⟨rfl, rfl⟩
  unfold thrown
  go_wp2
  exact ⟨rfl, .inl ⟨3, by decide, HE.out, rfl⟩, HB2.out, HK2.out⟩
 ·have htl : (r.take 32).length = 32 := by rw [List.length_take]; omega
  obtain ⟨k, hkk⟩ : ∃ k, k = toKey (r.take 32) := ⟨_, rfl⟩
  have hke : encK k = (r.take 32).map byteV := by rw [hkk]; unfold encK; rw [toKey_eq htl]
  have HE := Aside0.mk (show keyP r = .ok (k, r.drop 32) by unfold keyP; rw [takeP_yes hle, hkk])
  have HB2 := Aside0.mk (HB.out.trans hb)
  have HK2 := Aside0.mk (HK.out.trans hk)
  have HRD := Aside0.mk hrd
  unfold OwnB at ho
  rw [htl] at ho
  obtain ⟨g, rfl⟩ := owned_at ho (by decide)
  have L2 := Aside0.mk (run_loadAtK Tryz.prog w2 34 32 Tryz.isAgg34 Tryz.sizeOf34 g 0 (encK k) (encK_len _) (fun j v hj => row_cell ho (Below.refl _ _) (by rw [hke] at hj; rw [Nat.zero_add]; exact hj)))
  have hq2 := hk _ _ _ _ HQ.out (by decide)
  have st := Aside0.mk (store_full w2 34 32 (p + 1) Tryz.sizeOf34 (encK key0) (encK k) hq2 (encK_len _) (encK_len _) (encK_one _))
  have HQ3 := Aside0.mk (setRow_heap w2 (p + 1) _ (encK k).toArray 34 (0, 0) hq2)
  have hk3 : KeptT [144] w (w2.setRow (p + 1) (encK k).toArray) := fun g cs T fr hg ht => by
   have hlt := (Array.getElem?_eq_some_iff.1 hg).1
   rw [(grownBy_setRow w2 (p + 1) (encK k).toArray).block g (Nat.lt_of_lt_of_le hlt (by have h1 := HBS.out; have h2 := hb.size; have h3 := HPP.out.1; have h4 := (Array.getElem?_eq_some_iff.1 HQ.out).1; omega)) (fun e => by have := Option.some.inj e; have := HPP.out.1; omega)]
   exact HK2.out g cs T fr hg ht
  have hrd3 : Rd (w2.setRow (p + 1) (encK k).toArray) base br (r.drop 32) := HRD.out.kept (ts := [34]) (fun g cs T fr hg ht => by
   have hlt := (Array.getElem?_eq_some_iff.1 hg).1
   rw [(grownBy_setRow w2 (p + 1) (encK k).toArray).block g hlt (fun e => by
    have e2 := Option.some.inj e
    subst e2
    rw [hq2] at hg
    cases hg
    exact ht (by decide))]
   exact hg) (by decide) (by decide) (by decide)
  have HF := Aside0.mk (And.intro hrd3 (And.intro (below_setRow HB2.out (show base ≤ p + 1 by have h1 := HPP.out.1; have h2 := HPP.out.2; omega) (encK k).toArray) hk3))
  have har := array34 g c
  obtain ⟨KA, hKA⟩ : ∃ KA, KA = (encK k).toArray := ⟨_, rfl⟩
  have HKA := Aside0.mk hKA
  rw [← hKA] at L2 st HQ3 HF
  clear hle hb hk hrd ho hke hkk htl hq2 hk3 hrd3 hKA c0
  go_wp2_with fail
  refine (must_go _).mono ?_
  rintro e w3 ⟨rfl, rfl⟩
  go_wp2_with (first | ((with_reducible refine at_load 34 (.tmp 14) ?_); refine wpList_loadK rfl 34 (.tmp 14) rfl _ rfl _ L2.out ?_) | ((with_reducible refine at_store 34 (.tmp 2) (.tmp 15) ?_); refine wpList_storeK rfl 34 (.tmp 2) (.tmp 15) rfl rfl _ _ rfl rfl _ st.out ?_))
  try simp only [Exit.inBlock, Exit.then]
  refine bodyPost_ret (results_cell_row rfl _ _ (p + 1) 34 _ (0, 0) _ rfl HQ3.out Tryz.underlying34 rfl (by rw [HKA.out, size34']; simp [encK_len])) rfl ?_
  exact ⟨.inr ⟨k, _, HE.out, by unfold keyV; rw [HKA.out], HF.out.1⟩, HF.out.2.1, HF.out.2.2⟩
end Go.Proofs.YthnpiimiimiijaaGreatDoor.Dir
end
section
namespace Go.Proofs.YthnpiimiimiijaaGreatDoor.Dir
open Go Go.RowKit Go.Proofs Go.Proofs.YthnpiimiimiijaaGreatDoorW.PrintWords Go.Proofs.YthnpiimiimiijaaGreatDoorW.PrintLast Go.Proofs.YthnpiimiimiijaaGreatDoorW.PrintMore
set_option linter.unusedVariables false
set_option linter.unusedSimpArgs false
def devP (l : List UInt8) : Except Int (Dev × List UInt8) :=
 match getP 1 l with
 | .error c => .error c
 | .ok (n, r1) =>
  match keyP r1 with
  | .error c => .error c
  | .ok (k, r2) =>
   match getP 7 r2 with
   | .error c => .error c
   | .ok (e, r3) =>
    match mostP 1 r3 with
    | .error c => .error c
    | .ok (v, r4) => .ok (⟨(n : Int), k, (e : Int), decide (v = 1)⟩, r4)
def manyP {α : Type} (f : List UInt8 → Except Int (α × List UInt8)) : Nat → List UInt8 → Except Int (List α × List UInt8)
 | 0, l => .ok ([], l)
 | n + 1, l =>
  match f l with
  | .error c => .error c
  | .ok (d, r) =>
   match manyP f n r with
   | .error c => .error c
   | .ok (ds, r') => .ok (d :: ds, r')
def withPre {α : Type} (ds : List α) : Except Int (List α × List UInt8) → Except Int (List α × List UInt8)
 | .error c => .error c
 | .ok (ds', r) => .ok (ds ++ ds', r)
theorem withPre_nil {α : Type} (x : Except Int (List α × List UInt8)) : withPre [] x = x := by
 cases x <;> rfl
theorem withPre_step {α : Type} {f : List UInt8 → Except Int (α × List UInt8)} {n : Nat} {r r' : List UInt8} {ds : List α} {d : α} (h : f r = .ok (d, r')) : withPre ds (manyP f (n + 1) r) = withPre (ds ++ [d]) (manyP f n r') := by
 show withPre ds (match f r with | .error c => .error c | .ok (d, r) => match manyP f n r with | .error c => .error c | .ok (ds, r') => .ok (d :: ds, r')) = _
 rw [h]
 show withPre ds (match manyP f n r' with | .error c => .error c | .ok (ds, r') => .ok (d :: ds, r')) = _
 cases manyP f n r' with
 | error c => rfl
 | ok p => simp [withPre]
theorem withPre_stop {α : Type} {f : List UInt8 → Except Int (α × List UInt8)} {n : Nat} {r : List UInt8} {ds : List α} {c : Int} (h : f r = .error c) : withPre ds (manyP f (n + 1) r) = .error c := by
 show withPre ds (match f r with | .error c => .error c | .ok (d, r) => match manyP f n r with | .error c => .error c | .ok (ds, r') => .ok (d :: ds, r')) = _
 rw [h]
 rfl
theorem withPre_done {α : Type} {f : List UInt8 → Except Int (α × List UInt8)} {r : List UInt8} {ds : List α} : withPre ds (manyP f 0 r) = .ok (ds, r) := by
 simp [manyP, withPre]
def rawP (l : List UInt8) : Except Int (Book × List UInt8) :=
 match getP 7 l with
 | .error c => .error c
 | .ok (v, r1) =>
  match getP 7 r1 with
  | .error c => .error c
  | .ok (k, r2) =>
   match mostP 8 r2 with
   | .error c => .error c
   | .ok (n, r3) =>
    match manyP devP n r3 with
    | .error c => .error c
    | .ok (ds, r4) =>
     match mostP 64 r4 with
     | .error c => .error c
     | .ok (m, r5) =>
      match manyP keyP m r5 with
      | .error c => .error c
      | .ok (ks, r6) =>
       match octP 1024 r6 with
       | .error c => .error c
       | .ok (t, r7) => .ok (⟨(v : Int), (k : Int), ds, ks, t⟩, r7)
def bookSaid (l : List UInt8) (x : Except Int Book) : Prop :=
 match rawP l with
 | .error c => x = .error c
 | .ok (B, r) => (r = [] ∧ MayB B ∧ x = .ok B) ∨ (¬ (r = [] ∧ MayB B) ∧ x = .error 4)
theorem mostP_le {m n : Nat} {l r : List UInt8} (h : mostP m l = .ok (n, r)) : n ≤ m := by
 unfold mostP at h
 cases hg : getP 1 l with
 | error c => rw [hg] at h; cases h
 | ok p =>
  obtain ⟨a, b⟩ := p
  rw [hg] at h
  simp only at h
  split at h
  ·cases h
  ·cases h; omega
theorem KeptT.low {ts : List TypeId} {w W W' : World} (h : KeptT ts w W) (hs : w.heap.size ≤ W.heap.size) (hb : Below w.heap.size W W') : KeptT ts w W' := fun g cs T fr hg ht => by
 have hlt := (Array.getElem?_eq_some_iff.1 hg).1
 rw [hb.block g hlt]
 exact h g cs T fr hg ht
structure BkS (w W : World) (base p q br : Nat) (B : Book) (A1 : Option Addr) (c1 : Nat) (A2 : Option Addr) (c2 : Nat) (r : List UInt8) : Prop where
 rb : W.heap[p]? = some (.cells #[.pointer (some ⟨br, 0, none⟩)] 114 (0, 0))
 bx : W.heap[q]? = some (.cells (bookCells B A1 c1 A2 c2).toArray 43 (0, 0))
 d : OwnD W w.heap.size A1 c1 B.devs
 k : OwnK W w.heap.size A2 c2 B.spent
 rd : Rd W base br r
 b : Below base w W
 kt : KeptT [144] w W
 lo : w.heap.size ≤ q
 ba : base ≤ w.heap.size
section
variable {w W W' : World} {base p q br : Nat} {B : Book} {A1 : Option Addr} {c1 : Nat} {A2 : Option Addr} {c2 : Nat} {r r' : List UInt8}
theorem BkS.sz (h : BkS w W base p q br B A1 c1 A2 c2 r) : w.heap.size ≤ W.heap.size := h.b.size
theorem BkS.step (h : BkS w W base p q br B A1 c1 A2 c2 r) (hb : Below base W W') (hk : KeptT [144] W W') (hr : Rd W' base br r') : BkS w W' base p q br B A1 c1 A2 c2 r' :=
 ⟨hk _ _ _ _ h.rb (by decide), hk _ _ _ _ h.bx (by decide), own_keptT h.d hk (by decide), own_keptT h.k hk (by decide), hr, h.b.trans hb, h.kt.trans hk, h.lo, h.ba⟩
theorem BkS.later (h : BkS w W base p q br B A1 c1 A2 c2 r) (hb : Below W.heap.size W W') : BkS w W' base p q br B A1 c1 A2 c2 r :=
 h.step (hb.mono (Nat.le_trans h.ba h.sz)) (KeptT.below hb) (h.rd.below hb)
theorem BkS.set (h : BkS w W base p q br B A1 c1 A2 c2 r) (j : Nat) (u : Value) {B' : Book} {A1' : Option Addr} {c1' : Nat} {A2' : Option Addr} {c2' : Nat} (he : (bookCells B A1 c1 A2 c2).set j u = bookCells B' A1' c1' A2' c2')
  (hd : OwnD W w.heap.size A1' c1' B'.devs) (hk : OwnK W w.heap.size A2' c2' B'.spent) : BkS w (W.setCell ⟨q, j, none⟩ u) base p q br B' A1' c1' A2' c2' r := by
 have k1 := KeptT.setCell (j := j) h.bx (by decide : (43 : Nat) ∈ [43]) u
 refine ⟨k1 _ _ _ _ h.rb (by decide), ?_, own_keptT hd k1 (by decide), own_keptT hk k1 (by decide), h.rd.kept k1 (by decide) (by decide) (by decide), h.b.setCell (Nat.le_trans h.ba h.lo) _, h.kt.new h.lo _ _, h.lo, h.ba⟩
 rw [heap_setCell_same W q j _ _ _ h.bx, ← he]
 simp
theorem BkS.cells (h : BkS w W base p q br B A1 c1 A2 c2 r) : W.cell? ⟨q, 0, none⟩ = some (.int .i64 B.ver) ∧ W.cell? ⟨q, 1, none⟩ = some (.int .i64 B.clock) ∧ W.cell? ⟨q, 2, none⟩ = some (.slice A1 B.devs.length c1) ∧ W.cell? ⟨q, 3, none⟩ = some (.slice A2 B.spent.length c2) ∧ W.cell? ⟨q, 4, none⟩ = some (.string (str B.acl)) := by
 have hq := h.bx
 refine ⟨?_, ?_, ?_, ?_, ?_⟩ <;> (rw [cell_of_heap hq]; rfl)
theorem BkS.frz (h : BkS w W base p q br B A1 c1 A2 c2 r) (j : Nat) : W.frozen? ⟨q, j, none⟩ = false := frozen_of_heap h.bx
theorem BkS.rdl (h : BkS w W base p q br B A1 c1 A2 c2 r) : (Instr.loadAt 114 (.pointer (some ⟨p, 0, none⟩))).run Tryz.prog W = .ok (readerV br) W :=
 run_loadAtK Tryz.prog W 114 1 Tryz.isAgg114 Tryz.sizeOf114 p 0 [.pointer (some ⟨br, 0, none⟩)] rfl (cells_of_heap h.rb)
theorem BkS.grownD (h : BkS w W base p q br B A1 c1 A2 c2 r) {A' : Option Addr} {c' : Nat} {l' : List Dev} (ho : OwnD W' w.heap.size A' c' l') (hb : Below w.heap.size W W') (hk : KeptT [46] W W') :
  W'.heap[p]? = some (.cells #[.pointer (some ⟨br, 0, none⟩)] 114 (0, 0)) ∧ W'.heap[q]? = some (.cells (bookCells B A1 c1 A2 c2).toArray 43 (0, 0)) ∧ OwnK W' w.heap.size A2 c2 B.spent ∧ Rd W' base br r ∧ Below base w W' ∧ KeptT [144] w W' :=
 ⟨hk _ _ _ _ h.rb (by decide), hk _ _ _ _ h.bx (by decide), own_keptT h.k hk (by decide), h.rd.kept hk (by decide) (by decide) (by decide), h.b.trans (hb.mono h.ba), h.kt.low h.sz hb⟩
theorem BkS.pushD (h : BkS w W base p q br B A1 c1 A2 c2 r) {A' : Option Addr} {c' : Nat} {d : Dev} (ho : OwnD W' w.heap.size A' c' (B.devs ++ [d])) (hb : Below w.heap.size W W') (hk : KeptT [46] W W') :
  BkS w (W'.setCell ⟨q, 2, none⟩ (.slice A' (B.devs.length + 1) c')) base p q br { B with devs := B.devs ++ [d] } A' c' A2 c2 r := by
 obtain ⟨g1, g2, g3, g4, g5, g6⟩ := h.grownD ho hb hk
 have k1 := KeptT.setCell (j := 2) g2 (by decide : (43 : Nat) ∈ [43]) (.slice A' (B.devs.length + 1) c')
 refine ⟨k1 _ _ _ _ g1 (by decide), ?_, own_keptT ho k1 (by decide), own_keptT g3 k1 (by decide), g4.kept k1 (by decide) (by decide) (by decide), g5.setCell (Nat.le_trans h.ba h.lo) _, g6.new h.lo _ _, h.lo, h.ba⟩
 rw [heap_setCell_same W' q 2 _ _ _ g2]
 unfold bookCells
 simp
theorem BkS.pushK (h : BkS w W base p q br B A1 c1 A2 c2 r) {A' : Option Addr} {c' : Nat} {d : Key} (ho : OwnK W' w.heap.size A' c' (B.spent ++ [d])) (hb : Below w.heap.size W W') (hk : KeptT [34] W W') :
  BkS w (W'.setCell ⟨q, 3, none⟩ (.slice A' (B.spent.length + 1) c')) base p q br { B with spent := B.spent ++ [d] } A1 c1 A' c' r := by
 have g2 := hk _ _ _ _ h.bx (by decide)
 have k1 := KeptT.setCell (j := 3) g2 (by decide : (43 : Nat) ∈ [43]) (.slice A' (B.spent.length + 1) c')
 refine ⟨k1 _ _ _ _ (hk _ _ _ _ h.rb (by decide)) (by decide), ?_, own_keptT (own_keptT h.d hk (by decide)) k1 (by decide), own_keptT ho k1 (by decide), (h.rd.kept hk (by decide) (by decide) (by decide)).kept k1 (by decide) (by decide) (by decide), (h.b.trans (hb.mono h.ba)).setCell (Nat.le_trans h.ba h.lo) _, (h.kt.low h.sz hb).new h.lo _ _, h.lo, h.ba⟩
 rw [heap_setCell_same W' q 3 _ _ _ g2]
 unfold bookCells
 simp
end
theorem wpList_pushDk {w : World} {ops : Array Oper} {rest : List Oper} {o o2 : Oper} {a : Act} {Q : Exit → Act → World → Prop} (hgd : o.guard = none) (hgd2 : o2.guard = none) (x s y : Operand) (ho : o.op = .buildSlice 40 1 #[(0, x)]) (ho2 : o2.op = .call { callee := .builtin .append, args := #[s, y], argTypes := #[40, 40] })
  (k : Dev) (ex : a.eval x = .agg (encD k).toArray) (base : Nat) (A : Option Addr) (c n : Nat) (l : List Dev) (hown : OwnD w base A c l) (es : (a.put o.dst (.slice (some ⟨w.heap.size, 0, none⟩) 1 1)).eval s = .slice A n c) (hn : l.length = n) (ey : (a.put o.dst (.slice (some ⟨w.heap.size, 0, none⟩) 1 1)).eval y = .slice (some ⟨w.heap.size, 0, none⟩) 1 1) (hl : l.length ≤ 100000000000) (hb : base ≤ w.heap.size)
  (h : ∀ A' c' w', OwnD w' base A' c' (l ++ [k]) → Below base w w' → KeptT [46] w w' → wpList Tryz.prog ops Q rest ((a.put o.dst (.slice (some ⟨w.heap.size, 0, none⟩) 1 1)).put o2.dst (.slice A' (n + 1) c')) w') : wpList Tryz.prog ops Q (o :: o2 :: rest) a w := by
 subst hn
 refine wpList_buildSlice1 hgd 40 x ho _ ex _ _ (buildD w k) ?_
 have hbw := (Below.refl w.heap.size w).alloc (Nat.le_refl _) (.cells (encD k).toArray 46)
 have hsrc : SrcAt (w.alloc (.cells (encD k).toArray 46)) (some ⟨w.heap.size, 0, none⟩) 1 35 (flatD [k]) := by
  rw [show flatD [k] = encD k by unfold flatD; simp]
  exact src_new (heap_alloc_new w _) (encD_len k)
 have how := hown.below hbw
 refine wpList_app hgd2 s y appD ho2 base l.length c 1 1 A (some ⟨w.heap.size, 0, none⟩) (flatD l) (flatD [k]) es how ey hsrc (flatD_one' _) (by omega) (by unfold maxLen; omega) (Nat.le_trans hb hbw.size) fun A' c' w' h2 h3 => ?_
 have hk : OwnD w' base A' c' (l ++ [k]) := by unfold OwnD; rw [flatD_append, List.length_append]; exact h2
 exact h A' c' w' hk ((hbw.mono hb).trans (below_own how h3 (Nat.le_trans hb hbw.size))) ((KeptT.below hbw).trans (KeptT.grown how h3 (by decide)))
theorem goesp_ {P : Program} {Q : Exit → Act → World → Prop} {ops : Array Oper} {oi : Oper} {N : Option Tmp} {a : Act} {w : World} {K : Act → World → Prop} {f : FuncId} {fn : Func} {ax : Array Operand} {ts : Array TypeId} (hf : P.funcs[f]? = some fn) (hname : (fn.name == "runtime.NumGoroutine") = false) (hb : fn.body.isSome = true) (args : Array Value)
  (hw : Region.wanted oi (yielded ops a.tmps) = true) (hN : oi.dst = N) (hop : oi.op = .call { callee := .value (.func f), args := ax, argTypes := ts }) (hargs : ax.map a.eval = args)
  (h : Calls P f args w fun e w' => (∃ v, e = .returned v ∧ K (a.put N v) w') ∨ (∃ ch, e = .panicked ch ∧ Q (.panic ch) a w')) : if Region.wanted oi (yielded ops a.tmps) = true then Oper.wp P oi a w K Q else K (a.put N undef) w := by
 rw [if_pos hw]
 subst hN
 unfold Oper.wp
 have he := enters_ hf hname hb args w
 have hx : (execOp a.eval oi).run P w = .ok (.enter f args) w := by
  unfold execOp
  simp [hop, resolve, Deferred.ofValue, invoke, Act.eval, hargs, he]
 rw [hx, Oper.upon_enter]
 refine h.mono fun e w'' hh => ?_
 rcases hh with ⟨v, rfl, hk⟩ | ⟨ch, rfl, hq⟩
 ·exact hk
 ·exact hq
end Go.Proofs.YthnpiimiimiijaaGreatDoor.Dir
end
