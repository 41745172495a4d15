/- The program's writer: Octets, Write, Out. The document's writer: size, bits, octet. The document's writer: Write, Bytes. The document's writer: Bytes. The document's writer: Put. The document's writer: Put. The document's writer: Octets. The document's writer: Out. direct.Bytes: a book's bytes. The document's Bytes. Valid at books that came in: the program's, the document's. EqBytes at bytes that  -/
import Derived.Test.YthnpiimiimiijaaGreatDoorKk18
import Derived.Laws.IdiomStrings
section
namespace Go.Proofs.YthnpiimiimiijaaGreatDoor.Dir
open Go Go.RowKit Go.Proofs Go.Proofs.YthnpiimiimiijaaGreatDoorW.PrintWords Go.Proofs.YthnpiimiimiijaaGreatDoorW.PrintLast Go.Proofs.YthnpiimiimiijaaGreatDoorW.PrintMore
set_option linter.unusedVariables false
set_option linter.unusedSimpArgs false
theorem Wr.none (base bw : Nat) (xs : List UInt8) (w : World) (h : Wr w base bw xs) : Calls Tryz.prog 96 #[.pointer (some ⟨bw, 0, none⟩)] w fun e w' => e = .returned (.bool false) ∧ w' = w := by
 obtain ⟨bs, A, c, h1, h2, h3, h4⟩ := h
 exact none96 bw bs _ c A w h1
set_option maxHeartbeats 4000000 in
set_option maxRecDepth 100000 in
theorem octets59 (base bw : Nat) (xs ys : List UInt8) (A2 : Option Addr) (c2 : Nat) (w : World) (h : Wr w base bw xs) (hs : ∀ w', Below base w w' → (∀ T, WrLt w bw T → KeptS T w w') → SrcAt w' A2 ys.length 1 (ys.map byteV)) (hy : ys.length ≤ 65535) (hl : xs.length + 70000 ≤ 140737488355328) :
  Calls Tryz.prog 59 #[.pointer (some ⟨bw, 0, none⟩), .slice A2 ys.length c2] w fun e w' => e = .returned (.int .i64 0) ∧ Wr w' base bw (xs ++ beN ys.length 2 ++ ys) ∧ Below base w w' := by
 have hcall := Aside0.mk (h.none)
 have hput := Aside0.mk (put57 base bw xs ys.length 2 w h (by omega) (by decide) (by decide) (by omega) (by omega))
 have HS := Aside0.mk hs
 have HL := Aside0.mk (And.intro hy hl)
 have hz : ¬ (65535 : Int) < (ys.length : Int) := by omega
 clear h hs hy hl
 go_enter Tryz.func59, Tryz.ntmps59
 go_upto_region 5 with (go_at_call 96; refine hcall.out.mono ?_; rintro e w' ⟨rfl, rfl⟩)
 go_upto_region 6 with (go_at_call 57; refine hput.out.mono ?_; rintro e w2 ⟨rfl, h2, hb2, hk2, hs2⟩)
 have HB := Aside0.mk hb2
 have HK := Aside0.mk hk2
 have HS2 := Aside0.mk hs2
 have hby := Aside0.mk (bytes58 base bw _ ys A2 c2 w2 h2 (HS.out w2 hb2 hs2) (by rw [List.length_append, beN_len]; have := HL.out; omega))
 clear h2 hb2 hk2 hs2
 go_wp2_with (go_at_call 58; refine hby.out.mono ?_; rintro e w3 ⟨rfl, h3, hb3, hk3, hs3⟩)
 go_ret
 exact ⟨rfl, h3, HB.out.trans hb3⟩
def WriteEnd (w w' : World) (e : Ending) : Prop := ∃ bw, e = .returned (.pointer (some ⟨bw, 0, none⟩)) ∧ Wr w' w.heap.size bw [] ∧ Below w.heap.size w w'
theorem write56 (w : World) : Calls Tryz.prog 56 #[] w fun e w' => WriteEnd w w' e := by
 have hb := ((Below.refl _ w).alloc (Nat.le_refl _) (.cells #[.slice none 0 0, .int .i64 0] 144)).alloc (by simp) (.cells #[.pointer (some ⟨w.heap.size, 0, none⟩)] 146)
 have h1 : (w.alloc (.cells #[.slice none 0 0, .int .i64 0] 144)).heap[w.heap.size]? = some (.cells #[.slice none 0 0, .int .i64 0] 144 (0, 0)) := heap_alloc_new w _
 have HF := Aside0.mk (show WriteEnd w ((w.alloc (.cells #[.slice none 0 0, .int .i64 0] 144)).alloc (.cells #[.pointer (some ⟨w.heap.size, 0, none⟩)] 146)) (.returned (.pointer (some ⟨w.heap.size + 1, 0, none⟩))) from
  ⟨w.heap.size + 1, rfl, ⟨w.heap.size, none, 0, ⟨by have := heap_alloc_new (w.alloc (.cells #[.slice none 0 0, .int .i64 0] 144)) (.cells #[.pointer (some ⟨w.heap.size, 0, none⟩)] 146); simpa using this, (Below.heap_alloc _ _ _ (by simp)).trans h1⟩, World.ownsRow_nil _ _ _ _, by omega, Nat.le_refl _⟩, hb⟩)
 clear hb h1
 go_enter Tryz.func56, Tryz.ntmps56
 go_wp2
 go_ret
 simpa using HF.out
def OutEnd (w w' : World) (xs : List UInt8) (e : Ending) : Prop := ∃ A c, e = .returned (.slice A xs.length c) ∧ OwnB w' w.heap.size A c xs ∧ Below w.heap.size w w'
theorem OutEnd.ret {w w' : World} {xs : List UInt8} {e : Ending} (h : OutEnd w w' xs e) : ∃ ev, e = .returned ev := by
 obtain ⟨A', c', rfl, -⟩ := h
 exact ⟨_, rfl⟩
theorem clone_bytes (A : Option Addr) (n c : Nat) (xs : List UInt8) (hn : n = xs.length) (w : World) (hs : SrcAt w A xs.length 1 (xs.map byteV)) (hl : xs.length ≤ 140737488355328) : Calls Tryz.prog 100 #[.slice A n c] w fun e w' => OutEnd w w' xs e := by
 subst hn
 refine (cloned100 A xs.length c (xs.map byteV) w hs (by rw [Nat.mul_one]; exact hl) (bytes_one _)).mono ?_
 rintro e w2 ⟨A', c', rfl, h5, -, h6⟩
 exact ⟨A', c', rfl, h5, h6⟩
theorem out60 (base bw : Nat) (xs : List UInt8) (w : World) (h : Wr w base bw xs) (hl : xs.length ≤ 140737488355328) : Calls Tryz.prog 60 #[.pointer (some ⟨bw, 0, none⟩)] w fun e w' => OutEnd w w' xs e := by
 have hcall := Aside0.mk (h.none)
 obtain ⟨bs, A, c, h1, h2, h3, h4⟩ := h
 obtain ⟨c1, c2, -⟩ := h1.cells
 have hcl := Aside0.mk (fun n (hn : n = xs.length) => clone_bytes A n c xs hn w h2.src hl)
 clear h1 h2 h3 h4
 obtain ⟨n, hn⟩ : ∃ n, n = xs.length := ⟨_, rfl⟩
 rw [← hn] at c2
 have hcl := Aside0.mk (hcl.out n hn)
 clear hn
 go_enter Tryz.func60, Tryz.ntmps60
 go_upto_region 3 with (go_at_call 96; refine hcall.out.mono ?_; rintro e w' ⟨rfl, rfl⟩)
 go_wp2_with (go_at_call 100; refine hcl.out.mono ?_; intro e w2 h5; obtain ⟨ev, rfl⟩ := h5.ret)
 go_ret
 exact h5
end Go.Proofs.YthnpiimiimiijaaGreatDoor.Dir
end
section
namespace Go.Proofs.YthnpiimiimiijaaGreatDoor.Dir
open Go Go.RowKit Go.Proofs Go.Proofs.YthnpiimiimiijaaGreatDoorW.PrintWords Go.Proofs.YthnpiimiimiijaaGreatDoorW.PrintLast Go.Proofs.YthnpiimiimiijaaGreatDoorW.PrintMore
set_option linter.unusedVariables false
set_option linter.unusedSimpArgs false
def bitV (v i : Nat) : Value := .int .i64 ((v / 2 ^ i % 2 : Nat) : Int)
def bitsV (v : Nat) : Nat → List Value
 | 0 => []
 | s + 1 => bitV v s :: bitsV v s
def BitsEnd (w w' : World) (v : Nat) (e : Ending) : Prop := ∃ g, e = .returned (.slice (some ⟨g, 0, none⟩) 64 64) ∧ w'.heap[g]? = some (.cells (bitsV v 64).toArray 3 (0, 0)) ∧ Below w.heap.size w w'
theorem BitsEnd.ret {w w' : World} {v : Nat} {e : Ending} (h : BitsEnd w w' v e) : ∃ g, e = .returned (.slice (some ⟨g, 0, none⟩) 64 64) ∧ w'.heap[g]? = some (.cells (bitsV v 64).toArray 3 (0, 0)) ∧ Below w.heap.size w w' := h
end Go.Proofs.YthnpiimiimiijaaGreatDoor.Dir
end
section
namespace Go.Proofs.YthnpiimiimiijaaGreatDoor.Dir
open Go Go.RowKit Go.Proofs Go.Proofs.YthnpiimiimiijaaGreatDoorW.PrintWords Go.Proofs.YthnpiimiimiijaaGreatDoorW.PrintLast Go.Proofs.YthnpiimiimiijaaGreatDoorW.PrintMore
set_option linter.unusedVariables false
set_option linter.unusedSimpArgs false
def PieceR (w : World) (base : Nat) (p : List UInt8) (cs : List Value) : Prop := ∃ A c, cs = [.slice A p.length c] ∧ OwnB w base A c p
theorem OwnB.kept {w w' : World} {base : Nat} {A : Option Addr} {c : Nat} {p : List UInt8} {row : Option Nat} (h : OwnB w base A c p) (hg : w.grownBy w' row) (hne : (Value.slice A p.length c).ownBlock = none ∨ (Value.slice A p.length c).ownBlock ≠ row) : OwnB w' base A c p := by
 unfold OwnB at h ⊢
 exact World.ownsRow.kept h hg hne
def RWr (w : World) (base rw : Nat) (xs : List UInt8) (k : Nat) : Prop := ∃ v ps, w.heap[rw]? = some (.cells #[v] 154 (0, 0)) ∧ OwnRow (PieceR w base) 67 1 w base v ps ∧ ps.flatten = xs ∧ ps.length ≤ k ∧ base ≤ rw
theorem PieceR.below {w w' : World} {base : Nat} {p : List UInt8} {cs : List Value} (h : PieceR w base p cs) (hb : Below w.heap.size w w') : PieceR w' base p cs := by
 obtain ⟨A, c, rfl, h⟩ := h
 exact ⟨A, c, rfl, h.below hb⟩
theorem RWr.below {w w' : World} {base rw : Nat} {xs : List UInt8} {k : Nat} (h : RWr w base rw xs k) (hb : Below w.heap.size w w') : RWr w' base rw xs k := by
 obtain ⟨v, ps, h1, h2, h3, h4, h5⟩ := h
 exact ⟨v, ps, room_at h1 hb, (h2.below hb).imp_ (fun p c hp => hp.below hb), h3, h4, h5⟩
theorem RWr.size {w : World} {base rw : Nat} {xs : List UInt8} {k : Nat} (h : RWr w base rw xs k) : base ≤ w.heap.size := by
 obtain ⟨v, ps, h1, h2, h3, h4, h5⟩ := h
 exact Nat.le_trans h5 (Nat.le_of_lt (Array.getElem?_eq_some_iff.1 h1).1)
end Go.Proofs.YthnpiimiimiijaaGreatDoor.Dir
end
section
namespace Go.Proofs.YthnpiimiimiijaaGreatDoor.Dir
open Go Go.RowKit Go.Proofs Go.Proofs.YthnpiimiimiijaaGreatDoorW.PrintWords Go.Proofs.YthnpiimiimiijaaGreatDoorW.PrintLast Go.Proofs.YthnpiimiimiijaaGreatDoorW.PrintMore
set_option linter.unusedVariables false
set_option linter.unusedSimpArgs false
theorem own_slice {w : World} {base : Nat} {e : TypeId} {size n : Nat} {v : Value} {xs : List Value} (h : w.ownsRow base e size v n xs) : ∃ A c, v = .slice A n c := by
 obtain ⟨A, c, rfl, -⟩ := src_owns h
 exact ⟨A, c, rfl⟩
end Go.Proofs.YthnpiimiimiijaaGreatDoor.Dir
end
section
namespace Go.Proofs.YthnpiimiimiijaaGreatDoor.Dir
open Go Go.RowKit Go.Proofs Go.Proofs.YthnpiimiimiijaaGreatDoorW.PrintWords Go.Proofs.YthnpiimiimiijaaGreatDoorW.PrintLast Go.Proofs.YthnpiimiimiijaaGreatDoorW.PrintMore
set_option linter.unusedVariables false
set_option linter.unusedSimpArgs false
end Go.Proofs.YthnpiimiimiijaaGreatDoor.Dir
end
section
namespace Go.Proofs.YthnpiimiimiijaaGreatDoor.Dir
open Go Go.RowKit Go.Proofs Go.Proofs.YthnpiimiimiijaaGreatDoorW.PrintWords Go.Proofs.YthnpiimiimiijaaGreatDoorW.PrintLast Go.Proofs.YthnpiimiimiijaaGreatDoorW.PrintMore
set_option linter.unusedVariables false
set_option linter.unusedSimpArgs false
end Go.Proofs.YthnpiimiimiijaaGreatDoor.Dir
end
section
namespace Go.Proofs.YthnpiimiimiijaaGreatDoor.Dir
open Go Go.RowKit Go.Proofs Go.Proofs.YthnpiimiimiijaaGreatDoorW.PrintWords Go.Proofs.YthnpiimiimiijaaGreatDoorW.PrintLast Go.Proofs.YthnpiimiimiijaaGreatDoorW.PrintMore
set_option linter.unusedVariables false
set_option linter.unusedSimpArgs false
end Go.Proofs.YthnpiimiimiijaaGreatDoor.Dir
end
section
namespace Go.Proofs.YthnpiimiimiijaaGreatDoor.Dir
open Go Go.RowKit Go.Proofs Go.Proofs.YthnpiimiimiijaaGreatDoorW.PrintWords Go.Proofs.YthnpiimiimiijaaGreatDoorW.PrintLast Go.Proofs.YthnpiimiimiijaaGreatDoorW.PrintMore
set_option linter.unusedVariables false
set_option linter.unusedSimpArgs false
end Go.Proofs.YthnpiimiimiijaaGreatDoor.Dir
end
section
namespace Go.Proofs.YthnpiimiimiijaaGreatDoor.Dir
open Go Go.RowKit Go.Proofs Go.Proofs.YthnpiimiimiijaaGreatDoorW.PrintWords Go.Proofs.YthnpiimiimiijaaGreatDoorW.PrintLast Go.Proofs.YthnpiimiimiijaaGreatDoorW.PrintMore
set_option linter.unusedVariables false
set_option linter.unusedSimpArgs false
def devB (d : Dev) : List UInt8 := beN d.node.toNat 1 ++ d.key.1 ++ beN d.exp.toNat 7 ++ beN (if d.rev then 1 else 0) 1
def headB (B : Book) : List UInt8 := beN B.ver.toNat 7 ++ beN B.clock.toNat 7 ++ beN B.devs.length 1
def devsB (l : List Dev) : List UInt8 := l.flatMap devB
def keysB (l : List Key) : List UInt8 := l.flatMap (fun k => k.1)
def midB (B : Book) : List UInt8 := headB B ++ devsB B.devs ++ beN B.spent.length 1
def bytesB (B : Book) : List UInt8 := midB B ++ keysB B.spent ++ beN B.acl.length 2 ++ B.acl
theorem devB_len (d : Dev) : (devB d).length = 41 := by simp [devB, beN_len, d.key.2]
theorem headB_len (B : Book) : (headB B).length = 15 := by simp [headB, beN_len]
theorem devsB_len : ∀ l : List Dev, (devsB l).length = 41 * l.length
 | [] => rfl
 | d :: l => by
  have := devsB_len l
  unfold devsB at this ⊢
  rw [List.flatMap_cons, List.length_append, this, devB_len, List.length_cons]
  omega
theorem keysB_len : ∀ l : List Key, (keysB l).length = 32 * l.length
 | [] => rfl
 | d :: l => by
  have := keysB_len l
  unfold keysB at this ⊢
  rw [List.flatMap_cons, List.length_append, this, d.2, List.length_cons]
  omega
theorem devsB_next {l : List Dev} {j : Nat} {d : Dev} (h : l[j]? = some d) : devsB (l.take (j + 1)) = devsB (l.take j) ++ devB d := by
 unfold devsB
 rw [List.take_add_one, h, List.flatMap_append]
 simp
theorem keysB_next {l : List Key} {j : Nat} {d : Key} (h : l[j]? = some d) : keysB (l.take (j + 1)) = keysB (l.take j) ++ d.1 := by
 unfold keysB
 rw [List.take_add_one, h, List.flatMap_append]
 simp
theorem sizeK : (Tryz.prog.info? 34).map (·.size) = some 32 := by kernel_rfl
theorem acl_short {t : List UInt8} (h : rulesOf t = 0) : t.length ≤ 1024 := by
 unfold rulesOf Acl.parseOf at h
 by_cases hl : t.length > 1024
 ·rw [if_pos hl] at h; cases h
 ·omega
def BytesEnd (w w' : World) (B : Book) (e : Ending) : Prop :=
 (∃ A c, e = .returned (.tuple #[.slice A (bytesB B).length c, .int .i64 0]) ∧ OwnB w' w.heap.size A c (bytesB B) ∧ MayB B) ∨ (e = .returned (.tuple #[.slice none 0 0, .int .i64 2]) ∧ ¬ MayB B)
theorem conv67 (s : List UInt8) (W : World) : ∃ c W', (convert 9 67 (.string (str s))).run Tryz.prog W = .ok (.slice (some ⟨W.heap.size, 0, none⟩) s.length c) W' ∧ Below W.heap.size W W' ∧ (∃ (cs : Array Value) (fr : Nat × Nat), W'.heap[W.heap.size]? = some (.cells cs 5 fr) ∧ ∀ (j : Nat) (u : Value), (s.map byteV)[j]? = some u → cs[j]? = some u) ∧ W.heap.size < W'.heap.size := by
 obtain ⟨cp, hcp⟩ : ∃ cp, cp = grownCap W (str s).size 0 5 := ⟨_, rfl⟩
 have hr := run_bytes_of_string W 9 67 5 (str s) Tryz.underlying9 Tryz.underlying67 Tryz.underlying5
 rw [← hcp] at hr
 refine ⟨cp, _, hr, ((Below.refl _ W).drew).alloc (Nat.le_refl _) _, ⟨bytesRow (str s) cp, ((bytesRow (str s) cp).size, (bytesRow (str s) cp).size + 1), heap_alloc_new W.drew _, ?_⟩, by simp [World.alloc]⟩
 intro j u hj
 have hl : j < s.length := by have := (List.getElem?_eq_some_iff.1 hj).1; simpa using this
 unfold bytesRow
 rw [Array.getElem?_append_left (by simp [str]; exact hl)]
 simp [str] at hj ⊢
 obtain ⟨b, hb, rfl⟩ := hj
 exact ⟨b, hb, rfl⟩
theorem src_cells {W : World} {p : Nat} {cs : Array Value} {T : TypeId} {fr : Nat × Nat} (h : W.heap[p]? = some (.cells cs T fr)) (o n : Nat) (xs : List Value) (hn : xs.length = n) (hx : ∀ j u, xs[j]? = some u → cs[o + j]? = some u) : SrcAt W (some ⟨p, o, none⟩) n 1 xs :=
 ⟨by omega, fun e => (by cases e), fun a ha j u hj => (by cases ha; rw [add_at, cell_of_heap h, Array.getElem?_toList]; exact hx j u hj)⟩
theorem dev_key {d : Dev} {j : Nat} {u : Value} (h : (d.key.1.map byteV)[j]? = some u) : (encD d).toArray[1 + j]? = some u := by
 have hl : j < (encK d.key).length := (List.getElem?_eq_some_iff.1 h).1
 rw [List.getElem?_toArray, Nat.add_comm]
 show (encK d.key ++ [.int .i64 d.exp, .bool d.rev])[j]? = _
 rw [List.getElem?_append_left hl]
 exact h
end Go.Proofs.YthnpiimiimiijaaGreatDoor.Dir
end
section
namespace Go.Proofs.YthnpiimiimiijaaGreatDoor.Dir
open Go Go.RowKit Go.Proofs Go.Proofs.YthnpiimiimiijaaGreatDoorW.PrintWords Go.Proofs.YthnpiimiimiijaaGreatDoorW.PrintLast Go.Proofs.YthnpiimiimiijaaGreatDoorW.PrintMore
set_option linter.unusedVariables false
set_option linter.unusedSimpArgs false
theorem RWr.up {w : World} {base rw : Nat} {xs : List UInt8} {k k' : Nat} (h : RWr w base rw xs k) (hk : k ≤ k') : RWr w base rw xs k' := by
 obtain ⟨v, ps, h1, h2, h3, h4, h5⟩ := h
 exact ⟨v, ps, h1, h2, h3, by omega, h5⟩
end Go.Proofs.YthnpiimiimiijaaGreatDoor.Dir
end
section
namespace Go.Proofs.YthnpiimiimiijaaGreatDoor.Dir
open Go Go.RowKit Go.Proofs Go.Proofs.YthnpiimiimiijaaGreatDoorW.PrintWords Go.Proofs.YthnpiimiimiijaaGreatDoorW.PrintLast Go.Proofs.YthnpiimiimiijaaGreatDoorW.PrintMore
set_option linter.unusedVariables false
set_option linter.unusedSimpArgs false
end Go.Proofs.YthnpiimiimiijaaGreatDoor.Dir
end
section
namespace Go.Proofs.YthnpiimiimiijaaGreatDoor.Dir
open Go Go.RowKit Go.Proofs Go.Proofs.YthnpiimiimiijaaGreatDoorW.PrintWords Go.Proofs.YthnpiimiimiijaaGreatDoorW.PrintLast Go.Proofs.YthnpiimiimiijaaGreatDoorW.PrintMore
set_option linter.unusedVariables false
set_option linter.unusedSimpArgs false
theorem src_byte {w W : World} {A : Option Addr} {n : Nat} {l : List UInt8} (h : SrcAt w A n 1 (l.map byteV)) (hb : Below w.heap.size w W) {j : Nat} {b : UInt8} (hj : l[j]? = some b) : ∃ g o, A = some ⟨g, o, none⟩ ∧ W.cell? ⟨g, o + j, none⟩ = some (byteV b) := by
 have hlt := (List.getElem?_eq_some_iff.1 hj).1
 have hl : l.length = n := by have := h.1; simpa using this
 cases hA : A with
 | none => exact absurd (h.2.1 hA) (by omega)
 | some a =>
  subst hA
  have h1 := h.2.2 a rfl j (byteV b) (by rw [List.getElem?_map, hj]; rfl)
  obtain ⟨g, o, sp⟩ := a
  cases sp with
  | none => exact ⟨g, o, rfl, by rw [add_at] at h1; exact (hb.cell (World.block_lt_of_cell? w _ h1)).trans h1⟩
  | some s =>
   have h0 := h.2.2 _ rfl 0 (byteV l[0]) (by rw [List.getElem?_map, List.getElem?_eq_getElem (by omega)]; rfl)
   have hn : w.cell? ((⟨g, o, some s⟩ : Addr).add 0) = none := by unfold World.cell?; split <;> rfl
   rw [hn] at h0
   cases h0
set_option maxHeartbeats 4000000 in
set_option maxRecDepth 100000 in
theorem eqb_same (l : List UInt8) (n : Nat) (hn : n = l.length) (A1 : Option Addr) (c1 : Nat) (A2 : Option Addr) (c2 : Nat) (w : World) (h1 : SrcAt w A1 l.length 1 (l.map byteV)) (h2 : SrcAt w A2 l.length 1 (l.map byteV)) (hl : l.length ≤ 4611686018427387904) :
  Calls Tryz.prog 32 #[.slice A1 n c1, .slice A2 n c2] w fun e w' => e = .returned (.bool true) ∧ Below w.heap.size w w' := by
 subst hn
 have H1 := Aside0.mk h1
 have H2 := Aside0.mk h2
 have HL := Aside0.mk hl
 clear h1 h2
 go_enter Tryz.func32, Tryz.ntmps32
 go_upto_region 4 with fail
 clear hl
 go_loopg [5] l.length (fun kx s5 wr => ∃ kk : Nat, s5 = .int .i64 kk ∧ kk + kx = l.length ∧ Aside0 (Below w.heap.size w wr))
 case atStart => exact ⟨0, rfl, by omega, ⟨Below.refl _ _⟩⟩
 case round =>
  obtain ⟨kk, rfl, hkk, BW⟩ := hrel
  have hl := HL.out
  by_cases hlt : kk < l.length
  ·have hltz : (kk : Int) < (l.length : Int) := by omega
   obtain ⟨b, hb⟩ : ∃ b, l[kk]? = some b := ⟨_, List.getElem?_eq_getElem hlt⟩
   obtain ⟨g1, o1, hA1, e1⟩ := src_byte H1.out BW.out hb
   obtain ⟨g2, o2, hA2, e2⟩ := src_byte H2.out BW.out hb
   subst hA1 hA2
   clear hb
   unfold byteV at e1 e2
   obtain ⟨ko, rfl⟩ : ∃ ko, gk = ko + 1 := ⟨gk - 1, by omega⟩
   go_wp2_with fail
   go_quiet (fail)
   have H6 := Aside0.mk (below_step BW.out (bdn (Below.refl _ _) nq))
   go_wp2_with fail
   go_roundg ko
   case measure => omega
   case rel => exact ⟨kk + 1, by go_num, by omega, H6⟩
  ·have hltz : ¬ (kk : Int) < (l.length : Int) := by omega
   go_wp2_with fail
   go_ret
   exact ⟨rfl, BW.out⟩
end Go.Proofs.YthnpiimiimiijaaGreatDoor.Dir
end
section
namespace Go.Proofs.YthnpiimiimiijaaGreatDoor.Dir
open Go Go.RowKit Go.Proofs Go.Proofs.YthnpiimiimiijaaGreatDoorW.PrintWords Go.Proofs.YthnpiimiimiijaaGreatDoorW.PrintLast Go.Proofs.YthnpiimiimiijaaGreatDoorW.PrintMore
set_option linter.unusedVariables false
set_option linter.unusedSimpArgs false
theorem bytesB_le {B : Book} (h : MayB B) : (bytesB B).length ≤ 10000 := by
 unfold bytesB midB
 rw [List.length_append, List.length_append, List.length_append, List.length_append, List.length_append, keysB_len, devsB_len, headB_len, beN_len, beN_len]
 have := acl_short h.2
 have h1 := h.1.few.1
 have h2 := h.1.few.2
 omega
def Said (B : Book) (ev : Int) (l : List UInt8) : Prop := (MayB B ∧ ev = 0 ∧ l = bytesB B) ∨ (¬ MayB B ∧ ev = 2 ∧ l = [])
theorem Said.le {B : Book} {ev : Int} {l : List UInt8} (h : Said B ev l) : l.length ≤ 10000 := by
 rcases h with ⟨h, -, rfl⟩ | ⟨-, -, rfl⟩
 ·exact bytesB_le h
 ·simp
theorem src_none {w : World} {size : Nat} : SrcAt w none 0 size [] := ⟨by simp, fun _ => rfl, fun a e => by cases e⟩
theorem BytesEnd.said {w w' : World} {B : Book} {e : Ending} {ev : Int} {l : List UInt8} (h : BytesEnd w w' B e) (s : Said B ev l) : ∃ A c, e = .returned (.tuple #[.slice A l.length c, .int .i64 ev]) ∧ SrcAt w' A l.length 1 (l.map byteV) := by
 rcases h with ⟨A, c, rfl, ho, hm⟩ | ⟨rfl, hm⟩ <;> rcases s with ⟨h, rfl, rfl⟩ | ⟨h, rfl, rfl⟩
 ·exact ⟨A, c, rfl, ho.src⟩
 ·exact absurd hm h
 ·exact absurd h hm
 ·exact ⟨none, 0, rfl, src_none⟩
theorem CheckEnd.said {B : Book} {e : Ending} {ev : Int} {l : List UInt8} (h : CheckEnd B e) (s : Said B ev l) : e = .returned (.int .i64 ev) := by
 rcases h with ⟨rfl, hm⟩ | ⟨rfl, hm⟩ <;> rcases s with ⟨h, rfl, rfl⟩ | ⟨h, rfl, rfl⟩
 ·rfl
 ·exact absurd ((may_ok B).1 hm) h
 ·exact absurd ((may_ok B).2 h) hm
 ·rfl
theorem RCheckEnd.said {B : Book} {e : Ending} {ev : Int} {l : List UInt8} (h : RCheckEnd B e) (s : Said B ev l) : e = .returned (.int .i64 ev) := by
 rcases h with ⟨rfl, hm⟩ | ⟨rfl, hm⟩ <;> rcases s with ⟨h, rfl, rfl⟩ | ⟨h, rfl, rfl⟩
 ·rfl
 ·exact absurd hm h
 ·exact absurd h hm
 ·rfl
structure ButW (g0 : Nat) (W W' : World) : Prop where
 size : W.heap.size ≤ W'.heap.size
 block : ∀ g, g < W.heap.size → g ≠ g0 → W'.heap[g]? = W.heap[g]?
theorem ButW.refl (g0 : Nat) (W : World) : ButW g0 W W := ⟨Nat.le_refl _, fun _ _ _ => rfl⟩
theorem ButW.below {g0 : Nat} {W W' W2 : World} (h : ButW g0 W W') (hb : Below W'.heap.size W' W2) : ButW g0 W W2 := ⟨Nat.le_trans h.size hb.size, fun g hg hn => (hb.block g (Nat.lt_of_lt_of_le hg h.size)).trans (h.block g hg hn)⟩
theorem ButW.set {g0 : Nat} {W W' : World} (h : ButW g0 W W') (cs : Array Value) : ButW g0 W (W'.setRow g0 cs) :=
 ⟨Nat.le_trans h.size (grownBy_setRow W' g0 cs).size, fun g hg hn => ((grownBy_setRow W' g0 cs).block g (Nat.lt_of_lt_of_le hg h.size) (fun e => hn (Option.some.inj e))).trans (h.block g hg hn)⟩
theorem ButW.cell {g0 : Nat} {W W' : World} {a : Addr} {v : Value} (h : ButW g0 W W') (hc : W.cell? a = some v) (hn : a.block ≠ g0) : W'.cell? a = some v := by
 have hlt := World.block_lt_of_cell? W a hc
 unfold World.cell? at hc ⊢
 rw [h.block a.block hlt hn]
 exact hc
theorem SrcAt.but {g0 : Nat} {W W' : World} {A : Option Addr} {n size : Nat} {xs : List Value} (h : SrcAt W A n size xs) (hb : ButW g0 W W') (ha : ∀ a, A = some a → a.block ≠ g0) : SrcAt W' A n size xs :=
 ⟨h.1, h.2.1, fun a e j u hj => hb.cell (h.2.2 a e j u hj) (by rw [add_block]; exact ha a e)⟩
theorem SrcB.but {g0 : Nat} {W W' : World} {B : Book} {A1 A2 : Option Addr} (h : SrcB W B A1 A2) (hb : ButW g0 W W') (h1 : ∀ a, A1 = some a → a.block ≠ g0) (h2 : ∀ a, A2 = some a → a.block ≠ g0) : SrcB W' B A1 A2 := ⟨h.devs.but hb h1, h.spent.but hb h2, h.few, h.len⟩
end Go.Proofs.YthnpiimiimiijaaGreatDoor.Dir
end
section
namespace Go.Proofs.YthnpiimiimiijaaGreatDoor.Dir
open Go Go.RowKit Go.Proofs Go.Proofs.YthnpiimiimiijaaGreatDoorW.PrintWords Go.Proofs.YthnpiimiimiijaaGreatDoorW.PrintLast Go.Proofs.YthnpiimiimiijaaGreatDoorW.PrintMore
set_option linter.unusedVariables false
set_option linter.unusedSimpArgs false
def natB (l : List UInt8) : Nat := l.foldl (fun n b => n * 256 + b.toNat) 0
theorem natB_snoc (l : List UInt8) (b : UInt8) : natB (l ++ [b]) = natB l * 256 + b.toNat := by simp [natB]
theorem natB_next {l : List UInt8} {j : Nat} {b : UInt8} (h : l[j]? = some b) : natB (l.take (j + 1)) = natB (l.take j) * 256 + b.toNat := by
 rw [List.take_add_one, h]
 exact natB_snoc _ _
theorem natB_lt (l : List UInt8) : natB l < 256 ^ l.length := by
 suffices h : ∀ n, n ≤ l.length → natB (l.take n) < 256 ^ n by
  have := h l.length (Nat.le_refl _)
  rwa [List.take_length] at this
 intro n
 induction n with
 | zero => intro _; simp [natB]
 | succ n ih =>
  intro hn
  have hb : l[n]? = some l[n] := List.getElem?_eq_getElem (by omega)
  rw [natB_next hb, Nat.pow_succ]
  have h1 := ih (by omega)
  have h2 := l[n].toNat_lt
  have : natB (l.take n) * 256 + 256 ≤ 256 ^ n * 256 := by
   rw [← Nat.succ_mul]
   exact Nat.mul_le_mul_right _ h1
  omega
theorem natB_zeros (k : Nat) (l : List UInt8) : natB (List.replicate k 0 ++ l) = natB l := by
 unfold natB
 rw [List.foldl_append]
 congr 1
 induction k with
 | zero => rfl
 | succ k ih => rw [List.replicate_succ, List.foldl_cons]; exact ih
structure RdAt (W : World) (br bs : Nat) (A : Option Addr) (n c pos : Nat) : Prop where
 rd : W.heap[br]? = some (.cells #[.pointer (some ⟨bs, 0, none⟩)] 159 (0, 0))
 sh : W.heap[bs]? = some (.cells #[.slice A n c, .int .i64 pos] 144 (0, 0))
theorem RdAt.later {W W' : World} {br bs : Nat} {A : Option Addr} {n c pos : Nat} (h : RdAt W br bs A n c pos) (hb : Below W.heap.size W W') : RdAt W' br bs A n c pos := ⟨room_at h.rd hb, room_at h.sh hb⟩
theorem RdAt.cells {W : World} {br bs : Nat} {A : Option Addr} {n c pos : Nat} (h : RdAt W br bs A n c pos) : W.cell? ⟨br, 0, none⟩ = some (.pointer (some ⟨bs, 0, none⟩)) ∧ W.cell? ⟨bs, 0, none⟩ = some (.slice A n c) ∧ W.cell? ⟨bs, 1, none⟩ = some (.int .i64 pos) ∧ W.frozen? ⟨bs, 1, none⟩ = false := by
 refine ⟨?_, ?_, ?_, frozen_of_heap h.sh⟩
 ·rw [cell_of_heap h.rd]; rfl
 ·rw [cell_of_heap h.sh]; rfl
 ·rw [cell_of_heap h.sh]; rfl
theorem none143 (br bs n c pos : Nat) (A : Option Addr) (w : World) (h : RdAt w br bs A n c pos) : Calls Tryz.prog 143 #[.pointer (some ⟨br, 0, none⟩)] w fun e w' => e = .returned (.bool false) ∧ w' = w := by
 obtain ⟨c1, -, -, -⟩ := h.cells
 clear h
 go_enter Tryz.func143, Tryz.ntmps143
 go_wp2
 go_ret
 exact ⟨rfl, rfl⟩
theorem und67 : Tryz.prog.underlying 67 = some (.slice (Tryz.prog.elem 67)) := by kernel_rfl
theorem siz67 (W : World) : (sizeOf (Tryz.prog.elem 67)).run Tryz.prog W = .ok 1 W := by rw [show Tryz.prog.elem 67 = 5 by kernel_rfl]; exact Tryz.sizeOf5 W
theorem slice67l (A : Option Addr) (n c lo : Nat) (h1 : lo ≤ n) (W : World) : (Instr.slice 67 (.slice A n c) (some (.int .i64 lo)) none none).run Tryz.prog W = .ok (.slice (if c = lo then A else A.map (·.add lo)) (n - lo) (c - lo)) W := by
 rw [run_slice_l W 67 A n c und67 .i64 lo (by omega) (by omega), siz67]
 simp [sliced]
theorem slice67h (A : Option Addr) (n c hi : Nat) (h2 : hi ≤ c) (W : World) : (Instr.slice 67 (.slice A n c) none (some (.int .i64 hi)) none).run Tryz.prog W = .ok (.slice A hi c) W := by
 rw [run_slice_h W 67 A n c und67 .i64 hi (by omega) (by omega), siz67]
 simp [sliced]
 intro _
 cases A with
 | none => rfl
 | some a => simp [Addr.add]
theorem src_slice {w : World} {A : Option Addr} {n c lo hi : Nat} {xs : List UInt8} (h : SrcAt w A n 1 (xs.map byteV)) (h1 : lo ≤ hi) (h2 : hi ≤ n) (h3 : n ≤ c) : SrcAt w (if c = lo then A else A.map (·.add lo)) (hi - lo) 1 (((xs.drop lo).take (hi - lo)).map byteV) := by
 have hl : xs.length = n := by have := h.1; simpa using this
 by_cases hc : c = lo
 ·rw [if_pos hc]
  have e : hi - lo = 0 := by omega
  rw [e]
  exact ⟨by simp, fun _ => rfl, fun a _ j u hj => by simp at hj⟩
 ·rw [if_neg hc]
  refine ⟨by simp; omega, fun e => ?_, fun a ha j u hj => ?_⟩
  ·cases A with
   | none => have := h.2.1 rfl; omega
   | some a => cases e
  ·cases A with
   | none => cases ha
   | some a0 =>
    cases ha
    have hj' : (xs.map byteV)[lo + j]? = some u := by
     rw [List.getElem?_map] at hj ⊢
     rw [List.getElem?_take] at hj
     split at hj
     ·rwa [List.getElem?_drop] at hj
     ·cases hj
    have := h.2.2 a0 rfl (lo + j) u hj'
    show w.cell? ((a0.add lo).add j) = _
    rw [Deep.add_add]
    exact this
set_option maxHeartbeats 4000000 in
theorem rest145 (bs n c pos : Nat) (A : Option Addr) (w : World) (h : w.heap[bs]? = some (.cells #[.slice A n c, .int .i64 pos] 144 (0, 0))) (hp : pos ≤ n) : Calls Tryz.prog 145 #[.pointer (some ⟨bs, 0, none⟩)] w fun e w' => e = .returned (.slice (if c = pos then A else A.map (·.add pos)) (n - pos) (c - pos)) ∧ Below w.heap.size w w' := by
 have k0 : w.cell? ⟨bs, 0, none⟩ = some (.slice A n c) := by rw [cell_of_heap h]; rfl
 have k1 : w.cell? ⟨bs, 1, none⟩ = some (.int .i64 pos) := by rw [cell_of_heap h]; rfl
 have hsl := slice67l A n c pos hp
 obtain ⟨A', hA'⟩ : ∃ A', A' = (if c = pos then A else A.map (·.add pos)) := ⟨_, rfl⟩
 rw [← hA'] at hsl ⊢
 clear h hp hA'
 go_enter Tryz.func145, Tryz.ntmps145
 go_wp2_with fail
 go_quiet (fail)
 have H6 := Aside0.mk (bdn (Below.refl w.heap.size w) nq)
 go_wp2_with fail
 go_ret
 exact ⟨rfl, H6.out⟩
def Rd (w : World) (base br : Nat) (r : List UInt8) : Prop := ∃ bs A c xs pos, RdAt w br bs A xs.length c pos ∧ OwnB w base A c xs ∧ pos ≤ xs.length ∧ r = xs.drop pos ∧ xs.length ≤ 140737488355328 ∧ base ≤ br ∧ base ≤ bs
theorem own_keptT {w w' : World} {base : Nat} {e : TypeId} {size n : Nat} {v : Value} {xs : List Value} {ts : List TypeId} (h : w.ownsRow base e size v n xs) (hk : KeptT ts w w') (he : e ∉ ts) : w'.ownsRow base e size v n xs := by
 refine ⟨h.1, ?_⟩
 rcases h.2 with h | ⟨g, cap, cur, h1, h2, h3, h4⟩
 ·exact .inl h
 ·exact .inr ⟨g, cap, cur, h1, h2, hk g _ _ _ h3 he, h4⟩
theorem Rd.kept {w w' : World} {base br : Nat} {r : List UInt8} {ts : List TypeId} (h : Rd w base br r) (hk : KeptT ts w w') (h1 : 159 ∉ ts) (h2 : 144 ∉ ts) (h3 : 5 ∉ ts) : Rd w' base br r := by
 obtain ⟨bs, A, c, xs, pos, ha, ho, hr⟩ := h
 exact ⟨bs, A, c, xs, pos, ⟨hk _ _ _ _ ha.rd h1, hk _ _ _ _ ha.sh h2⟩, own_keptT ho hk h3, hr⟩
theorem Rd.below {w w' : World} {base br : Nat} {r : List UInt8} (h : Rd w base br r) (hb : Below w.heap.size w w') : Rd w' base br r := h.kept (ts := []) (KeptT.below hb) (by simp) (by simp) (by simp)
theorem own_cap {w : World} {base : Nat} {A : Option Addr} {c : Nat} {xs : List UInt8} (h : OwnB w base A c xs) : xs.length ≤ c := by
 rcases h.2 with ⟨e, e2⟩ | ⟨g, cap, cur, e, -, -, h4, -⟩
 ·rw [e2]; exact Nat.zero_le _
 ·cases e; exact h4
theorem left112 (base br : Nat) (r : List UInt8) (w : World) (h : Rd w base br r) : Calls Tryz.prog 112 #[.pointer (some ⟨br, 0, none⟩)] w fun e w' => e = .returned (.int .i64 r.length) ∧ Below w.heap.size w w' := by
 obtain ⟨bs, A, c, xs, pos, ha, ho, hp, rfl, hl, hb1, hb2⟩ := h
 have hn := Aside0.mk (none143 br bs _ c pos A w ha)
 have hr := Aside0.mk (rest145 bs _ c pos A w ha.sh hp)
 obtain ⟨c1, -, -, -⟩ := ha.cells
 have e : (xs.drop pos).length = xs.length - pos := List.length_drop
 rw [e]
 obtain ⟨m, hm⟩ : ∃ m, m = xs.length - pos := ⟨_, rfl⟩
 rw [← hm] at hr ⊢
 generalize (if c = pos then A else A.map (·.add pos)) = A' at hr
 clear ha ho hp hl hb1 hb2 e hm
 go_enter Tryz.func112, Tryz.ntmps112
 go_upto_region 3 with (go_at_call 143; refine hn.out.mono ?_; rintro e w' ⟨rfl, rfl⟩)
 go_wp2_with (go_at_call 145; refine hr.out.mono ?_; rintro e w2 ⟨rfl, hb⟩)
 go_ret
 exact ⟨rfl, hb⟩
def NewEnd (w w' : World) (l : List UInt8) (e : Ending) : Prop := ∃ br, e = .returned (.pointer (some ⟨br, 0, none⟩)) ∧ Rd w' w.heap.size br l ∧ Below w.heap.size w w'
set_option maxHeartbeats 4000000 in
theorem new71 (l : List UInt8) (n : Nat) (hn : n = l.length) (A : Option Addr) (c : Nat) (w : World) (h : SrcAt w A l.length 1 (l.map byteV)) (hl : l.length ≤ 140737488355328) :
  Calls Tryz.prog 71 #[.slice A n c] w fun e w' => NewEnd w w' l e := by
 have hc := Aside0.mk (clone_bytes A n c l hn w h hl)
 have HL := Aside0.mk hl
 clear h hn hl
 go_enter Tryz.func71, Tryz.ntmps71
 go_wp2_with (go_at_call 100; refine hc.out.mono ?_; intro e w2 h5; obtain ⟨A', c', rfl, ho, hb⟩ := h5)
 obtain ⟨m, hm⟩ : ∃ m, m = l.length := ⟨_, rfl⟩
 have HM := Aside0.mk hm
 have HB := Aside0.mk hb
 have HO := Aside0.mk ho
 rw [← hm]
 clear hb ho hm
 go_wp2_with fail
 go_ret
 obtain ⟨bs, hbs⟩ : ∃ bs, bs = w2.heap.size := ⟨_, rfl⟩
 have q1 : (w2.alloc (.cells #[.slice A' m c', .int .i64 0] 144)).heap[bs]? = some (.cells #[.slice A' m c', .int .i64 0] 144 (0, 0)) := by rw [hbs]; exact heap_alloc_new w2 _
 have hb3 := (Below.refl w2.heap.size w2).alloc (Nat.le_refl _) (.cells #[.slice A' m c', .int .i64 0] 144)
 have q2 := heap_alloc_new (w2.alloc (.cells #[.slice A' m c', .int .i64 0] 144)) (.cells #[.pointer (some ⟨w2.heap.size, 0, none⟩)] 159)
 have hb4 := (Below.refl _ (w2.alloc (.cells #[.slice A' m c', .int .i64 0] 144))).alloc (Nat.le_refl _) (.cells #[.pointer (some ⟨w2.heap.size, 0, none⟩)] 159)
 refine ⟨_, rfl, ⟨bs, A', c', l, 0, ⟨by rw [hbs]; simpa using q2, by rw [← HM.out]; exact room_at q1 hb4⟩, (OwnB.below (OwnB.below HO.out hb3) hb4), Nat.zero_le _, rfl, HL.out, ?_, ?_⟩, below_step (below_step HB.out hb3) hb4⟩
 ·exact Nat.le_trans HB.out.size (by omega)
 ·rw [hbs]; exact HB.out.size
end Go.Proofs.YthnpiimiimiijaaGreatDoor.Dir
end
section
namespace Go.Proofs.YthnpiimiimiijaaGreatDoor.Dir
open Go Go.RowKit Go.Proofs Go.Proofs.YthnpiimiimiijaaGreatDoorW.PrintWords Go.Proofs.YthnpiimiimiijaaGreatDoorW.PrintLast Go.Proofs.YthnpiimiimiijaaGreatDoorW.PrintMore
set_option linter.unusedVariables false
set_option linter.unusedSimpArgs false
theorem index148 (l : List UInt8) (hl : l.length = 8) {j : Nat} {b : UInt8} (hj : l[j]? = some b) (W : World) : (Instr.index 148 (.agg (l.map byteV).toArray) (.int .i64 j)).run Tryz.prog W = .ok (.int .u8 (b.toNat : Int)) W := by
 have hlt : j < 8 := by have := (List.getElem?_eq_some_iff.1 hj).1; omega
 have e : ((l.map byteV).toArray)[j]? = some (.int .u8 (b.toNat : Int)) := by rw [List.getElem?_toArray, List.getElem?_map, hj]; rfl
 obtain ⟨h1, h2⟩ := Array.getElem?_eq_some_iff.1 e
 simp [Instr.index, asIntOf, run_underlying Tryz.underlying148, Tryz.sizeOf5, hlt, part, Tryz.isAgg5, hj, byteV]
set_option maxHeartbeats 4000000 in
theorem value164 (l : List UInt8) (hl : l.length = 8) (w : World) : Calls Tryz.prog 164 #[.agg (l.map byteV).toArray] w fun e w' => e = .returned (.int .u64 (natB l : Nat)) ∧ Below w.heap.size w w' := by
 obtain ⟨BA, hBA⟩ : ∃ BA, BA = (l.map byteV).toArray := ⟨_, rfl⟩
 obtain ⟨W0, hW0⟩ : ∃ W0, W0 = w.alloc (.cells BA 148) := ⟨_, rfl⟩
 obtain ⟨p, hp⟩ : ∃ p, p = w.heap.size := ⟨_, rfl⟩
 have q1 : W0.heap[p]? = some (.cells (l.map byteV).toArray 148 (0, 0)) := by rw [hW0, hp, hBA]; exact heap_alloc_new w _
 have B0 := Aside0.mk (show Below w.heap.size w W0 by rw [hW0]; exact (Below.refl _ w).alloc (Nat.le_refl _) _)
 have L0 := Aside0.mk (run_loadAtK Tryz.prog W0 148 8 Tryz.isAgg148 Tryz.sizeOf148 p 0 (l.map byteV) (by simp [hl]) (cells_of_heap q1))
 have HIX := Aside0.mk (fun (j : Nat) (b : UInt8) (hj : l[j]? = some b) (W : World) => index148 l hl hj W)
 rw [← hBA] at L0 HIX ⊢
 have HL := Aside0.mk hl
 obtain ⟨R, hR⟩ : ∃ R : Int, R = ((natB l : Nat) : Int) := ⟨_, rfl⟩
 rw [← hR]
 have HR := Aside0.mk hR
 clear hBA q1 hl hR
 go_enter Tryz.func164, Tryz.ntmps164
 go_upto_region 1 with fail
 rw [← hW0, ← hp]
 clear hW0 hp
 go_upto_region 2 with ((with_reducible refine at_load 148 (.tmp 1) ?_); refine wpList_loadK rfl 148 (.tmp 1) rfl _ rfl _ L0.out ?_)
 go_loopg [2, 6] 8 (fun kx s2 s6 wr => ∃ (kk n : Nat), s2 = .int .u64 (n : Int) ∧ s6 = .int .i64 kk ∧ kk + kx = 8 ∧ (kk < 8 → n < 72057594037927936) ∧ Aside0 (wr = W0 ∧ n = natB (l.take kk)))
 case atStart => exact ⟨0, 0, rfl, rfl, by omega, fun _ => by decide, ⟨rfl, by simp [natB]⟩⟩
 case round =>
  obtain ⟨kk, n, rfl, rfl, hkk, hn, HT⟩ := hrel
  obtain rfl := HT.out.1
  by_cases hlt : kk < 8
  ·have hltz : (kk : Int) < 8 := by omega
   have hn := hn hlt
   obtain ⟨b, hb⟩ : ∃ b, l[kk]? = some b := ⟨_, List.getElem?_eq_getElem (by rw [HL.out]; exact hlt)⟩
   have hix := HIX.out kk b hb
   have HN := Aside0.mk (natB_next hb)
   have HNL := Aside0.mk (show kk + 1 < 8 → natB (l.take (kk + 1)) < 72057594037927936 from fun h => by
    have h1 := natB_lt (l.take (kk + 1))
    rw [List.length_take, HL.out, Nat.min_eq_left (by omega)] at h1
    exact Nat.lt_of_lt_of_le h1 (Nat.le_trans (Nat.pow_le_pow_right (by decide) (show kk + 1 ≤ 7 by omega)) (by decide)))
   have hb8 : (b.toNat : Int) < 256 := by have := b.toNat_lt; omega
   obtain ⟨x, hx⟩ : ∃ x : Nat, x = b.toNat := ⟨_, rfl⟩
   rw [← hx] at hix hb8 HN
   clear hb hx
   obtain ⟨ko, rfl⟩ : ∃ ko, gk = ko + 1 := ⟨gk - 1, by omega⟩
   go_wp2_with fail
   go_roundg ko
   case measure => omega
   case rel =>
    refine ⟨kk + 1, natB (l.take (kk + 1)), ?_, by go_num, by omega, HNL.out, ⟨rfl, rfl⟩⟩
    rw [HN.out, ← HT.out.2]
    congr 1 <;> omega
  ·have hltz : ¬ (kk : Int) < 8 := by omega
   have : kk = 8 := by omega
   subst this
   go_wp2_with fail
   go_ret
   refine ⟨?_, B0.out⟩
   have e := HT.out.2
   rw [List.take_of_length_le (by rw [HL.out]; exact Nat.le_refl _)] at e
   rw [HR.out, ← e]
   rfl
end Go.Proofs.YthnpiimiimiijaaGreatDoor.Dir
end
section
namespace Go.Proofs.YthnpiimiimiijaaGreatDoor.Dir
open Go Go.RowKit Go.Proofs Go.Proofs.YthnpiimiimiijaaGreatDoorW.PrintWords Go.Proofs.YthnpiimiimiijaaGreatDoorW.PrintLast Go.Proofs.YthnpiimiimiijaaGreatDoorW.PrintMore
set_option linter.unusedVariables false
set_option linter.unusedSimpArgs false
theorem runs_copy {P : Program} {w w1 : World} (dT sT : TypeId) (d s : Operand) (o : Oper) (ho : o.op = .call { callee := .builtin .copy, args := #[d, s], argTypes := #[dT, sT] }) (a : Act) (v1 v2 v : Value) (ed : a.eval d = v1) (es : a.eval s = v2)
  (hr : (Builtin.copy_ #[dT, sT] o.type #[v1, v2]).run P w = .ok v w1) : (execOp a.eval o).run P w = .ok (.value v) w1 := by
 unfold execOp
 simp only [ho, resolve, invoke, builtin, Sem.run_bind, Sem.run_pure, Result.andThen_ok, List.map_toArray, List.map_cons, List.map_nil, ed, es, hr]
def GetEnd (w w' : World) (base br s : Nat) (r : List UInt8) (e : Ending) : Prop :=
 (r.length < s ∧ e = .returned (.tuple #[.int .i64 0, .int .i64 3]) ∧ Below w.heap.size w w') ∨ (s ≤ r.length ∧ e = .returned (.tuple #[.int .i64 (natB (r.take s) : Nat), .int .i64 0]) ∧ Rd w' base br (r.drop s) ∧ Below base w w' ∧ KeptT [144] w w')
theorem row8 (s : Nat) (hs : s ≤ 8) (cs : List UInt8) (hc : cs.length = s) : (((List.replicate 8 (Value.int .u8 0)).toArray.toList.take (8 - s) ++ cs.map byteV ++ (List.replicate 8 (Value.int .u8 0)).toArray.toList.drop (8 - s + (cs.map byteV).length)).toArray : Array Value) = ((List.replicate (8 - s) 0 ++ cs).map byteV).toArray := by
 congr 1
 rw [List.map_append, List.map_replicate, List.length_map, hc, show 8 - s + s = 8 by omega]
 show List.take (8 - s) (List.replicate 8 (Value.int .u8 0)) ++ cs.map byteV ++ List.drop 8 (List.replicate 8 (Value.int .u8 0)) = _
 rw [List.take_replicate, Nat.min_eq_left (by omega), List.drop_replicate, Nat.sub_self, List.replicate_zero, List.append_nil]
 rfl
theorem sizeB : (Tryz.prog.info? 5).map (·.size) = some 1 := by kernel_rfl
theorem rd_step {w w7 : World} {base br bs c pos s : Nat} {A : Option Addr} {xs : List UInt8} (ha : RdAt w br bs A xs.length c pos) (ho : OwnB w base A c xs) (hl : xs.length ≤ 140737488355328) (hb1 : base ≤ br) (hb2 : base ≤ bs) (hps : pos + s ≤ xs.length) (hb : Below w.heap.size w w7) (hbase : base ≤ w.heap.size) :
  Rd (w7.setCell ⟨bs, 1, none⟩ (.int .i64 ((pos + s : Nat) : Int))) base br ((xs.drop pos).drop s) ∧ Below base w (w7.setCell ⟨bs, 1, none⟩ (.int .i64 ((pos + s : Nat) : Int))) ∧ KeptT [144] w (w7.setCell ⟨bs, 1, none⟩ (.int .i64 ((pos + s : Nat) : Int))) := by
 have ha7 := ha.later hb
 have ho7 := ho.below hb
 refine ⟨⟨bs, A, c, xs, pos + s, ⟨?_, ?_⟩, own_setCellT ho7 ha7.sh (by decide) _, hps, by rw [List.drop_drop], hl, hb1, hb2⟩, (hb.mono hbase).setCell hb2 _, (KeptT.below hb).trans (KeptT.setCell ha7.sh (by decide) _)⟩
 ·rw [Below.heap_setCell _ _ _ _ (fun e => ?_)]
  ·exact ha7.rd
  ·have h1 := ha7.rd
   have h2 := ha7.sh
   rw [e] at h1
   rw [h1] at h2
   cases h2
 ·rw [heap_setCell_same w7 bs 1 _ _ _ ha7.sh]
  rfl
set_option maxHeartbeats 4000000 in
set_option maxRecDepth 100000 in
theorem get141 (base br s : Nat) (r : List UInt8) (w : World) (h : Rd w base br r) (hs1 : 1 ≤ s) (hs7 : s ≤ 7) :
  Calls Tryz.prog 141 #[.pointer (some ⟨br, 0, none⟩), .int .i64 s] w fun e w' => GetEnd w w' base br s r e := by
 have hlf := Aside0.mk (left112 base br r w h)
 obtain ⟨bs, A, c, xs, pos, ha, ho, hpos, hr, hxl, hb1, hb2⟩ := h
 have hn := Aside0.mk (none143 br bs _ c pos A w ha)
 have hbase : base ≤ w.heap.size := Nat.le_trans hb1 (Nat.le_of_lt (Array.getElem?_eq_some_iff.1 ha.rd).1)
 have hcap := own_cap ho
 have hrl : r.length = xs.length - pos := by rw [hr]; exact List.length_drop
 have HA := Aside0.mk (And.intro ha ho)
 have HB := Aside0.mk (And.intro hxl (And.intro hb1 (And.intro hb2 hbase)))
 have HR := Aside0.mk (And.intro hr hrl)
 have HC := Aside0.mk (And.intro hpos hcap)
 have i1 : (1 : Int) ≤ (s : Int) := by omega
 have i7 : (s : Int) ≤ 7 := by omega
 obtain ⟨n, hn0⟩ : ∃ n, n = xs.length := ⟨_, rfl⟩
 have HN := Aside0.mk hn0
 obtain ⟨rl, hrl0⟩ : ∃ rl, rl = r.length := ⟨_, rfl⟩
 rw [← hrl0] at hlf
 have HRL := Aside0.mk hrl0
 have HSH := Aside0.mk (show w.heap[bs]? = some (.cells #[.slice A n c, .int .i64 pos] 144 (0, 0)) by rw [hn0]; exact ha.sh)
 have HRD := Aside0.mk ha.rd
 by_cases hlt : rl < s
 ·have hltz : (rl : Int) < (s : Int) := by omega
  have HLT := Aside0.mk (show r.length < s by omega)
  clear ha ho hpos hr hxl hb1 hb2 hbase hcap hrl hn0 hrl0 hlt
  go_enter Tryz.func141, Tryz.ntmps141
  go_upto_region 5 with (go_at_call 143; refine hn.out.mono ?_; rintro e w' ⟨rfl, rfl⟩)
  go_wp2_with (go_at_call 112; refine hlf.out.mono ?_; rintro e w2 ⟨rfl, hb⟩)
  go_ret2
  exact .inl ⟨HLT.out, rfl, hb⟩
 ·have hltz : ¬ (rl : Int) < (s : Int) := by omega
  have HLT := Aside0.mk (show s ≤ r.length by omega)
  clear ha ho hpos hr hxl hb1 hb2 hbase hcap hrl hn0 hrl0 hlt
  go_enter Tryz.func141, Tryz.ntmps141
  go_upto_region 5 with (go_at_call 143; refine hn.out.mono ?_; rintro e w' ⟨rfl, rfl⟩)
  go_upto_region 7 with (go_at_call 112; refine hlf.out.mono ?_; rintro e w2 ⟨rfl, hb⟩)
  obtain ⟨p, hp⟩ : ∃ p, p = w2.heap.size := ⟨_, rfl⟩
  obtain ⟨w3, hw3⟩ : ∃ w3, w3 = w2.alloc (.cells #[.int .u8 0, .int .u8 0, .int .u8 0, .int .u8 0, .int .u8 0, .int .u8 0, .int .u8 0, .int .u8 0] 148) := ⟨_, rfl⟩
  have HB3 := Aside0.mk (show Below w'.heap.size w' w3 by rw [hw3]; exact hb.alloc hb.size _)
  have HP3 := Aside0.mk (show w3.heap[p]? = some (.cells (List.replicate 8 (Value.int .u8 0)).toArray 148 (0, 0)) by rw [hw3, hp]; exact heap_alloc_new w2 _)
  have HPP := Aside0.mk (show w'.heap.size ≤ p by rw [hp]; exact hb.size)
  clear hb
  go_upto_region 8 with fail
  rw [← hw3, ← hp]
  clear hw3 hp hlf hn
  have hsh : ∀ W, (Instr.sliceAt 148 (.pointer (some ⟨p, 0, none⟩)) (some (.int .i64 (8 - (s : Int)))) none none).run Tryz.prog W = .ok (.slice (some ⟨p, 8 - s, none⟩) s s) W := fun W => by
   rw [run_sliceAt_array_l W 148 ⟨p, 0, none⟩ Tryz.underlying148 .i64 (8 - (s : Int)) (by omega) (by rw [len148]; omega)]
   go_simp
   exact ⟨fun e => by omega, by omega⟩
  have hsw : ∀ W, (Instr.sliceAt 148 (.pointer (some ⟨p, 0, none⟩)) (some (.int .i64 (Go.RowKit.wrap64 (8 - (s : Int))))) none none).run Tryz.prog W = .ok (.slice (some ⟨p, 8 - s, none⟩) s s) W := fun W => by
   rw [show Go.RowKit.wrap64 (8 - (s : Int)) = 8 - (s : Int) by unfold Go.RowKit.wrap64; omega]
   exact hsh W
  have HAD := Aside0.mk (show ∃ ad, (if c = pos then A else A.map (·.add pos)) = some ad by
   have h1 := HLT.out
   have h2 := HR.out.2
   have h3 := HC.out
   have h4 := HN.out
   rw [if_neg (by omega)]
   cases A with
   | none => have := (OwnB.src HA.out.2).2.1 rfl; omega
   | some a => exact ⟨_, rfl⟩)
  have HCP := Aside0.mk (show ∀ ad, (if c = pos then A else A.map (·.add pos)) = some ad → ∀ W, Below w3.heap.size w3 W → (Builtin.copy_ #[67, 67] 3 #[.slice (some ⟨p, 8 - s, none⟩) s s, .slice (some ad) (n - pos) (c - pos)]).run Tryz.prog W = .ok (goInt s) (W.setRow p ((List.replicate (8 - s) 0 ++ r.take s).map byteV).toArray) from fun ad had W hb => by
   have h1 := HLT.out
   have h2 := HR.out.2
   have h3 := HC.out
   have h4 := HN.out
   have hsrc := src_slice (c := c) (lo := pos) (hi := xs.length) (HA.out.2.src.grown (below_step HB3.out hb)) (by omega) (by omega) (by omega)
   rw [had] at hsrc
   have hlen : ((r.take s).map byteV).length = s := by rw [List.length_map, List.length_take]; omega
   have := run_copy_row (P := Tryz.prog) W 67 67 3 5 p (8 - s) s s ad (n - pos) (c - pos) _ 148 ((r.take s).map byteV) Tryz.underlying67 sizeB (room_at HP3.out hb) (by rw [hlen]; exact (Nat.min_eq_right (by omega)).symm) (fun j v hj => by
    refine hsrc.2.2 ad rfl j v ?_
    have hj2 : j < s := by have := (List.getElem?_eq_some_iff.1 hj).1; omega
    rw [List.getElem?_map] at hj ⊢
    rw [List.getElem?_take_of_lt hj2, HR.out.1] at hj
    rw [List.getElem?_take_of_lt (by omega)]
    exact hj) (by rw [hlen]; simp; omega) (bytes_one _)
   rw [hlen] at this
   rw [this]
   congr 2
   have h8 := row8 s (by omega) (r.take s) (by rw [List.length_take]; omega)
   rw [hlen] at h8
   exact h8)
  refine start_ (n := 9) (S := fun W => Below w3.heap.size w3 W) (ds := [8]) #[false, false, false, false, false, false, false, false, false] (by kernel_rfl) rfl rfl ((Below.refl _ w3).drew) (fun hHeld => ?_)
  generalize World.drew _ = w5 at hHeld ⊢
  refine pure_ (i := 0) (N := (some 20)) (v := ?_) (a' := ?_) #[true, false, false, false, false, false, false, false, false] rfl rfl (by kernel_rfl) (fun _ _ _ h => h) (Or.inl ⟨by rfl, ?_⟩) ?_ ?_
  rotate_left
  ·intro w'
   go_simp
   with_reducible rfl
  rotate_left
  ·simp only [Act.put, List.setIfInBounds_toArray, List.set_cons_zero, List.set_cons_succ, i64_w, i32_w]
   rfl
  refine pure_ (i := 1) (N := (some 21)) (v := ?_) (a' := ?_) #[true, true, false, false, false, false, false, false, false] rfl rfl (by kernel_rfl) (fun _ _ _ h => h) (Or.inl ⟨by rfl, ?_⟩) ?_ ?_
  rotate_left
  ·intro w'
   go_simp
   with_reducible rfl
  rotate_left
  ·simp only [Act.put, List.setIfInBounds_toArray, List.set_cons_zero, List.set_cons_succ, i64_w, i32_w]
   rfl
  refine pure_ (i := 2) (N := (some 22)) (v := ?_) (a' := ?_) #[true, true, true, false, false, false, false, false, false] rfl rfl (by kernel_rfl) (fun _ _ _ h => h) (Or.inl ⟨by rfl, ?_⟩) ?_ ?_
  rotate_left
  ·intro w'
   go_simp
   with_reducible rfl
  rotate_left
  ·simp only [Act.put, List.setIfInBounds_toArray, List.set_cons_zero, List.set_cons_succ, i64_w, i32_w]
   rfl
  refine pure_ (i := 3) (N := (some 23)) (v := ?_) (a' := ?_) #[true, true, true, true, false, false, false, false, false] rfl rfl (by kernel_rfl) (fun _ _ _ h => h) (Or.inl ⟨by rfl, ?_⟩) ?_ ?_
  rotate_left
  ·intro w'
   go_simp
   with_reducible rfl
  rotate_left
  ·simp only [Act.put, List.setIfInBounds_toArray, List.set_cons_zero, List.set_cons_succ, i64_w, i32_w]
   rfl
  refine pure_ (i := 4) (N := (some 24)) (v := ?_) (a' := ?_) #[true, true, true, true, true, false, false, false, false] rfl rfl (by kernel_rfl) (fun _ _ _ h => h) (Or.inl ⟨by rfl, ?_⟩) ?_ ?_
  rotate_left
  ·intro w'
   go_simp
   with_reducible rfl
  rotate_left
  ·simp only [Act.put, List.setIfInBounds_toArray, List.set_cons_zero, List.set_cons_succ, i64_w, i32_w]
   rfl
  refine pure_ (i := 5) (N := (some 25)) (v := ?_) (a' := ?_) #[true, true, true, true, true, true, false, false, false] rfl rfl (by kernel_rfl) (fun _ _ _ h => h) (Or.inl ⟨by rfl, ?_⟩) ?_ ?_
  rotate_left
  ·intro w'
   go_simp
   with_reducible rfl
  rotate_left
  ·simp only [Act.put, List.setIfInBounds_toArray, List.set_cons_zero, List.set_cons_succ, i64_w, i32_w]
   rfl
  refine take_ (i := 6) (N := (some 26)) (v := ?_) (a' := ?_) #[true, true, true, true, true, true, true, false, false] rfl rfl (by kernel_rfl) (fun _ _ _ h => h) (Or.inl ⟨by rfl, ?_⟩) hHeld ?_ ?_
  rotate_left
  ·rintro w' hs
   have s0 : w'.cell? ⟨br, 0, none⟩ = some (.pointer (some ⟨bs, 0, none⟩)) := by rw [cell_of_heap (room_at (room_at HRD.out HB3.out) hs)]; rfl
   go_simp
   with_reducible rfl
  rotate_left
  ·simp only [Act.put, List.setIfInBounds_toArray, List.set_cons_zero, List.set_cons_succ, i64_w, i32_w]
   rfl
  refine one_ (i := 7) (N := (some 27)) #[true, true, true, true, true, true, true, true, false] rfl rfl (by kernel_rfl) (by decide) (fun K hK => ?_)
  refine goes_ Tryz.func145 (by kernel_rfl) rfl #[.pointer (some ⟨bs, 0, none⟩)] (by rfl) rfl rfl (by (try simp only [List.map_toArray, List.map_cons, List.map_nil]); first | done | rfl) ?_
  refine (rest145 bs n c pos A w5 (room_at (room_at HSH.out HB3.out) hHeld) (by have := HC.out.1; have := HN.out; omega)).mono ?_
  rintro e w5c ⟨rfl, hb⟩
  refine ⟨_, rfl, ?_⟩
  have hS_ := below_step hHeld hb
  clear hb
  refine hK.out _ _ hS_ (fun hHeld => ?_)
  clear hK K
  refine norm_ (a' := ?_) ?_ ?_
  rotate_left
  ·show Act.put _ (some 27) _ = _
   simp only [Act.put, List.setIfInBounds_toArray, List.set_cons_zero, List.set_cons_succ, i64_w, i32_w]
   rfl
  obtain ⟨ad, had⟩ : ∃ ad, (if c = pos then A else A.map (·.add pos)) = some ad := HAD.out
  rw [had]
  have hcp := HCP.out ad had w5c hHeld
  refine last_ (i := 8) (N := (some 28)) #[true, true, true, true, true, true, true, true, true] rfl rfl (by kernel_rfl) (by decide) (fun K hK => ?_)
  refine value_ (v := goInt s) (w1 := w5c.setRow p ((List.replicate (8 - s) 0 ++ r.take s).map byteV).toArray) (by rfl) rfl ?_ ?_
  ·exact runs_copy 67 67 (.tmp 22) (.tmp 27) _ rfl _ (.slice (some ⟨p, 8 - s, none⟩) s s) (.slice (some ad) (n - pos) (c - pos)) _ rfl rfl hcp
  skip
  refine hK.out _ _ ?_
  clear hK K
  refine norm_ (a' := ?_) ?_ ?_
  rotate_left
  ·show Act.put _ (some 28) _ = _
   simp only [Act.put, List.setIfInBounds_toArray, List.set_cons_zero, List.set_cons_succ, i64_w, i32_w]
   rfl
  refine done_ (by kernel_rfl) ?_
  obtain ⟨L8, hL8⟩ : ∃ L8, L8 = List.replicate (8 - s) 0 ++ r.take s := ⟨_, rfl⟩
  rw [← hL8]
  have HL8 := Aside0.mk (show L8.length = 8 ∧ natB L8 = natB (r.take s) by
   rw [hL8]
   exact ⟨by rw [List.length_append, List.length_replicate, List.length_take]; have := HLT.out; omega, natB_zeros _ _⟩)
  obtain ⟨w6, hw6⟩ : ∃ w6, w6 = w5c.setRow p (L8.map byteV).toArray := ⟨_, rfl⟩
  have HP6 := Aside0.mk (show w6.heap[p]? = some (.cells (L8.map byteV).toArray 148 (0, 0)) by rw [hw6]; exact setRow_heap w5c p _ _ 148 (0, 0) (room_at HP3.out hHeld))
  have HB6 := Aside0.mk (show Below w'.heap.size w' w6 by rw [hw6]; exact below_setRow (below_step HB3.out hHeld) HPP.out _)
  have LD := Aside0.mk (run_loadAtK Tryz.prog w6 148 8 Tryz.isAgg148 Tryz.sizeOf148 p 0 (L8.map byteV) (by rw [List.length_map]; exact HL8.out.1) (cells_of_heap HP6.out))
  have hv := Aside0.mk (value164 L8 HL8.out.1 w6)
  rw [← hw6]
  obtain ⟨BA, hBA⟩ : ∃ BA, BA = (L8.map byteV).toArray := ⟨_, rfl⟩
  rw [← hBA] at LD hv
  obtain ⟨nv, hnv⟩ : ∃ nv, nv = natB L8 := ⟨_, rfl⟩
  rw [← hnv] at hv
  have HNV := Aside0.mk (hnv.trans HL8.out.2)
  have hnv7 : nv < 72057594037927936 := by
   rw [HNV.out]
   have h1 := natB_lt (r.take s)
   refine Nat.lt_of_lt_of_le h1 (Nat.le_trans (Nat.pow_le_pow_right (by decide) (show (r.take s).length ≤ 7 by rw [List.length_take]; omega)) (by decide))
  have hdv : (nv : Int) / 9223372036854775808 = 0 := by omega
  clear hL8 hw6 hBA hnv hHeld had hcp hsh hsw
  go_upto_region 10 with (first | ((with_reducible refine at_load 148 (.tmp 6) ?_); refine wpList_loadK rfl 148 (.tmp 6) rfl _ rfl _ LD.out ?_) | (go_at_call 164; refine hv.out.mono ?_; rintro e w7 ⟨rfl, hb7⟩))
  have HB7 := Aside0.mk (below_step HB6.out hb7)
  clear hb7
  have hps : pos + s ≤ 140737488355328 := by have h1 := HLT.out; have h2 := HR.out.2; have h3 := HC.out; have h4 := HB.out; omega
  obtain ⟨d1, d2, d3, d4⟩ := (RdAt.mk (room_at HRD.out HB7.out) (room_at HSH.out HB7.out)).cells
  trace_state
  go_wp2_with fail
  go_ret2
  have hst := rd_step (s := s) HA.out.1 HA.out.2 HB.out.1 HB.out.2.1 HB.out.2.2.1 (by have h1 := HLT.out; have h2 := HR.out.2; have h3 := HC.out; omega) HB7.out HB.out.2.2.2
  refine .inr ⟨HLT.out, by rw [← HNV.out]; rfl, ?_⟩
  rw [HR.out.1]
  exact hst
end Go.Proofs.YthnpiimiimiijaaGreatDoor.Dir
end
section
namespace Go.Proofs.YthnpiimiimiijaaGreatDoor.Dir
open Go Go.RowKit Go.Proofs Go.Proofs.YthnpiimiimiijaaGreatDoorW.PrintWords Go.Proofs.YthnpiimiimiijaaGreatDoorW.PrintLast Go.Proofs.YthnpiimiimiijaaGreatDoorW.PrintMore
set_option linter.unusedVariables false
set_option linter.unusedSimpArgs false
def TakeEnd (w w' : World) (base br k : Nat) (r : List UInt8) (e : Ending) : Prop :=
 (r.length < k ∧ e = .returned (.tuple #[.slice none 0 0, .int .i64 3]) ∧ Below w.heap.size w w') ∨ (k ≤ r.length ∧ ∃ A c, e = .returned (.tuple #[.slice A k c, .int .i64 0]) ∧ OwnB w' w.heap.size A c (r.take k) ∧ Rd w' base br (r.drop k) ∧ Below base w w' ∧ KeptT [144] w w')
set_option maxHeartbeats 4000000 in
set_option maxRecDepth 100000 in
theorem take142 (base br k : Nat) (r : List UInt8) (w : World) (h : Rd w base br r) :
  Calls Tryz.prog 142 #[.pointer (some ⟨br, 0, none⟩), .int .i64 k] w fun e w' => TakeEnd w w' base br k r e := by
 have hlf := Aside0.mk (left112 base br r w h)
 obtain ⟨bs, A, c, xs, pos, ha, ho, hpos, hr, hxl, hb1, hb2⟩ := h
 have hn := Aside0.mk (none143 br bs _ c pos A w ha)
 have hbase : base ≤ w.heap.size := Nat.le_trans hb1 (Nat.le_of_lt (Array.getElem?_eq_some_iff.1 ha.rd).1)
 have hcap := own_cap ho
 have hrl : r.length = xs.length - pos := by rw [hr]; exact List.length_drop
 have HA := Aside0.mk (And.intro ha ho)
 have HB := Aside0.mk (And.intro hxl (And.intro hb1 (And.intro hb2 hbase)))
 have HR := Aside0.mk (And.intro hr hrl)
 have HC := Aside0.mk (And.intro hpos hcap)
 obtain ⟨n, hn0⟩ : ∃ n, n = xs.length := ⟨_, rfl⟩
 have HN := Aside0.mk hn0
 obtain ⟨rl, hrl0⟩ : ∃ rl, rl = r.length := ⟨_, rfl⟩
 rw [← hrl0] at hlf
 have HRL := Aside0.mk hrl0
 have HSH := Aside0.mk (show w.heap[bs]? = some (.cells #[.slice A n c, .int .i64 pos] 144 (0, 0)) by rw [hn0]; exact ha.sh)
 have HRD := Aside0.mk ha.rd
 have k0 : ¬ (k : Int) < 0 := by omega
 by_cases hlt : rl < k
 ·have hltz : (rl : Int) < (k : Int) := by omega
  have HLT := Aside0.mk (show r.length < k by omega)
  clear ha ho hpos hr hxl hb1 hb2 hbase hcap hrl hn0 hrl0 hlt
  go_enter Tryz.func142, Tryz.ntmps142
  go_upto_region 5 with (go_at_call 143; refine hn.out.mono ?_; rintro e w' ⟨rfl, rfl⟩)
  go_wp2_with (go_at_call 112; refine hlf.out.mono ?_; rintro e w2 ⟨rfl, hb⟩)
  go_ret2
  exact .inl ⟨HLT.out, rfl, hb⟩
 ·have hltz : ¬ (rl : Int) < (k : Int) := by omega
  have HLT := Aside0.mk (show k ≤ r.length by omega)
  clear ha ho hpos hr hxl hb1 hb2 hbase hcap hrl hn0 hrl0 hlt
  go_enter Tryz.func142, Tryz.ntmps142
  go_upto_region 5 with (go_at_call 143; refine hn.out.mono ?_; rintro e w' ⟨rfl, rfl⟩)
  go_upto_region 7 with (go_at_call 112; refine hlf.out.mono ?_; rintro e w2 ⟨rfl, hb⟩)
  have HB2 := Aside0.mk hb
  clear hb hlf hn
  have hrs := Aside0.mk (rest145 bs n c pos A w2 (room_at HSH.out HB2.out) (by have := HC.out.1; have := HN.out; omega))
  obtain ⟨d1, d2, d3, d4⟩ := (RdAt.mk (room_at HRD.out HB2.out) (room_at HSH.out HB2.out)).cells
  obtain ⟨A', hA'⟩ : ∃ A', A' = (if c = pos then A else A.map (·.add pos)) := ⟨_, rfl⟩
  have HA' := Aside0.mk hA'
  rw [← hA'] at hrs
  clear hA'
  have hsl := slice67h A' (n - pos) (c - pos) k (by have h1 := HLT.out; have h2 := HR.out.2; have h3 := HC.out; have h4 := HN.out; omega)
  have HTK := Aside0.mk (show (r.take k).length = k by rw [List.length_take]; have := HLT.out; omega)
  have HCL := Aside0.mk (fun (W : World) (hb : Below w2.heap.size w2 W) => ((clone_bytes A' k (c - pos) (r.take k) (by rw [List.length_take]; have := HLT.out; omega) W (by
   have h1 := HLT.out
   have h2 := HR.out.2
   have h3 := HC.out
   have h4 := HN.out
   have := src_slice (c := c) (lo := pos) (hi := pos + k) (HA.out.2.src.grown (below_step HB2.out hb)) (by omega) (by omega) (by omega)
   rw [← HA'.out, show pos + k - pos = k by omega, ← HR.out.1] at this
   rw [List.length_take, Nat.min_eq_left h1]
   exact this) (by rw [List.length_take]; have h1 := HR.out.2; have := HB.out.1; omega)).mono fun e w' hh => (by
   obtain ⟨A9, c9, rfl, h1, h2⟩ := hh
   rw [HTK.out]
   exact ⟨A9, c9, rfl, h1, h2⟩ : ∃ A9 c9, e = .returned (.slice A9 k c9) ∧ OwnB w' W.heap.size A9 c9 (r.take k) ∧ Below W.heap.size W w')))
  go_upto_region 8 with (first | (go_at_call 145; refine hrs.out.mono ?_; rintro e w3 ⟨rfl, hb3⟩) | (go_at_call 100; refine (HCL.out _ hb3).mono ?_; intro e w4 h5; obtain ⟨A9, c9, rfl, ho9, hb9⟩ := h5))
  have HO9 := Aside0.mk ho9
  have HB9 := Aside0.mk (below_step HB2.out (below_step hb3 hb9))
  have HW := Aside0.mk (show w'.heap.size ≤ w3.heap.size from Nat.le_trans HB2.out.size hb3.size)
  clear ho9 hb9 hb3 hrs hsl d1 d2 d3 d4
  obtain ⟨d1, d2, d3, d4⟩ := (RdAt.mk (room_at HRD.out HB9.out) (room_at HSH.out HB9.out)).cells
  have hps : pos + k ≤ 140737488355328 := by have h1 := HLT.out; have h2 := HR.out.2; have h3 := HC.out; have h4 := HB.out; omega
  go_wp2_with fail
  go_ret2
  obtain ⟨r1, r2, r3⟩ := rd_step (s := k) HA.out.1 HA.out.2 HB.out.1 HB.out.2.1 HB.out.2.2.1 (by have h1 := HLT.out; have h2 := HR.out.2; have h3 := HC.out; omega) HB9.out HB.out.2.2.2
  refine .inr ⟨HLT.out, A9, c9, rfl, ?_, ?_, r2, r3⟩
  ·have h1 := own_weaken HO9.out HW.out
   exact own_setCellT h1 (room_at HSH.out HB9.out) (by decide) _
  ·rw [HR.out.1]; exact r1
end Go.Proofs.YthnpiimiimiijaaGreatDoor.Dir
end
