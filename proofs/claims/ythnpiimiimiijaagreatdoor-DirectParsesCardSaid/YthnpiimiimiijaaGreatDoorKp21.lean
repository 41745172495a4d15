/- The law DirectChecks. Readers: plain; the program's reader: none, rest, Left, New, value. The program's reader: value, Get. The program's reader: Get. The program's reader: Bytes. The program's reader: Octets, and its deferred literal. -/
import Derived.Test.YthnpiimiimiijaaGreatDoorKp20
section
namespace Go.Proofs.YthnpiimiimiijaaGreatDoor.Dir
open Go Go.RowKit Go.Proofs Go.Proofs.YthnpiimiimiijaaGreatDoorW.PrintWords Go.Proofs.YthnpiimiimiijaaGreatDoorW.PrintLast Go.Proofs.YthnpiimiimiijaaGreatDoorW.PrintMore
set_option linter.unusedVariables false
set_option linter.unusedSimpArgs false
theorem bytesB_le {B : Book} (h : MayB B) : (bytesB B).length ≤ 10000 := by
 unfold bytesB midB
 rw [List.length_append, List.length_append, List.length_append, List.length_append, List.length_append, keysB_len, devsB_len, headB_len, beN_len, beN_len]
 have := acl_short h.2
 have h1 := h.1.few.1
 have h2 := h.1.few.2
 omega
/-- What is said of a book: an error; bytes. -/
def Said (B : Book) (ev : Int) (l : List UInt8) : Prop := (MayB B ∧ ev = 0 ∧ l = bytesB B) ∨ (¬ MayB B ∧ ev = 2 ∧ l = [])
theorem Said.le {B : Book} {ev : Int} {l : List UInt8} (h : Said B ev l) : l.length ≤ 10000 := by
 rcases h with ⟨h, -, rfl⟩ | ⟨-, -, rfl⟩
 ·exact bytesB_le h
 ·simp
theorem src_none {w : World} {size : Nat} : SrcAt w none 0 size [] := ⟨by simp, fun _ => rfl, fun a e => by cases e⟩
theorem BytesEnd.said {w w' : World} {B : Book} {e : Ending} {ev : Int} {l : List UInt8} (h : BytesEnd w w' B e) (s : Said B ev l) : ∃ A c, e = .returned (.tuple #[.slice A l.length c, .int .i64 ev]) ∧ SrcAt w' A l.length 1 (l.map byteV) := by
 rcases h with ⟨A, c, rfl, ho, hm⟩ | ⟨rfl, hm⟩ <;> rcases s with ⟨h, rfl, rfl⟩ | ⟨h, rfl, rfl⟩
 ·exact ⟨A, c, rfl, ho.src⟩
 ·exact absurd hm h
 ·exact absurd h hm
 ·exact ⟨none, 0, rfl, src_none⟩
theorem CheckEnd.said {B : Book} {e : Ending} {ev : Int} {l : List UInt8} (h : CheckEnd B e) (s : Said B ev l) : e = .returned (.int .i64 ev) := by
 rcases h with ⟨rfl, hm⟩ | ⟨rfl, hm⟩ <;> rcases s with ⟨h, rfl, rfl⟩ | ⟨h, rfl, rfl⟩
 ·rfl
 ·exact absurd ((may_ok B).1 hm) h
 ·exact absurd ((may_ok B).2 h) hm
 ·rfl
theorem RCheckEnd.said {B : Book} {e : Ending} {ev : Int} {l : List UInt8} (h : RCheckEnd B e) (s : Said B ev l) : e = .returned (.int .i64 ev) := by
 rcases h with ⟨rfl, hm⟩ | ⟨rfl, hm⟩ <;> rcases s with ⟨h, rfl, rfl⟩ | ⟨h, rfl, rfl⟩
 ·rfl
 ·exact absurd hm h
 ·exact absurd h hm
 ·rfl
/-- All blocks are kept but one. -/
structure ButW (g0 : Nat) (W W' : World) : Prop where
 size : W.heap.size ≤ W'.heap.size
 block : ∀ g, g < W.heap.size → g ≠ g0 → W'.heap[g]? = W.heap[g]?
theorem ButW.refl (g0 : Nat) (W : World) : ButW g0 W W := ⟨Nat.le_refl _, fun _ _ _ => rfl⟩
theorem ButW.below {g0 : Nat} {W W' W2 : World} (h : ButW g0 W W') (hb : Below W'.heap.size W' W2) : ButW g0 W W2 := ⟨Nat.le_trans h.size hb.size, fun g hg hn => (hb.block g (Nat.lt_of_lt_of_le hg h.size)).trans (h.block g hg hn)⟩
theorem ButW.set {g0 : Nat} {W W' : World} (h : ButW g0 W W') (cs : Array Value) : ButW g0 W (W'.setRow g0 cs) :=
 ⟨Nat.le_trans h.size (grownBy_setRow W' g0 cs).size, fun g hg hn => ((grownBy_setRow W' g0 cs).block g (Nat.lt_of_lt_of_le hg h.size) (fun e => hn (Option.some.inj e))).trans (h.block g hg hn)⟩
theorem ButW.obj {g0 g : Nat} {W W' : World} {o : Obj} (h : ButW g0 W W') (hg : W.heap[g]? = some o) (hn : g ≠ g0) : W'.heap[g]? = some o := (h.block g (Array.getElem?_eq_some_iff.1 hg).1 hn).trans hg
theorem ButW.cell {g0 : Nat} {W W' : World} {a : Addr} {v : Value} (h : ButW g0 W W') (hc : W.cell? a = some v) (hn : a.block ≠ g0) : W'.cell? a = some v := by
 have hlt := World.block_lt_of_cell? W a hc
 unfold World.cell? at hc ⊢
 rw [h.block a.block hlt hn]
 exact hc
theorem SrcAt.but {g0 : Nat} {W W' : World} {A : Option Addr} {n size : Nat} {xs : List Value} (h : SrcAt W A n size xs) (hb : ButW g0 W W') (ha : ∀ a, A = some a → a.block ≠ g0) : SrcAt W' A n size xs :=
 ⟨h.1, h.2.1, fun a e j u hj => hb.cell (h.2.2 a e j u hj) (by rw [add_block]; exact ha a e)⟩
theorem SrcB.but {g0 : Nat} {W W' : World} {B : Book} {A1 A2 : Option Addr} (h : SrcB W B A1 A2) (hb : ButW g0 W W') (h1 : ∀ a, A1 = some a → a.block ≠ g0) (h2 : ∀ a, A2 = some a → a.block ≠ g0) : SrcB W' B A1 A2 := ⟨h.devs.but hb h1, h.spent.but hb h2, h.few, h.len⟩
theorem own_at_base {w : World} {base : Nat} {e : TypeId} {size n c : Nat} {A : Option Addr} {xs : List Value} (h : w.ownsRow base e size (.slice A n c) n xs) : ∀ a, A = some a → base ≤ a.block := fun a ha => by
 subst ha
 exact own_base h a.block rfl
end Go.Proofs.YthnpiimiimiijaaGreatDoor.Dir
end
section
namespace Go.Proofs.YthnpiimiimiijaaGreatDoor.Dir
open Go Go.RowKit Go.Proofs Go.Proofs.YthnpiimiimiijaaGreatDoorW.PrintWords Go.Proofs.YthnpiimiimiijaaGreatDoorW.PrintLast Go.Proofs.YthnpiimiimiijaaGreatDoorW.PrintMore
set_option linter.unusedVariables false
set_option linter.unusedSimpArgs false
/-- The number of bytes, the highest first. -/
def natB (l : List UInt8) : Nat := l.foldl (fun n b => n * 256 + b.toNat) 0
theorem natB_snoc (l : List UInt8) (b : UInt8) : natB (l ++ [b]) = natB l * 256 + b.toNat := by simp [natB]
theorem natB_next {l : List UInt8} {j : Nat} {b : UInt8} (h : l[j]? = some b) : natB (l.take (j + 1)) = natB (l.take j) * 256 + b.toNat := by
 rw [List.take_add_one, h]
 exact natB_snoc _ _
theorem natB_lt (l : List UInt8) : natB l < 256 ^ l.length := by
 suffices h : ∀ n, n ≤ l.length → natB (l.take n) < 256 ^ n by
  have := h l.length (Nat.le_refl _)
  rwa [List.take_length] at this
 intro n
 induction n with
 | zero => intro _; simp [natB]
 | succ n ih =>
  intro hn
  have hb : l[n]? = some l[n] := List.getElem?_eq_getElem (by omega)
  rw [natB_next hb, Nat.pow_succ]
  have h1 := ih (by omega)
  have h2 := l[n].toNat_lt
  have : natB (l.take n) * 256 + 256 ≤ 256 ^ n * 256 := by
   rw [← Nat.succ_mul]
   exact Nat.mul_le_mul_right _ h1
  omega
theorem natB_zeros (k : Nat) (l : List UInt8) : natB (List.replicate k 0 ++ l) = natB l := by
 unfold natB
 rw [List.foldl_append]
 congr 1
 induction k with
 | zero => rfl
 | succ k ih => rw [List.replicate_succ, List.foldl_cons]; exact ih
/-- A reader's two blocks. -/
structure RdAt (W : World) (br bs : Nat) (A : Option Addr) (n c pos : Nat) : Prop where
 rd : W.heap[br]? = some (.cells #[.pointer (some ⟨bs, 0, none⟩)] 159 (0, 0))
 sh : W.heap[bs]? = some (.cells #[.slice A n c, .int .i64 pos] 144 (0, 0))
theorem RdAt.later {W W' : World} {br bs : Nat} {A : Option Addr} {n c pos : Nat} (h : RdAt W br bs A n c pos) (hb : Below W.heap.size W W') : RdAt W' br bs A n c pos := ⟨room_at h.rd hb, room_at h.sh hb⟩
theorem RdAt.cells {W : World} {br bs : Nat} {A : Option Addr} {n c pos : Nat} (h : RdAt W br bs A n c pos) : W.cell? ⟨br, 0, none⟩ = some (.pointer (some ⟨bs, 0, none⟩)) ∧ W.cell? ⟨bs, 0, none⟩ = some (.slice A n c) ∧ W.cell? ⟨bs, 1, none⟩ = some (.int .i64 pos) ∧ W.frozen? ⟨bs, 1, none⟩ = false := by
 refine ⟨?_, ?_, ?_, frozen_of_heap h.sh⟩
 ·rw [cell_of_heap h.rd]; rfl
 ·rw [cell_of_heap h.sh]; rfl
 ·rw [cell_of_heap h.sh]; rfl
theorem none143 (br bs n c pos : Nat) (A : Option Addr) (w : World) (h : RdAt w br bs A n c pos) : Calls Tryz.prog 143 #[.pointer (some ⟨br, 0, none⟩)] w fun e w' => e = .returned (.bool false) ∧ w' = w := by
 obtain ⟨c1, -, -, -⟩ := h.cells
 clear h
 go_enter Tryz.func143, Tryz.ntmps143
 go_wp2
 go_ret
 exact ⟨rfl, rfl⟩
theorem und67 : Tryz.prog.underlying 67 = some (.slice (Tryz.prog.elem 67)) := by kernel_rfl
theorem siz67 (W : World) : (sizeOf (Tryz.prog.elem 67)).run Tryz.prog W = .ok 1 W := by rw [show Tryz.prog.elem 67 = 5 by kernel_rfl]; exact Tryz.sizeOf5 W
theorem slice67 (A : Option Addr) (n c lo hi : Nat) (h1 : lo ≤ hi) (h2 : hi ≤ c) (W : World) : (Instr.slice 67 (.slice A n c) (some (.int .i64 lo)) (some (.int .i64 hi)) none).run Tryz.prog W = .ok (.slice (if c = lo then A else A.map (·.add lo)) (hi - lo) (c - lo)) W := by
 rw [run_slice_lh W 67 A n c und67 .i64 .i64 lo hi (by omega) (by omega) (by omega), siz67]
 simp [sliced]
theorem slice67l (A : Option Addr) (n c lo : Nat) (h1 : lo ≤ n) (W : World) : (Instr.slice 67 (.slice A n c) (some (.int .i64 lo)) none none).run Tryz.prog W = .ok (.slice (if c = lo then A else A.map (·.add lo)) (n - lo) (c - lo)) W := by
 rw [run_slice_l W 67 A n c und67 .i64 lo (by omega) (by omega), siz67]
 simp [sliced]
theorem slice67h (A : Option Addr) (n c hi : Nat) (h2 : hi ≤ c) (W : World) : (Instr.slice 67 (.slice A n c) none (some (.int .i64 hi)) none).run Tryz.prog W = .ok (.slice A hi c) W := by
 rw [run_slice_h W 67 A n c und67 .i64 hi (by omega) (by omega), siz67]
 simp [sliced]
 intro _
 cases A with
 | none => rfl
 | some a => simp [Addr.add]
theorem src_slice {w : World} {A : Option Addr} {n c lo hi : Nat} {xs : List UInt8} (h : SrcAt w A n 1 (xs.map byteV)) (h1 : lo ≤ hi) (h2 : hi ≤ n) (h3 : n ≤ c) : SrcAt w (if c = lo then A else A.map (·.add lo)) (hi - lo) 1 (((xs.drop lo).take (hi - lo)).map byteV) := by
 have hl : xs.length = n := by have := h.1; simpa using this
 by_cases hc : c = lo
 ·rw [if_pos hc]
  have e : hi - lo = 0 := by omega
  rw [e]
  exact ⟨by simp, fun _ => rfl, fun a _ j u hj => by simp at hj⟩
 ·rw [if_neg hc]
  refine ⟨by simp; omega, fun e => ?_, fun a ha j u hj => ?_⟩
  ·cases A with
   | none => have := h.2.1 rfl; omega
   | some a => cases e
  ·cases A with
   | none => cases ha
   | some a0 =>
    cases ha
    have hj' : (xs.map byteV)[lo + j]? = some u := by
     rw [List.getElem?_map] at hj ⊢
     rw [List.getElem?_take] at hj
     split at hj
     ·rwa [List.getElem?_drop] at hj
     ·cases hj
    have := h.2.2 a0 rfl (lo + j) u hj'
    show w.cell? ((a0.add lo).add j) = _
    rw [Deep.add_add]
    exact this
set_option maxHeartbeats 4000000 in
theorem rest145 (bs n c pos : Nat) (A : Option Addr) (w : World) (h : w.heap[bs]? = some (.cells #[.slice A n c, .int .i64 pos] 144 (0, 0))) (hp : pos ≤ n) : Calls Tryz.prog 145 #[.pointer (some ⟨bs, 0, none⟩)] w fun e w' => e = .returned (.slice (if c = pos then A else A.map (·.add pos)) (n - pos) (c - pos)) ∧ Below w.heap.size w w' := by
 have k0 : w.cell? ⟨bs, 0, none⟩ = some (.slice A n c) := by rw [cell_of_heap h]; rfl
 have k1 : w.cell? ⟨bs, 1, none⟩ = some (.int .i64 pos) := by rw [cell_of_heap h]; rfl
 have hsl := slice67l A n c pos hp
 obtain ⟨A', hA'⟩ : ∃ A', A' = (if c = pos then A else A.map (·.add pos)) := ⟨_, rfl⟩
 rw [← hA'] at hsl ⊢
 clear h hp hA'
 go_enter Tryz.func145, Tryz.ntmps145
 go_wp2_with fail
 go_quiet (fail)
 have H6 := Aside0.mk (bdn (Below.refl w.heap.size w) nq)
 go_wp2_with fail
 go_ret
 exact ⟨rfl, H6.out⟩
/-- A reader in the block br, behind base, that has r left. -/
def Rd (w : World) (base br : Nat) (r : List UInt8) : Prop := ∃ bs A c xs pos, RdAt w br bs A xs.length c pos ∧ OwnB w base A c xs ∧ pos ≤ xs.length ∧ r = xs.drop pos ∧ xs.length ≤ 140737488355328 ∧ base ≤ br ∧ base ≤ bs
theorem own_keptT {w w' : World} {base : Nat} {e : TypeId} {size n : Nat} {v : Value} {xs : List Value} {ts : List TypeId} (h : w.ownsRow base e size v n xs) (hk : KeptT ts w w') (he : e ∉ ts) : w'.ownsRow base e size v n xs := by
 refine ⟨h.1, ?_⟩
 rcases h.2 with h | ⟨g, cap, cur, h1, h2, h3, h4⟩
 ·exact .inl h
 ·exact .inr ⟨g, cap, cur, h1, h2, hk g _ _ _ h3 he, h4⟩
theorem Rd.kept {w w' : World} {base br : Nat} {r : List UInt8} {ts : List TypeId} (h : Rd w base br r) (hk : KeptT ts w w') (h1 : 159 ∉ ts) (h2 : 144 ∉ ts) (h3 : 5 ∉ ts) : Rd w' base br r := by
 obtain ⟨bs, A, c, xs, pos, ha, ho, hr⟩ := h
 exact ⟨bs, A, c, xs, pos, ⟨hk _ _ _ _ ha.rd h1, hk _ _ _ _ ha.sh h2⟩, own_keptT ho hk h3, hr⟩
theorem Rd.below {w w' : World} {base br : Nat} {r : List UInt8} (h : Rd w base br r) (hb : Below w.heap.size w w') : Rd w' base br r := h.kept (ts := []) (KeptT.below hb) (by simp) (by simp) (by simp)
theorem own_cap {w : World} {base : Nat} {A : Option Addr} {c : Nat} {xs : List UInt8} (h : OwnB w base A c xs) : xs.length ≤ c := by
 rcases h.2 with ⟨e, e2⟩ | ⟨g, cap, cur, e, -, -, h4, -⟩
 ·rw [e2]; exact Nat.zero_le _
 ·cases e; exact h4
theorem left112 (base br : Nat) (r : List UInt8) (w : World) (h : Rd w base br r) : Calls Tryz.prog 112 #[.pointer (some ⟨br, 0, none⟩)] w fun e w' => e = .returned (.int .i64 r.length) ∧ Below w.heap.size w w' := by
 obtain ⟨bs, A, c, xs, pos, ha, ho, hp, rfl, hl, hb1, hb2⟩ := h
 have hn := Aside0.mk (none143 br bs _ c pos A w ha)
 have hr := Aside0.mk (rest145 bs _ c pos A w ha.sh hp)
 obtain ⟨c1, -, -, -⟩ := ha.cells
 have e : (xs.drop pos).length = xs.length - pos := List.length_drop
 rw [e]
 obtain ⟨m, hm⟩ : ∃ m, m = xs.length - pos := ⟨_, rfl⟩
 rw [← hm] at hr ⊢
 generalize (if c = pos then A else A.map (·.add pos)) = A' at hr
 clear ha ho hp hl hb1 hb2 e hm
 go_enter Tryz.func112, Tryz.ntmps112
 go_upto_region 3 with (go_at_call 143; refine hn.out.mono ?_; rintro e w' ⟨rfl, rfl⟩)
 go_wp2_with (go_at_call 145; refine hr.out.mono ?_; rintro e w2 ⟨rfl, hb⟩)
 go_ret
 exact ⟨rfl, hb⟩
def NewEnd (w w' : World) (l : List UInt8) (e : Ending) : Prop := ∃ br, e = .returned (.pointer (some ⟨br, 0, none⟩)) ∧ Rd w' w.heap.size br l ∧ Below w.heap.size w w'
set_option maxHeartbeats 4000000 in
theorem new71 (l : List UInt8) (n : Nat) (hn : n = l.length) (A : Option Addr) (c : Nat) (w : World) (h : SrcAt w A l.length 1 (l.map byteV)) (hl : l.length ≤ 140737488355328) :
  Calls Tryz.prog 71 #[.slice A n c] w fun e w' => NewEnd w w' l e := by
 have hc := Aside0.mk (clone_bytes A n c l hn w h hl)
 have HL := Aside0.mk hl
 clear h hn hl
 go_enter Tryz.func71, Tryz.ntmps71
 go_wp2_with (go_at_call 100; refine hc.out.mono ?_; intro e w2 h5; obtain ⟨A', c', rfl, ho, hb⟩ := h5)
 obtain ⟨m, hm⟩ : ∃ m, m = l.length := ⟨_, rfl⟩
 have HM := Aside0.mk hm
 have HB := Aside0.mk hb
 have HO := Aside0.mk ho
 rw [← hm]
 clear hb ho hm
 go_wp2_with fail
 go_ret
 obtain ⟨bs, hbs⟩ : ∃ bs, bs = w2.heap.size := ⟨_, rfl⟩
 have q1 : (w2.alloc (.cells #[.slice A' m c', .int .i64 0] 144)).heap[bs]? = some (.cells #[.slice A' m c', .int .i64 0] 144 (0, 0)) := by rw [hbs]; exact heap_alloc_new w2 _
 have hb3 := (Below.refl w2.heap.size w2).alloc (Nat.le_refl _) (.cells #[.slice A' m c', .int .i64 0] 144)
 have q2 := heap_alloc_new (w2.alloc (.cells #[.slice A' m c', .int .i64 0] 144)) (.cells #[.pointer (some ⟨w2.heap.size, 0, none⟩)] 159)
 have hb4 := (Below.refl _ (w2.alloc (.cells #[.slice A' m c', .int .i64 0] 144))).alloc (Nat.le_refl _) (.cells #[.pointer (some ⟨w2.heap.size, 0, none⟩)] 159)
 refine ⟨_, rfl, ⟨bs, A', c', l, 0, ⟨by rw [hbs]; simpa using q2, by rw [← HM.out]; exact room_at q1 hb4⟩, (OwnB.below (OwnB.below HO.out hb3) hb4), Nat.zero_le _, rfl, HL.out, ?_, ?_⟩, below_step (below_step HB.out hb3) hb4⟩
 ·exact Nat.le_trans HB.out.size (by omega)
 ·rw [hbs]; exact HB.out.size
end Go.Proofs.YthnpiimiimiijaaGreatDoor.Dir
end
section
namespace Go.Proofs.YthnpiimiimiijaaGreatDoor.Dir
open Go Go.RowKit Go.Proofs Go.Proofs.YthnpiimiimiijaaGreatDoorW.PrintWords Go.Proofs.YthnpiimiimiijaaGreatDoorW.PrintLast Go.Proofs.YthnpiimiimiijaaGreatDoorW.PrintMore
set_option linter.unusedVariables false
set_option linter.unusedSimpArgs false
theorem index148 (l : List UInt8) (hl : l.length = 8) {j : Nat} {b : UInt8} (hj : l[j]? = some b) (W : World) : (Instr.index 148 (.agg (l.map byteV).toArray) (.int .i64 j)).run Tryz.prog W = .ok (.int .u8 (b.toNat : Int)) W := by
 have hlt : j < 8 := by have := (List.getElem?_eq_some_iff.1 hj).1; omega
 have e : ((l.map byteV).toArray)[j]? = some (.int .u8 (b.toNat : Int)) := by rw [List.getElem?_toArray, List.getElem?_map, hj]; rfl
 obtain ⟨h1, h2⟩ := Array.getElem?_eq_some_iff.1 e
 simp [Instr.index, asIntOf, run_underlying Tryz.underlying148, Tryz.sizeOf5, hlt, part, Tryz.isAgg5, hj, byteV]
set_option maxHeartbeats 4000000 in
theorem value164 (l : List UInt8) (hl : l.length = 8) (w : World) : Calls Tryz.prog 164 #[.agg (l.map byteV).toArray] w fun e w' => e = .returned (.int .u64 (natB l : Nat)) ∧ Below w.heap.size w w' := by
 obtain ⟨BA, hBA⟩ : ∃ BA, BA = (l.map byteV).toArray := ⟨_, rfl⟩
 obtain ⟨W0, hW0⟩ : ∃ W0, W0 = w.alloc (.cells BA 148) := ⟨_, rfl⟩
 obtain ⟨p, hp⟩ : ∃ p, p = w.heap.size := ⟨_, rfl⟩
 have q1 : W0.heap[p]? = some (.cells (l.map byteV).toArray 148 (0, 0)) := by rw [hW0, hp, hBA]; exact heap_alloc_new w _
 have B0 := Aside0.mk (show Below w.heap.size w W0 by rw [hW0]; exact (Below.refl _ w).alloc (Nat.le_refl _) _)
 have L0 := Aside0.mk (run_loadAtK Tryz.prog W0 148 8 Tryz.isAgg148 Tryz.sizeOf148 p 0 (l.map byteV) (by simp [hl]) (cells_of_heap q1))
 have HIX := Aside0.mk (fun (j : Nat) (b : UInt8) (hj : l[j]? = some b) (W : World) => index148 l hl hj W)
 rw [← hBA] at L0 HIX ⊢
 have HL := Aside0.mk hl
 obtain ⟨R, hR⟩ : ∃ R : Int, R = ((natB l : Nat) : Int) := ⟨_, rfl⟩
 rw [← hR]
 have HR := Aside0.mk hR
 clear hBA q1 hl hR
 go_enter Tryz.func164, Tryz.ntmps164
 go_upto_region 1 with fail
 rw [← hW0, ← hp]
 clear hW0 hp
 go_upto_region 2 with ((with_reducible refine at_load 148 (.tmp 1) ?_); refine wpList_loadK rfl 148 (.tmp 1) rfl _ rfl _ L0.out ?_)
 go_loopg [2, 6] 8 (fun kx s2 s6 wr => ∃ (kk n : Nat), s2 = .int .u64 (n : Int) ∧ s6 = .int .i64 kk ∧ kk + kx = 8 ∧ (kk < 8 → n < 72057594037927936) ∧ Aside0 (wr = W0 ∧ n = natB (l.take kk)))
 case atStart => exact ⟨0, 0, rfl, rfl, by omega, fun _ => by decide, ⟨rfl, by simp [natB]⟩⟩
 case round =>
  obtain ⟨kk, n, rfl, rfl, hkk, hn, HT⟩ := hrel
  obtain rfl := HT.out.1
  by_cases hlt : kk < 8
  ·have hltz : (kk : Int) < 8 := by omega
   have hn := hn hlt
   obtain ⟨b, hb⟩ : ∃ b, l[kk]? = some b := ⟨_, List.getElem?_eq_getElem (by rw [HL.out]; exact hlt)⟩
   have hix := HIX.out kk b hb
   have HN := Aside0.mk (natB_next hb)
   have HNL := Aside0.mk (show kk + 1 < 8 → natB (l.take (kk + 1)) < 72057594037927936 from fun h => by
    have h1 := natB_lt (l.take (kk + 1))
    rw [List.length_take, HL.out, Nat.min_eq_left (by omega)] at h1
    exact Nat.lt_of_lt_of_le h1 (Nat.le_trans (Nat.pow_le_pow_right (by decide) (show kk + 1 ≤ 7 by omega)) (by decide)))
   have hb8 : (b.toNat : Int) < 256 := by have := b.toNat_lt; omega
   obtain ⟨x, hx⟩ : ∃ x : Nat, x = b.toNat := ⟨_, rfl⟩
   rw [← hx] at hix hb8 HN
   clear hb hx
   obtain ⟨ko, rfl⟩ : ∃ ko, gk = ko + 1 := ⟨gk - 1, by omega⟩
   go_wp2_with fail
   go_roundg ko
   case measure => omega
   case rel =>
    refine ⟨kk + 1, natB (l.take (kk + 1)), ?_, by go_num, by omega, HNL.out, ⟨rfl, rfl⟩⟩
    rw [HN.out, ← HT.out.2]
    congr 1 <;> omega
  ·have hltz : ¬ (kk : Int) < 8 := by omega
   have : kk = 8 := by omega
   subst this
   go_wp2_with fail
   go_ret
   refine ⟨?_, B0.out⟩
   have e := HT.out.2
   rw [List.take_of_length_le (by rw [HL.out]; exact Nat.le_refl _)] at e
   rw [HR.out, ← e]
   rfl
end Go.Proofs.YthnpiimiimiijaaGreatDoor.Dir
end
section
namespace Go.Proofs.YthnpiimiimiijaaGreatDoor.Dir
open Go Go.RowKit Go.Proofs Go.Proofs.YthnpiimiimiijaaGreatDoorW.PrintWords Go.Proofs.YthnpiimiimiijaaGreatDoorW.PrintLast Go.Proofs.YthnpiimiimiijaaGreatDoorW.PrintMore
set_option linter.unusedVariables false
set_option linter.unusedSimpArgs false
theorem runs_copy {P : Program} {w w1 : World} (dT sT : TypeId) (d s : Operand) (o : Oper) (ho : o.op = .call { callee := .builtin .copy, args := #[d, s], argTypes := #[dT, sT] }) (a : Act) (v1 v2 v : Value) (ed : a.eval d = v1) (es : a.eval s = v2)
  (hr : (Builtin.copy_ #[dT, sT] o.type #[v1, v2]).run P w = .ok v w1) : (execOp a.eval o).run P w = .ok (.value v) w1 := by
 unfold execOp
 simp only [ho, resolve, invoke, builtin, Sem.run_bind, Sem.run_pure, Result.andThen_ok, List.map_toArray, List.map_cons, List.map_nil, ed, es, hr]
/-- What Get answers. -/
def GetEnd (w w' : World) (base br s : Nat) (r : List UInt8) (e : Ending) : Prop :=
 (r.length < s ∧ e = .returned (.tuple #[.int .i64 0, .int .i64 3]) ∧ Below w.heap.size w w') ∨ (s ≤ r.length ∧ e = .returned (.tuple #[.int .i64 (natB (r.take s) : Nat), .int .i64 0]) ∧ Rd w' base br (r.drop s) ∧ Below base w w' ∧ KeptT [144] w w')
theorem row8 (s : Nat) (hs : s ≤ 8) (cs : List UInt8) (hc : cs.length = s) : (((List.replicate 8 (Value.int .u8 0)).toArray.toList.take (8 - s) ++ cs.map byteV ++ (List.replicate 8 (Value.int .u8 0)).toArray.toList.drop (8 - s + (cs.map byteV).length)).toArray : Array Value) = ((List.replicate (8 - s) 0 ++ cs).map byteV).toArray := by
 congr 1
 rw [List.map_append, List.map_replicate, List.length_map, hc, show 8 - s + s = 8 by omega]
 show List.take (8 - s) (List.replicate 8 (Value.int .u8 0)) ++ cs.map byteV ++ List.drop 8 (List.replicate 8 (Value.int .u8 0)) = _
 rw [List.take_replicate, Nat.min_eq_left (by omega), List.drop_replicate, Nat.sub_self, List.replicate_zero, List.append_nil]
 rfl
theorem sizeB : (Tryz.prog.info? 5).map (·.size) = some 1 := by kernel_rfl
/-- The reader behind a step: its place has moved on. -/
theorem rd_step {w w7 : World} {base br bs c pos s : Nat} {A : Option Addr} {xs : List UInt8} (ha : RdAt w br bs A xs.length c pos) (ho : OwnB w base A c xs) (hl : xs.length ≤ 140737488355328) (hb1 : base ≤ br) (hb2 : base ≤ bs) (hps : pos + s ≤ xs.length) (hb : Below w.heap.size w w7) (hbase : base ≤ w.heap.size) :
  Rd (w7.setCell ⟨bs, 1, none⟩ (.int .i64 ((pos + s : Nat) : Int))) base br ((xs.drop pos).drop s) ∧ Below base w (w7.setCell ⟨bs, 1, none⟩ (.int .i64 ((pos + s : Nat) : Int))) ∧ KeptT [144] w (w7.setCell ⟨bs, 1, none⟩ (.int .i64 ((pos + s : Nat) : Int))) := by
 have ha7 := ha.later hb
 have ho7 := ho.below hb
 refine ⟨⟨bs, A, c, xs, pos + s, ⟨?_, ?_⟩, own_setCellT ho7 ha7.sh (by decide) _, hps, by rw [List.drop_drop], hl, hb1, hb2⟩, (hb.mono hbase).setCell hb2 _, (KeptT.below hb).trans (KeptT.setCell ha7.sh (by decide) _)⟩
 ·rw [Below.heap_setCell _ _ _ _ (fun e => ?_)]
  ·exact ha7.rd
  ·have h1 := ha7.rd
   have h2 := ha7.sh
   rw [e] at h1
   rw [h1] at h2
   cases h2
 ·rw [heap_setCell_same w7 bs 1 _ _ _ ha7.sh]
  rfl
set_option maxHeartbeats 4000000 in
set_option maxRecDepth 100000 in
theorem get141 (base br s : Nat) (r : List UInt8) (w : World) (h : Rd w base br r) (hs1 : 1 ≤ s) (hs7 : s ≤ 7) :
  Calls Tryz.prog 141 #[.pointer (some ⟨br, 0, none⟩), .int .i64 s] w fun e w' => GetEnd w w' base br s r e := by
 have hlf := Aside0.mk (left112 base br r w h)
 obtain ⟨bs, A, c, xs, pos, ha, ho, hpos, hr, hxl, hb1, hb2⟩ := h
 have hn := Aside0.mk (none143 br bs _ c pos A w ha)
 have hbase : base ≤ w.heap.size := Nat.le_trans hb1 (Nat.le_of_lt (Array.getElem?_eq_some_iff.1 ha.rd).1)
 have hcap := own_cap ho
 have hrl : r.length = xs.length - pos := by rw [hr]; exact List.length_drop
 have HA := Aside0.mk (And.intro ha ho)
 have HB := Aside0.mk (And.intro hxl (And.intro hb1 (And.intro hb2 hbase)))
 have HR := Aside0.mk (And.intro hr hrl)
 have HC := Aside0.mk (And.intro hpos hcap)
 have i1 : (1 : Int) ≤ (s : Int) := by omega
 have i7 : (s : Int) ≤ 7 := by omega
 obtain ⟨n, hn0⟩ : ∃ n, n = xs.length := ⟨_, rfl⟩
 have HN := Aside0.mk hn0
 obtain ⟨rl, hrl0⟩ : ∃ rl, rl = r.length := ⟨_, rfl⟩
 rw [← hrl0] at hlf
 have HRL := Aside0.mk hrl0
 have HSH := Aside0.mk (show w.heap[bs]? = some (.cells #[.slice A n c, .int .i64 pos] 144 (0, 0)) by rw [hn0]; exact ha.sh)
 have HRD := Aside0.mk ha.rd
 by_cases hlt : rl < s
 ·have hltz : (rl : Int) < (s : Int) := by omega
  have HLT := Aside0.mk (show r.length < s by omega)
  clear ha ho hpos hr hxl hb1 hb2 hbase hcap hrl hn0 hrl0 hlt
  go_enter Tryz.func141, Tryz.ntmps141
  go_upto_region 5 with (go_at_call 143; refine hn.out.mono ?_; rintro e w' ⟨rfl, rfl⟩)
  go_wp2_with (go_at_call 112; refine hlf.out.mono ?_; rintro e w2 ⟨rfl, hb⟩)
  go_ret2
  exact .inl ⟨HLT.out, rfl, hb⟩
 ·have hltz : ¬ (rl : Int) < (s : Int) := by omega
  have HLT := Aside0.mk (show s ≤ r.length by omega)
  clear ha ho hpos hr hxl hb1 hb2 hbase hcap hrl hn0 hrl0 hlt
  go_enter Tryz.func141, Tryz.ntmps141
  go_upto_region 5 with (go_at_call 143; refine hn.out.mono ?_; rintro e w' ⟨rfl, rfl⟩)
  go_upto_region 7 with (go_at_call 112; refine hlf.out.mono ?_; rintro e w2 ⟨rfl, hb⟩)
  obtain ⟨p, hp⟩ : ∃ p, p = w2.heap.size := ⟨_, rfl⟩
  obtain ⟨w3, hw3⟩ : ∃ w3, w3 = w2.alloc (.cells #[.int .u8 0, .int .u8 0, .int .u8 0, .int .u8 0, .int .u8 0, .int .u8 0, .int .u8 0, .int .u8 0] 148) := ⟨_, rfl⟩
  have HB3 := Aside0.mk (show Below w'.heap.size w' w3 by rw [hw3]; exact hb.alloc hb.size _)
  have HP3 := Aside0.mk (show w3.heap[p]? = some (.cells (List.replicate 8 (Value.int .u8 0)).toArray 148 (0, 0)) by rw [hw3, hp]; exact heap_alloc_new w2 _)
  have HPP := Aside0.mk (show w'.heap.size ≤ p by rw [hp]; exact hb.size)
  clear hb
  go_upto_region 8 with fail
  rw [← hw3, ← hp]
  clear hw3 hp hlf hn
  have hsh : ∀ W, (Instr.sliceAt 148 (.pointer (some ⟨p, 0, none⟩)) (some (.int .i64 (8 - (s : Int)))) none none).run Tryz.prog W = .ok (.slice (some ⟨p, 8 - s, none⟩) s s) W := fun W => by
   rw [run_sliceAt_array_l W 148 ⟨p, 0, none⟩ Tryz.underlying148 .i64 (8 - (s : Int)) (by omega) (by rw [len148]; omega)]
   go_simp
   exact ⟨fun e => by omega, by omega⟩
  have hsw : ∀ W, (Instr.sliceAt 148 (.pointer (some ⟨p, 0, none⟩)) (some (.int .i64 (Go.RowKit.wrap64 (8 - (s : Int))))) none none).run Tryz.prog W = .ok (.slice (some ⟨p, 8 - s, none⟩) s s) W := fun W => by
   rw [show Go.RowKit.wrap64 (8 - (s : Int)) = 8 - (s : Int) by unfold Go.RowKit.wrap64; omega]
   exact hsh W
  have HAD := Aside0.mk (show ∃ ad, (if c = pos then A else A.map (·.add pos)) = some ad by
   have h1 := HLT.out
   have h2 := HR.out.2
   have h3 := HC.out
   have h4 := HN.out
   rw [if_neg (by omega)]
   cases A with
   | none => have := (OwnB.src HA.out.2).2.1 rfl; omega
   | some a => exact ⟨_, rfl⟩)
  have HCP := Aside0.mk (show ∀ ad, (if c = pos then A else A.map (·.add pos)) = some ad → ∀ W, Below w3.heap.size w3 W → (Builtin.copy_ #[67, 67] 3 #[.slice (some ⟨p, 8 - s, none⟩) s s, .slice (some ad) (n - pos) (c - pos)]).run Tryz.prog W = .ok (goInt s) (W.setRow p ((List.replicate (8 - s) 0 ++ r.take s).map byteV).toArray) from fun ad had W hb => by
   have h1 := HLT.out
   have h2 := HR.out.2
   have h3 := HC.out
   have h4 := HN.out
   have hsrc := src_slice (c := c) (lo := pos) (hi := xs.length) (HA.out.2.src.grown (below_step HB3.out hb)) (by omega) (by omega) (by omega)
   rw [had] at hsrc
   have hlen : ((r.take s).map byteV).length = s := by rw [List.length_map, List.length_take]; omega
   have := run_copy_row (P := Tryz.prog) W 67 67 3 5 p (8 - s) s s ad (n - pos) (c - pos) _ 148 ((r.take s).map byteV) Tryz.underlying67 sizeB (room_at HP3.out hb) (by rw [hlen]; exact (Nat.min_eq_right (by omega)).symm) (fun j v hj => by
    refine hsrc.2.2 ad rfl j v ?_
    have hj2 : j < s := by have := (List.getElem?_eq_some_iff.1 hj).1; omega
    rw [List.getElem?_map] at hj ⊢
    rw [List.getElem?_take_of_lt hj2, HR.out.1] at hj
    rw [List.getElem?_take_of_lt (by omega)]
    exact hj) (by rw [hlen]; simp; omega) (bytes_one _)
   rw [hlen] at this
   rw [this]
   congr 2
   have h8 := row8 s (by omega) (r.take s) (by rw [List.length_take]; omega)
   rw [hlen] at h8
   exact h8)
  refine start_ (n := 9) (S := fun W => Below w3.heap.size w3 W) (ds := [8]) #[false, false, false, false, false, false, false, false, false] (by kernel_rfl) rfl rfl ((Below.refl _ w3).drew) (fun hHeld => ?_)
  generalize World.drew _ = w5 at hHeld ⊢
  refine pure_ (i := 0) (N := (some 20)) (v := ?_) (a' := ?_) #[true, false, false, false, false, false, false, false, false] rfl rfl (by kernel_rfl) (fun _ _ _ h => h) (Or.inl ⟨by rfl, ?_⟩) ?_ ?_
  rotate_left
  ·intro w'
   go_simp
   with_reducible rfl
  rotate_left
  ·simp only [Act.put, List.setIfInBounds_toArray, List.set_cons_zero, List.set_cons_succ, i64_w, i32_w]
   rfl
  refine pure_ (i := 1) (N := (some 21)) (v := ?_) (a' := ?_) #[true, true, false, false, false, false, false, false, false] rfl rfl (by kernel_rfl) (fun _ _ _ h => h) (Or.inl ⟨by rfl, ?_⟩) ?_ ?_
  rotate_left
  ·intro w'
   go_simp
   with_reducible rfl
  rotate_left
  ·simp only [Act.put, List.setIfInBounds_toArray, List.set_cons_zero, List.set_cons_succ, i64_w, i32_w]
   rfl
  refine pure_ (i := 2) (N := (some 22)) (v := ?_) (a' := ?_) #[true, true, true, false, false, false, false, false, false] rfl rfl (by kernel_rfl) (fun _ _ _ h => h) (Or.inl ⟨by rfl, ?_⟩) ?_ ?_
  rotate_left
  ·intro w'
   go_simp
   with_reducible rfl
  rotate_left
  ·simp only [Act.put, List.setIfInBounds_toArray, List.set_cons_zero, List.set_cons_succ, i64_w, i32_w]
   rfl
  refine pure_ (i := 3) (N := (some 23)) (v := ?_) (a' := ?_) #[true, true, true, true, false, false, false, false, false] rfl rfl (by kernel_rfl) (fun _ _ _ h => h) (Or.inl ⟨by rfl, ?_⟩) ?_ ?_
  rotate_left
  ·intro w'
   go_simp
   with_reducible rfl
  rotate_left
  ·simp only [Act.put, List.setIfInBounds_toArray, List.set_cons_zero, List.set_cons_succ, i64_w, i32_w]
   rfl
  refine pure_ (i := 4) (N := (some 24)) (v := ?_) (a' := ?_) #[true, true, true, true, true, false, false, false, false] rfl rfl (by kernel_rfl) (fun _ _ _ h => h) (Or.inl ⟨by rfl, ?_⟩) ?_ ?_
  rotate_left
  ·intro w'
   go_simp
   with_reducible rfl
  rotate_left
  ·simp only [Act.put, List.setIfInBounds_toArray, List.set_cons_zero, List.set_cons_succ, i64_w, i32_w]
   rfl
  refine pure_ (i := 5) (N := (some 25)) (v := ?_) (a' := ?_) #[true, true, true, true, true, true, false, false, false] rfl rfl (by kernel_rfl) (fun _ _ _ h => h) (Or.inl ⟨by rfl, ?_⟩) ?_ ?_
  rotate_left
  ·intro w'
   go_simp
   with_reducible rfl
  rotate_left
  ·simp only [Act.put, List.setIfInBounds_toArray, List.set_cons_zero, List.set_cons_succ, i64_w, i32_w]
   rfl
  refine take_ (i := 6) (N := (some 26)) (v := ?_) (a' := ?_) #[true, true, true, true, true, true, true, false, false] rfl rfl (by kernel_rfl) (fun _ _ _ h => h) (Or.inl ⟨by rfl, ?_⟩) hHeld ?_ ?_
  rotate_left
  ·rintro w' hs
   have s0 : w'.cell? ⟨br, 0, none⟩ = some (.pointer (some ⟨bs, 0, none⟩)) := by rw [cell_of_heap (room_at (room_at HRD.out HB3.out) hs)]; rfl
   go_simp
   with_reducible rfl
  rotate_left
  ·simp only [Act.put, List.setIfInBounds_toArray, List.set_cons_zero, List.set_cons_succ, i64_w, i32_w]
   rfl
  refine one_ (i := 7) (N := (some 27)) #[true, true, true, true, true, true, true, true, false] rfl rfl (by kernel_rfl) (by decide) (fun K hK => ?_)
  refine goes_ Tryz.func145 (by kernel_rfl) rfl #[.pointer (some ⟨bs, 0, none⟩)] (by rfl) rfl rfl (by (try simp only [List.map_toArray, List.map_cons, List.map_nil]); first | done | rfl) ?_
  refine (rest145 bs n c pos A w5 (room_at (room_at HSH.out HB3.out) hHeld) (by have := HC.out.1; have := HN.out; omega)).mono ?_
  rintro e w5c ⟨rfl, hb⟩
  refine ⟨_, rfl, ?_⟩
  have hS_ := below_step hHeld hb
  clear hb
  refine hK.out _ _ hS_ (fun hHeld => ?_)
  clear hK K
  refine norm_ (a' := ?_) ?_ ?_
  rotate_left
  ·show Act.put _ (some 27) _ = _
   simp only [Act.put, List.setIfInBounds_toArray, List.set_cons_zero, List.set_cons_succ, i64_w, i32_w]
   rfl
  obtain ⟨ad, had⟩ : ∃ ad, (if c = pos then A else A.map (·.add pos)) = some ad := HAD.out
  rw [had]
  have hcp := HCP.out ad had w5c hHeld
  refine last_ (i := 8) (N := (some 28)) #[true, true, true, true, true, true, true, true, true] rfl rfl (by kernel_rfl) (by decide) (fun K hK => ?_)
  refine value_ (v := goInt s) (w1 := w5c.setRow p ((List.replicate (8 - s) 0 ++ r.take s).map byteV).toArray) (by rfl) rfl ?_ ?_
  ·exact runs_copy 67 67 (.tmp 22) (.tmp 27) _ rfl _ (.slice (some ⟨p, 8 - s, none⟩) s s) (.slice (some ad) (n - pos) (c - pos)) _ rfl rfl hcp
  skip
  refine hK.out _ _ ?_
  clear hK K
  refine norm_ (a' := ?_) ?_ ?_
  rotate_left
  ·show Act.put _ (some 28) _ = _
   simp only [Act.put, List.setIfInBounds_toArray, List.set_cons_zero, List.set_cons_succ, i64_w, i32_w]
   rfl
  refine done_ (by kernel_rfl) ?_
  obtain ⟨L8, hL8⟩ : ∃ L8, L8 = List.replicate (8 - s) 0 ++ r.take s := ⟨_, rfl⟩
  rw [← hL8]
  have HL8 := Aside0.mk (show L8.length = 8 ∧ natB L8 = natB (r.take s) by
   rw [hL8]
   exact ⟨by rw [List.length_append, List.length_replicate, List.length_take]; have := HLT.out; omega, natB_zeros _ _⟩)
  obtain ⟨w6, hw6⟩ : ∃ w6, w6 = w5c.setRow p (L8.map byteV).toArray := ⟨_, rfl⟩
  have HP6 := Aside0.mk (show w6.heap[p]? = some (.cells (L8.map byteV).toArray 148 (0, 0)) by rw [hw6]; exact setRow_heap w5c p _ _ 148 (0, 0) (room_at HP3.out hHeld))
  have HB6 := Aside0.mk (show Below w'.heap.size w' w6 by rw [hw6]; exact below_setRow (below_step HB3.out hHeld) HPP.out _)
  have LD := Aside0.mk (run_loadAtK Tryz.prog w6 148 8 Tryz.isAgg148 Tryz.sizeOf148 p 0 (L8.map byteV) (by rw [List.length_map]; exact HL8.out.1) (cells_of_heap HP6.out))
  have hv := Aside0.mk (value164 L8 HL8.out.1 w6)
  rw [← hw6]
  obtain ⟨BA, hBA⟩ : ∃ BA, BA = (L8.map byteV).toArray := ⟨_, rfl⟩
  rw [← hBA] at LD hv
  obtain ⟨nv, hnv⟩ : ∃ nv, nv = natB L8 := ⟨_, rfl⟩
  rw [← hnv] at hv
  have HNV := Aside0.mk (hnv.trans HL8.out.2)
  have hnv7 : nv < 72057594037927936 := by
   rw [HNV.out]
   have h1 := natB_lt (r.take s)
   refine Nat.lt_of_lt_of_le h1 (Nat.le_trans (Nat.pow_le_pow_right (by decide) (show (r.take s).length ≤ 7 by rw [List.length_take]; omega)) (by decide))
  have hdv : (nv : Int) / 9223372036854775808 = 0 := by omega
  clear hL8 hw6 hBA hnv hHeld had hcp hsh hsw
  go_upto_region 10 with (first | ((with_reducible refine at_load 148 (.tmp 6) ?_); refine wpList_loadK rfl 148 (.tmp 6) rfl _ rfl _ LD.out ?_) | (go_at_call 164; refine hv.out.mono ?_; rintro e w7 ⟨rfl, hb7⟩))
  have HB7 := Aside0.mk (below_step HB6.out hb7)
  clear hb7
  have hps : pos + s ≤ 140737488355328 := by have h1 := HLT.out; have h2 := HR.out.2; have h3 := HC.out; have h4 := HB.out; omega
  obtain ⟨d1, d2, d3, d4⟩ := (RdAt.mk (room_at HRD.out HB7.out) (room_at HSH.out HB7.out)).cells
  trace_state
  go_wp2_with fail
  go_ret2
  have hst := rd_step (s := s) HA.out.1 HA.out.2 HB.out.1 HB.out.2.1 HB.out.2.2.1 (by have h1 := HLT.out; have h2 := HR.out.2; have h3 := HC.out; omega) HB7.out HB.out.2.2.2
  refine .inr ⟨HLT.out, by rw [← HNV.out]; rfl, ?_⟩
  rw [HR.out.1]
  exact hst
end Go.Proofs.YthnpiimiimiijaaGreatDoor.Dir
end
section
namespace Go.Proofs.YthnpiimiimiijaaGreatDoor.Dir
open Go Go.RowKit Go.Proofs Go.Proofs.YthnpiimiimiijaaGreatDoorW.PrintWords Go.Proofs.YthnpiimiimiijaaGreatDoorW.PrintLast Go.Proofs.YthnpiimiimiijaaGreatDoorW.PrintMore
set_option linter.unusedVariables false
set_option linter.unusedSimpArgs false
/-- What Bytes answers. -/
def TakeEnd (w w' : World) (base br k : Nat) (r : List UInt8) (e : Ending) : Prop :=
 (r.length < k ∧ e = .returned (.tuple #[.slice none 0 0, .int .i64 3]) ∧ Below w.heap.size w w') ∨ (k ≤ r.length ∧ ∃ A c, e = .returned (.tuple #[.slice A k c, .int .i64 0]) ∧ OwnB w' w.heap.size A c (r.take k) ∧ Rd w' base br (r.drop k) ∧ Below base w w' ∧ KeptT [144] w w')
set_option maxHeartbeats 4000000 in
set_option maxRecDepth 100000 in
theorem take142 (base br k : Nat) (r : List UInt8) (w : World) (h : Rd w base br r) :
  Calls Tryz.prog 142 #[.pointer (some ⟨br, 0, none⟩), .int .i64 k] w fun e w' => TakeEnd w w' base br k r e := by
 have hlf := Aside0.mk (left112 base br r w h)
 obtain ⟨bs, A, c, xs, pos, ha, ho, hpos, hr, hxl, hb1, hb2⟩ := h
 have hn := Aside0.mk (none143 br bs _ c pos A w ha)
 have hbase : base ≤ w.heap.size := Nat.le_trans hb1 (Nat.le_of_lt (Array.getElem?_eq_some_iff.1 ha.rd).1)
 have hcap := own_cap ho
 have hrl : r.length = xs.length - pos := by rw [hr]; exact List.length_drop
 have HA := Aside0.mk (And.intro ha ho)
 have HB := Aside0.mk (And.intro hxl (And.intro hb1 (And.intro hb2 hbase)))
 have HR := Aside0.mk (And.intro hr hrl)
 have HC := Aside0.mk (And.intro hpos hcap)
 obtain ⟨n, hn0⟩ : ∃ n, n = xs.length := ⟨_, rfl⟩
 have HN := Aside0.mk hn0
 obtain ⟨rl, hrl0⟩ : ∃ rl, rl = r.length := ⟨_, rfl⟩
 rw [← hrl0] at hlf
 have HRL := Aside0.mk hrl0
 have HSH := Aside0.mk (show w.heap[bs]? = some (.cells #[.slice A n c, .int .i64 pos] 144 (0, 0)) by rw [hn0]; exact ha.sh)
 have HRD := Aside0.mk ha.rd
 have k0 : ¬ (k : Int) < 0 := by omega
 by_cases hlt : rl < k
 ·have hltz : (rl : Int) < (k : Int) := by omega
  have HLT := Aside0.mk (show r.length < k by omega)
  clear ha ho hpos hr hxl hb1 hb2 hbase hcap hrl hn0 hrl0 hlt
  go_enter Tryz.func142, Tryz.ntmps142
  go_upto_region 5 with (go_at_call 143; refine hn.out.mono ?_; rintro e w' ⟨rfl, rfl⟩)
  go_wp2_with (go_at_call 112; refine hlf.out.mono ?_; rintro e w2 ⟨rfl, hb⟩)
  go_ret2
  exact .inl ⟨HLT.out, rfl, hb⟩
 ·have hltz : ¬ (rl : Int) < (k : Int) := by omega
  have HLT := Aside0.mk (show k ≤ r.length by omega)
  clear ha ho hpos hr hxl hb1 hb2 hbase hcap hrl hn0 hrl0 hlt
  go_enter Tryz.func142, Tryz.ntmps142
  go_upto_region 5 with (go_at_call 143; refine hn.out.mono ?_; rintro e w' ⟨rfl, rfl⟩)
  go_upto_region 7 with (go_at_call 112; refine hlf.out.mono ?_; rintro e w2 ⟨rfl, hb⟩)
  have HB2 := Aside0.mk hb
  clear hb hlf hn
  have hrs := Aside0.mk (rest145 bs n c pos A w2 (room_at HSH.out HB2.out) (by have := HC.out.1; have := HN.out; omega))
  obtain ⟨d1, d2, d3, d4⟩ := (RdAt.mk (room_at HRD.out HB2.out) (room_at HSH.out HB2.out)).cells
  obtain ⟨A', hA'⟩ : ∃ A', A' = (if c = pos then A else A.map (·.add pos)) := ⟨_, rfl⟩
  have HA' := Aside0.mk hA'
  rw [← hA'] at hrs
  clear hA'
  have hsl := slice67h A' (n - pos) (c - pos) k (by have h1 := HLT.out; have h2 := HR.out.2; have h3 := HC.out; have h4 := HN.out; omega)
  have HTK := Aside0.mk (show (r.take k).length = k by rw [List.length_take]; have := HLT.out; omega)
  have HCL := Aside0.mk (fun (W : World) (hb : Below w2.heap.size w2 W) => ((clone_bytes A' k (c - pos) (r.take k) (by rw [List.length_take]; have := HLT.out; omega) W (by
   have h1 := HLT.out
   have h2 := HR.out.2
   have h3 := HC.out
   have h4 := HN.out
   have := src_slice (c := c) (lo := pos) (hi := pos + k) (HA.out.2.src.grown (below_step HB2.out hb)) (by omega) (by omega) (by omega)
   rw [← HA'.out, show pos + k - pos = k by omega, ← HR.out.1] at this
   rw [List.length_take, Nat.min_eq_left h1]
   exact this) (by rw [List.length_take]; have h1 := HR.out.2; have := HB.out.1; omega)).mono fun e w' hh => (by
   obtain ⟨A9, c9, rfl, h1, h2⟩ := hh
   rw [HTK.out]
   exact ⟨A9, c9, rfl, h1, h2⟩ : ∃ A9 c9, e = .returned (.slice A9 k c9) ∧ OwnB w' W.heap.size A9 c9 (r.take k) ∧ Below W.heap.size W w')))
  go_upto_region 8 with (first | (go_at_call 145; refine hrs.out.mono ?_; rintro e w3 ⟨rfl, hb3⟩) | (go_at_call 100; refine (HCL.out _ hb3).mono ?_; intro e w4 h5; obtain ⟨A9, c9, rfl, ho9, hb9⟩ := h5))
  have HO9 := Aside0.mk ho9
  have HB9 := Aside0.mk (below_step HB2.out (below_step hb3 hb9))
  have HW := Aside0.mk (show w'.heap.size ≤ w3.heap.size from Nat.le_trans HB2.out.size hb3.size)
  clear ho9 hb9 hb3 hrs hsl d1 d2 d3 d4
  obtain ⟨d1, d2, d3, d4⟩ := (RdAt.mk (room_at HRD.out HB9.out) (room_at HSH.out HB9.out)).cells
  have hps : pos + k ≤ 140737488355328 := by have h1 := HLT.out; have h2 := HR.out.2; have h3 := HC.out; have h4 := HB.out; omega
  go_wp2_with fail
  go_ret2
  obtain ⟨r1, r2, r3⟩ := rd_step (s := k) HA.out.1 HA.out.2 HB.out.1 HB.out.2.1 HB.out.2.2.1 (by have h1 := HLT.out; have h2 := HR.out.2; have h3 := HC.out; omega) HB9.out HB.out.2.2.2
  refine .inr ⟨HLT.out, A9, c9, rfl, ?_, ?_, r2, r3⟩
  ·have h1 := own_weaken HO9.out HW.out
   exact own_setCellT h1 (room_at HSH.out HB9.out) (by decide) _
  ·rw [HR.out.1]; exact r1
end Go.Proofs.YthnpiimiimiijaaGreatDoor.Dir
end
section
namespace Go.Proofs.YthnpiimiimiijaaGreatDoor.Dir
open Go Go.RowKit Go.Proofs Go.Proofs.YthnpiimiimiijaaGreatDoorW.PrintWords Go.Proofs.YthnpiimiimiijaaGreatDoorW.PrintLast Go.Proofs.YthnpiimiimiijaaGreatDoorW.PrintMore
set_option linter.unusedVariables false
set_option linter.unusedSimpArgs false
theorem lit144_ok (q u p : Addr) (w : World) (hq : w.cell? q = some (.int .i64 0)) :
  CallsD Tryz.prog 144 #[.pointer (some q), .pointer (some u), .pointer (some p)] .returning w fun e u' w' => u' = .returning ∧ e = .returned (.tuple #[]) ∧ w' = w := by
 go_enter_d Tryz.func144, Tryz.ntmps144
 go_wp2
 go_end0
 exact ⟨rfl, rfl⟩
set_option maxHeartbeats 2000000 in
theorem lit144_bad (q u p br bs n c pos pos2 : Nat) (A : Option Addr) (cd : Int) (hcd : cd ≠ 0) (w : World) (hq : w.cell? ⟨q, 0, none⟩ = some (.int .i64 cd)) (hu : w.cell? ⟨u, 0, none⟩ = some (.int .i64 pos2)) (hp : w.cell? ⟨p, 0, none⟩ = some (.pointer (some ⟨br, 0, none⟩))) (h : RdAt w br bs A n c pos) :
  CallsD Tryz.prog 144 #[.pointer (some ⟨q, 0, none⟩), .pointer (some ⟨u, 0, none⟩), .pointer (some ⟨p, 0, none⟩)] .returning w fun e u' w' => u' = .returning ∧ e = .returned (.tuple #[]) ∧ w' = (w.setCell ⟨bs, 1, none⟩ (.int .i64 pos2)).drew := by
 obtain ⟨d1, d2, d3, d4⟩ := h.cells
 go_enter_d Tryz.func144, Tryz.ntmps144
 go_wp2
 go_region
 go_end0
 exact ⟨rfl, rfl⟩
/-- Some bytes off a row; a number; bytes behind how many they are. -/
def takeP (s : Nat) (l : List UInt8) : Except Int (List UInt8 × List UInt8) := if l.length < s then .error 3 else .ok (l.take s, l.drop s)
def getP (s : Nat) (l : List UInt8) : Except Int (Nat × List UInt8) :=
 match takeP s l with
 | .error c => .error c
 | .ok (a, r) => .ok (natB a, r)
def octP (m : Nat) (l : List UInt8) : Except Int (List UInt8 × List UInt8) :=
 match getP 2 l with
 | .error c => .error c
 | .ok (n, r) => if m < n then .error 5 else takeP n r
theorem takeP_no {s : Nat} {l : List UInt8} (h : l.length < s) : takeP s l = .error 3 := if_pos h
theorem takeP_yes {s : Nat} {l : List UInt8} (h : s ≤ l.length) : takeP s l = .ok (l.take s, l.drop s) := if_neg (by omega)
theorem getP_no {s : Nat} {l : List UInt8} (h : l.length < s) : getP s l = .error 3 := by unfold getP; rw [takeP_no h]
theorem getP_yes {s : Nat} {l : List UInt8} (h : s ≤ l.length) : getP s l = .ok (natB (l.take s), l.drop s) := by unfold getP; rw [takeP_yes h]
/-- What Octets answers. -/
def OctEnd (w w' : World) (base br m : Nat) (r : List UInt8) (e : Ending) : Prop :=
 (∃ c, c ≠ 0 ∧ octP m r = .error c ∧ e = .returned (.tuple #[.slice none 0 0, .int .i64 c])) ∨ (∃ a r' A c, octP m r = .ok (a, r') ∧ e = .returned (.tuple #[.slice A a.length c, .int .i64 0]) ∧ OwnB w' w.heap.size A c a ∧ Rd w' base br r')
/-- The three blocks of Octets' own. -/
structure Oc (w W : World) (p : Nat) (br : Nat) (cd pos : Int) : Prop where
 b0 : W.heap[p]? = some (.cells #[.pointer (some ⟨br, 0, none⟩)] 111 (0, 0))
 b1 : W.heap[p + 1]? = some (.cells #[.int .i64 cd] 28 (0, 0))
 b2 : W.heap[p + 2]? = some (.cells #[.int .i64 pos] 3 (0, 0))
theorem Oc.kept {w W W' : World} {p br : Nat} {cd pos : Int} (h : Oc w W p br cd pos) (hk : KeptT [144] W W') : Oc w W' p br cd pos := ⟨hk _ _ _ _ h.b0 (by decide), hk _ _ _ _ h.b1 (by decide), hk _ _ _ _ h.b2 (by decide)⟩
theorem Oc.set {w W : World} {p br : Nat} {cd pos : Int} (h : Oc w W p br cd pos) (v : Int) : Oc w (W.setCell ⟨p + 1, 0, none⟩ (.int .i64 v)) p br v pos :=
 ⟨(Below.heap_setCell _ _ _ _ (by simp)).trans h.b0, by rw [heap_setCell_same W (p + 1) 0 _ _ _ h.b1]; rfl, (Below.heap_setCell _ _ _ _ (by simp)).trans h.b2⟩
theorem Oc.cells {w W : World} {p br : Nat} {cd pos : Int} (h : Oc w W p br cd pos) : W.cell? ⟨p, 0, none⟩ = some (.pointer (some ⟨br, 0, none⟩)) ∧ W.cell? ⟨p + 1, 0, none⟩ = some (.int .i64 cd) ∧ W.cell? ⟨p + 2, 0, none⟩ = some (.int .i64 pos) ∧ W.frozen? ⟨p + 1, 0, none⟩ = false := by
 refine ⟨?_, ?_, ?_, frozen_of_heap h.b1⟩
 ·rw [cell_of_heap h.b0]; rfl
 ·rw [cell_of_heap h.b1]; rfl
 ·rw [cell_of_heap h.b2]; rfl
theorem Rd.at {w : World} {base br : Nat} {r : List UInt8} (h : Rd w base br r) : ∃ bs A n c pos, RdAt w br bs A n c pos ∧ base ≤ bs := by
 obtain ⟨bs, A, c, xs, pos, ha, -, -, -, -, -, h7⟩ := h
 exact ⟨bs, A, _, c, pos, ha, h7⟩
theorem keptT_drew (ts : List TypeId) (w : World) : KeptT ts w w.drew := fun _ _ _ _ h _ => h
set_option maxHeartbeats 4000000 in
set_option maxRecDepth 100000 in
/-- The door behind an error. -/
theorem oct_door {w W : World} {base p br bs n c pos pos2 : Nat} {A : Option Addr} {cd : Int} {tmps : Array Value} {Q : Ending → World → Prop} (h4 : tmps[4]? = some (.slice none 0 0)) (h5 : tmps[5]? = some (.pointer (some ⟨p + 1, 0, none⟩))) (hcd : cd ≠ 0)
  (hO : Oc w W p br cd pos2) (hA : RdAt W br bs A n c pos) (hbs : base ≤ bs) (hb : Below base w W) (hk : KeptT [144] w W)
  (hQ : ∀ w', Below base w w' → KeptT [144] w w' → Q (.returned (.tuple #[.slice none 0 0, .int .i64 cd])) w') :
  bodyPostD Tryz.prog Tryz.f110 Q Exit.ret { tmps := tmps, defers := [{ target := Target.fn (Fn.func 144) #[.pointer (some ⟨p + 1, 0, none⟩), .pointer (some ⟨p + 2, 0, none⟩), .pointer (some ⟨p, 0, none⟩)], args := #[] }] } W := by
 obtain ⟨c0, c1, c2, -⟩ := hO.cells
 refine leaves_cons (f := 144) (args := #[.pointer (some ⟨p + 1, 0, none⟩), .pointer (some ⟨p + 2, 0, none⟩), .pointer (some ⟨p, 0, none⟩)]) (by simp) (by simp [go_sem]) ?_
 refine (lit144_bad (p + 1) (p + 2) p br bs n c pos pos2 A cd hcd W c1 c2 c0 hA).mono ?_
 rintro e u' w2 ⟨rfl, rfl, rfl⟩
 have hb2 := (hb.setCell (p := ⟨bs, 1, none⟩) hbs (.int .i64 pos2)).drew
 have hk2 := (hk.trans (KeptT.setCell (j := 1) hA.sh (by decide) (.int .i64 (pos2 : Int)))).trans (keptT_drew [144] _)
 have c1' : ((W.setCell ⟨bs, 1, none⟩ (.int .i64 pos2)).drew).cell? ⟨p + 1, 0, none⟩ = some (.int .i64 cd) := by
  have := (KeptT.setCell (j := 1) hA.sh (by decide : (144 : Nat) ∈ [144]) (.int .i64 (pos2 : Int))) _ _ _ _ hO.b1 (by decide)
  rw [World.cell?_drew, cell_of_heap this]
  rfl
 simp [Leaves, settle, results, Tryz.results110, go_sem, h4, h5, c1']
 exact hQ _ hb2 hk2
theorem KeptT.new {ts : List TypeId} {w W : World} (h : KeptT ts w W) {b : Nat} (hb : w.heap.size ≤ b) (j : Nat) (u : Value) : KeptT ts w (W.setCell ⟨b, j, none⟩ u) := fun g cs T fr hg ht => by
 have hlt := (Array.getElem?_eq_some_iff.1 hg).1
 have hne : g ≠ b := by omega
 rw [Below.heap_setCell _ _ _ _ (fun e => by first | exact hne e | exact hne e.symm)]
 exact h g cs T fr hg ht
/-- Octets on its way. -/
structure OcS (w W : World) (base p br : Nat) (cd : Int) (pos : Nat) : Prop where
 o : Oc w W p br cd pos
 r : ∃ bs A n c q, RdAt W br bs A n c q ∧ base ≤ bs
 b : Below base w W
 k : KeptT [144] w W
 lo : w.heap.size ≤ p
 ba : base ≤ w.heap.size
theorem OcS.set {w W : World} {base p br pos : Nat} {cd : Int} (h : OcS w W base p br cd pos) (v : Int) : OcS w (W.setCell ⟨p + 1, 0, none⟩ (.int .i64 v)) base p br v pos := by
 obtain ⟨bs, A, n, c, q, ha, hbs⟩ := h.r
 have hk := KeptT.setCell (j := 0) h.o.b1 (by decide : (28 : Nat) ∈ [28]) (.int .i64 v)
 exact ⟨h.o.set v, ⟨bs, A, n, c, q, ⟨hk _ _ _ _ ha.rd (by decide), hk _ _ _ _ ha.sh (by decide)⟩, hbs⟩, h.b.setCell (Nat.le_trans h.ba (Nat.le_trans h.lo (by simp))) _, h.k.new (Nat.le_trans h.lo (by simp)) 0 _, h.lo, h.ba⟩
theorem OcS.drew {w W : World} {base p br pos : Nat} {cd : Int} (h : OcS w W base p br cd pos) : OcS w W.drew base p br cd pos := by
 obtain ⟨bs, A, n, c, q, ha, hbs⟩ := h.r
 exact ⟨⟨h.o.b0, h.o.b1, h.o.b2⟩, ⟨bs, A, n, c, q, ⟨ha.rd, ha.sh⟩, hbs⟩, h.b.drew, h.k.trans (keptT_drew _ _), h.lo, h.ba⟩
theorem OcS.step {w W W' : World} {base p br pos : Nat} {cd : Int} (h : OcS w W base p br cd pos) (hb : Below base W W') (hk : KeptT [144] W W') (hr : ∃ bs A n c q, RdAt W' br bs A n c q ∧ base ≤ bs) : OcS w W' base p br cd pos :=
 ⟨h.o.kept hk, hr, h.b.trans hb, h.k.trans hk, h.lo, h.ba⟩
theorem OcS.door {w W : World} {base p br pos : Nat} {cd : Int} {tmps : Array Value} {Q : Ending → World → Prop} (h : OcS w W base p br cd pos) (h4 : tmps[4]? = some (.slice none 0 0)) (h5 : tmps[5]? = some (.pointer (some ⟨p + 1, 0, none⟩))) (hcd : cd ≠ 0)
  (hQ : ∀ w', Below base w w' → KeptT [144] w w' → Q (.returned (.tuple #[.slice none 0 0, .int .i64 cd])) w') :
  bodyPostD Tryz.prog Tryz.f110 Q Exit.ret { tmps := tmps, defers := [{ target := Target.fn (Fn.func 144) #[.pointer (some ⟨p + 1, 0, none⟩), .pointer (some ⟨p + 2, 0, none⟩), .pointer (some ⟨p, 0, none⟩)], args := #[] }] } W := by
 obtain ⟨bs, A, n, c, q, ha, hbs⟩ := h.r
 exact oct_door h4 h5 hcd h.o ha hbs h.b h.k hQ
theorem oct_yes {w W : World} {base p br pos : Nat} {tmps : Array Value} {v : Value} {Q : Ending → World → Prop} (h : OcS w W base p br 0 pos) (h4 : tmps[4]? = some v) (h5 : tmps[5]? = some (.pointer (some ⟨p + 1, 0, none⟩))) (hQ : Q (.returned (.tuple #[v, .int .i64 0])) W) :
  bodyPostD Tryz.prog Tryz.f110 Q Exit.ret { tmps := tmps, defers := [{ target := Target.fn (Fn.func 144) #[.pointer (some ⟨p + 1, 0, none⟩), .pointer (some ⟨p + 2, 0, none⟩), .pointer (some ⟨p, 0, none⟩)], args := #[] }] } W := by
 obtain ⟨c0, c1, c2, -⟩ := h.o.cells
 refine leaves_cons (f := 144) (args := #[.pointer (some ⟨p + 1, 0, none⟩), .pointer (some ⟨p + 2, 0, none⟩), .pointer (some ⟨p, 0, none⟩)]) (by simp) (by simp [go_sem]) ?_
 refine (lit144_ok _ _ _ W c1).mono ?_
 rintro e u' w2 ⟨rfl, rfl, rfl⟩
 simp [Leaves, settle, results, Tryz.results110, go_sem, h4, h5, c1]
 exact hQ
set_option maxHeartbeats 4000000 in
set_option maxRecDepth 100000 in
theorem octets110 (base br m : Nat) (r : List UInt8) (w : World) (h : Rd w base br r) :
  Calls Tryz.prog 110 #[.pointer (some ⟨br, 0, none⟩), .int .i64 m] w fun e w' => OctEnd w w' base br m r e ∧ Below base w w' ∧ KeptT [144] w w' := by
 have hmf : ∀ (fn : Fn) (first cap : Array Value) (w : World), (Instr.makeFunc fn first cap).run Tryz.prog w = .ok (.func fn first cap) w := fun _ _ _ _ => rfl
 obtain ⟨bs, A, n, c, pos, ha, hbs⟩ := h.at
 have hbase : base ≤ w.heap.size := Nat.le_trans hbs (Nat.le_of_lt (Array.getElem?_eq_some_iff.1 ha.sh).1)
 obtain ⟨p, hp⟩ : ∃ p, p = w.heap.size := ⟨_, rfl⟩
 obtain ⟨W1, hW1⟩ : ∃ W1, W1 = (w.alloc (.cells #[.pointer (some ⟨br, 0, none⟩)] 111)).alloc (.cells #[.int .i64 0] 28) := ⟨_, rfl⟩
 have hb1 : Below w.heap.size w W1 := by rw [hW1]; exact ((Below.refl _ w).alloc (Nat.le_refl _) _).alloc (by simp) _
 have q0 : W1.heap[p]? = some (.cells #[.pointer (some ⟨br, 0, none⟩)] 111 (0, 0)) := by rw [hW1, hp, Below.heap_alloc _ _ _ (by simp)]; exact heap_alloc_new w _
 have q1 : W1.heap[p + 1]? = some (.cells #[.int .i64 0] 28 (0, 0)) := by rw [hW1, hp]; have := heap_alloc_new (w.alloc (.cells #[.pointer (some ⟨br, 0, none⟩)] 111)) (.cells #[.int .i64 0] 28); simpa using this
 have hs1 : W1.heap.size = p + 2 := by rw [hW1, hp]; simp
 obtain ⟨W2, hW2⟩ : ∃ W2, W2 = W1.alloc (.cells #[.int .i64 pos] 3) := ⟨_, rfl⟩
 have hb2 : Below w.heap.size w W2 := by rw [hW2]; exact hb1.alloc hb1.size _
 have hO : Oc w W2 p br 0 pos := by
  have hbb := (Below.refl W1.heap.size W1).alloc (Nat.le_refl _) (.cells #[.int .i64 pos] 3)
  rw [hW2]
  exact ⟨room_at q0 hbb, room_at q1 hbb, by rw [← hs1]; exact heap_alloc_new W1 _⟩
 have hn := Aside0.mk (none143 br bs n c pos A W1 (ha.later hb1))
 obtain ⟨d1, d2, d3, d4⟩ := (ha.later hb1).cells
 have c0 : W1.cell? ⟨p, 0, none⟩ = some (.pointer (some ⟨br, 0, none⟩)) := by rw [cell_of_heap q0]; rfl
 have HG : Aside0 (Calls Tryz.prog 141 #[.pointer (some ⟨br, 0, none⟩), .int .i64 2] W2 fun e w' => GetEnd W2 w' base br 2 r e) := ⟨get141 base br 2 r W2 (h.below hb2) (by decide) (by decide)⟩
 have HRD := Aside0.mk h
 have HO := Aside0.mk hO
 have HB2 := Aside0.mk hb2
 have HBS := Aside0.mk (And.intro hbs hbase)
 have hsz : (w.alloc (.cells #[.pointer (some ⟨br, 0, none⟩)] 111)).heap.size = p + 1 := by rw [hp]; simp
 clear h ha hbs hbase hb1 hb2 hO q0 q1
 go_enter_defers Tryz.func110, Tryz.ntmps110
 go_upto_region 1 with fail
 rw [← hW1]
 try rw [hsz]
 rw [← hp]
 have HPP := Aside0.mk hp
 clear hW1 hsz hp
 go_upto_region 3 with (go_at_call 143; refine hn.out.mono ?_; rintro e w' ⟨rfl, rfl⟩)
 clear hn
 go_upto_region 4 with fail
 rw [← hW2]
 try rw [hs1]
 clear hW2 hs1 d1 d2 d3 d4 c0
 obtain ⟨c0, c1, c2, f1⟩ := HO.out.cells
 have HS := Aside0.mk (show OcS w W2 base p br 0 pos from ⟨HO.out, HRD.out.below HB2.out |>.at, HB2.out.mono HBS.out.2, KeptT.below HB2.out, Nat.le_of_eq HPP.out.symm, HBS.out.2⟩)
 go_wp2_with fail
 refine HG.out.mono ?_
 intro e w3 hG
 rcases hG with ⟨hlt, rfl, hb3⟩ | ⟨hle, rfl, hrd, hb3, hk3⟩
 ·have hS3 := HS.out.step (hb3.mono (Nat.le_trans HBS.out.2 HB2.out.size)) (KeptT.below hb3) ((HRD.out.below HB2.out).below hb3).at
  obtain ⟨e0, e1, e2, e3⟩ := hS3.o.cells
  have HS3 := Aside0.mk hS3
  have HLT := Aside0.mk (show octP m r = .error 3 by unfold octP; rw [getP_no hlt])
  clear hlt hb3 c0 c1 c2 f1 hS3
  go_wp2_with fail
  go_region
  go_wp2
  refine ((HS3.out.set 3).set 3).drew.door rfl rfl (by decide) fun w' g1 g2 => ⟨.inl ⟨3, by decide, HLT.out, rfl⟩, g1, g2⟩
 ·have hS3 := HS.out.step hb3 hk3 hrd.at
  obtain ⟨e0, e1, e2, e3⟩ := hS3.o.cells
  have HS3 := Aside0.mk hS3
  have HRD3 := Aside0.mk hrd
  have HW3 := Aside0.mk (show W2.heap.size ≤ w3.heap.size from hb3.size)
  have HGP := Aside0.mk (getP_yes hle)
  obtain ⟨k, hk⟩ : ∃ k, k = natB (r.take 2) := ⟨_, rfl⟩
  obtain ⟨r2, hr2⟩ : ∃ r2, r2 = r.drop 2 := ⟨_, rfl⟩
  rw [← hk, ← hr2] at HGP
  rw [← hr2] at HRD3
  rw [← hk]
  clear hle hb3 hk3 hrd c0 c1 c2 f1 hS3 hk hr2
  by_cases hm : m < k
  ·have hmz : (m : Int) < (k : Int) := by omega
   have HLT := Aside0.mk (show octP m r = .error 5 by unfold octP; rw [HGP.out]; exact if_pos hm)
   clear hm
   go_wp2_with fail
   refine ((HS3.out.set 0).set 5).door rfl rfl (by decide) fun w' g1 g2 => ⟨.inl ⟨5, by decide, HLT.out, rfl⟩, g1, g2⟩
  ·have hmz : ¬ (m : Int) < (k : Int) := by omega
   have HLT := Aside0.mk (show octP m r = takeP k r2 by unfold octP; rw [HGP.out]; exact if_neg hm)
   have hk0 := KeptT.setCell (j := 0) HS3.out.o.b1 (by decide : (28 : Nat) ∈ [28]) (.int .i64 0)
   have HT := Aside0.mk (take142 base br k r2 (w3.setCell ⟨p + 1, 0, none⟩ (.int .i64 0)) (HRD3.out.kept hk0 (by decide) (by decide) (by decide)))
   have hS4 := HS3.out.set 0
   obtain ⟨g0, g1, g2, g3⟩ := hS4.o.cells
   have HS4 := Aside0.mk hS4
   have HRD4 := Aside0.mk (HRD3.out.kept hk0 (by decide) (by decide) (by decide))
   obtain ⟨w4, hw4⟩ : ∃ w4, w4 = w3.setCell ⟨p + 1, 0, none⟩ (.int .i64 0) := ⟨_, rfl⟩
   have HW4 := Aside0.mk (show w3.heap.size = w4.heap.size by rw [hw4]; simp [World.setCell])
   clear hm hk0 hS4
   go_upto_region 6 with fail
   rw [← hw4] at HT HS4 HRD4 g0 g1 g2 g3 ⊢
   clear hw4 e0 e1 e2 e3
   go_wp2_with fail
   refine HT.out.mono ?_
   intro e w5 hT
   rcases hT with ⟨hlt, rfl, hb5⟩ | ⟨hle, A5, c5, rfl, ho5, hrd5, hb5, hk5⟩
   ·have hS5 := HS4.out.step (hb5.mono (Nat.le_trans (Nat.le_trans HBS.out.2 HB2.out.size) (by rw [← HW4.out]; exact HW3.out))) (KeptT.below hb5) (HRD4.out.below hb5).at
    obtain ⟨e0, e1, e2, e3⟩ := hS5.o.cells
    have HS5 := Aside0.mk hS5
    have HL5 := Aside0.mk (takeP_no hlt)
    clear hlt hb5 g0 g1 g2 g3 hS5
    go_wp2_with fail
    refine (HS5.out.set 3).door rfl rfl (by decide) fun w' g1 g2 => ⟨.inl ⟨3, by decide, HLT.out.trans HL5.out, rfl⟩, g1, g2⟩
   ·have hS5 := HS4.out.step hb5 hk5 hrd5.at
    obtain ⟨e0, e1, e2, e3⟩ := hS5.o.cells
    have HS5 := Aside0.mk hS5
    have HL5 := Aside0.mk (takeP_yes hle)
    have HR5 := Aside0.mk hrd5
    have HO5 := Aside0.mk (own_weaken ho5 (show w.heap.size ≤ w4.heap.size from Nat.le_trans HB2.out.size (by rw [← HW4.out]; exact HW3.out)))
    have HTL := Aside0.mk (show (r2.take k).length = k by rw [List.length_take]; omega)
    clear hle hb5 hk5 hrd5 ho5 g0 g1 g2 g3 hS5
    go_wp2_with fail
    refine oct_yes (HS5.out.set 0) rfl rfl ⟨.inr ⟨r2.take k, r2.drop k, A5, c5, HLT.out.trans HL5.out, by rw [HTL.out]; rfl, ?_, ?_⟩, (HS5.out.set 0).b, (HS5.out.set 0).k⟩
    ·exact own_setCellT HO5.out HS5.out.o.b1 (by decide) _
    ·exact HR5.out.kept (KeptT.setCell (j := 0) HS5.out.o.b1 (by decide : (28 : Nat) ∈ [28]) (.int .i64 0)) (by decide) (by decide) (by decide)
end Go.Proofs.YthnpiimiimiijaaGreatDoor.Dir
end
