/- DirectNever: the state of its loops. -/
import Derived.Test.YthnpiimiimiijaaGreatDoorDirArr
namespace Go.Proofs.YthnpiimiimiijaaGreatDoor.Dir
open Go Go.RowKit Go.Proofs Go.Proofs.YthnpiimiimiijaaGreatDoorW.PrintWords Go.Proofs.YthnpiimiimiijaaGreatDoorW.PrintLast Go.Proofs.YthnpiimiimiijaaGreatDoorW.PrintMore
set_option linter.unusedVariables false
set_option linter.unusedSimpArgs false

/-- The node of the last device of a list that has a key. -/
def nodeIn (l : List Dev) (k : Key) : Int := l.foldl (fun v d => if d.key = k then d.node else v) 0
theorem nodeIn_next {l : List Dev} {k : Key} {j : Nat} {d : Dev} (h : l[j]? = some d) : nodeIn (l.take (j + 1)) k = if d.key = k then d.node else nodeIn (l.take j) k := by
  unfold nodeIn
  rw [List.take_add_one, h, List.foldl_append]
  rfl
theorem nodeFold (k : Key) : ∀ (l : List Dev) (v : Int), (l.map (·.key)).Nodup → l.foldl (fun v d => if d.key = k then d.node else v) v = (match l.find? (fun d => decide (d.key = k)) with | none => v | some d => d.node)
  | [], v, _ => rfl
  | d :: l, v, h => by
    obtain ⟨h1, h2⟩ := List.nodup_cons.1 h
    rw [List.foldl_cons, nodeFold k l _ h2, List.find?_cons]
    by_cases e : d.key = k
    · have hn : l.find? (fun d => decide (d.key = k)) = none := List.find?_eq_none.2 fun x hx hc => h1 (List.mem_map.2 ⟨x, hx, (of_decide_eq_true hc).trans e.symm⟩)
      rw [hn, if_pos e]
      simp [e]
    · rw [if_neg e]
      simp [e]
theorem nodeIn_all {b : Book} (hw : WF b) (k : Key) : nodeIn b.devs k = nodeOf b k := nodeFold k b.devs 0 (List.nodup_append.1 hw.keys).2.1

theorem BkSt.devAt {w : World} {bk g : Nat} {B : Book} {A2 : Option Addr} {c1 c2 : Nat} (h : BkSt w bk B (some ⟨g, 0, none⟩) c1 A2 c2) {j : Nat} {d : Dev} (hd : B.devs[j]? = some d) : w.cell? ⟨g, j * 35, none⟩ = some (.int .i64 d.node) ∧ w.cell? ⟨g, j * 35 + 34, none⟩ = some (.bool d.rev) := by
  obtain ⟨g', e, hc⟩ := h.dev hd
  cases e
  exact ⟨hc 0 _ rfl, hc 34 _ (by simp [encD, encK_len])⟩

structure NvSt (w1 W : World) (p : Nat) (B : Book) (bk : Nat) (A1 : Option Addr) (c1 : Nat) (A2 : Option Addr) (c2 : Nat) (rs : Nat) (e : Int) (gn : Nat) (G : Nat → Bool) (ho : Nat) (H : Nat → Int) (nw : Nat) (N : Nat → Int) : Prop where
  dir : DirSt w1 W p B
  book : BkSt W bk B A1 c1 A2 c2
  res : ∃ v, W.heap[rs]? = some (.cells #[.int .i64 e, v] 30 (0, 0))
  gone : Arr W gn 26 (fun n => .bool (G n))
  holds : Arr W ho 27 (fun n => .int .i64 (H n))
  now : Arr W nw 27 (fun n => .int .i64 (N n))
  ne : ho ≠ nw
  gnew : w1.heap.size ≤ gn
  hnew : w1.heap.size ≤ ho
  nnew : w1.heap.size ≤ nw
section
variable {w1 W W' : World} {p bk rs gn ho nw c1 c2 : Nat} {B : Book} {A1 A2 : Option Addr} {e : Int} {G : Nat → Bool} {H N : Nat → Int}
theorem NvSt.later (h : NvSt w1 W p B bk A1 c1 A2 c2 rs e gn G ho H nw N) (hb : Below W.heap.size W W') : NvSt w1 W' p B bk A1 c1 A2 c2 rs e gn G ho H nw N :=
  ⟨h.dir.later hb, h.book.later hb, h.res.imp fun v hv => (hb.block _ (Array.getElem?_eq_some_iff.1 hv).1).trans hv, h.gone.later hb, h.holds.later hb, h.now.later hb, h.ne, h.gnew, h.hnew, h.nnew⟩
theorem NvSt.cellR (h : NvSt w1 W p B bk A1 c1 A2 c2 rs e gn G ho H nw N) : W.cell? ⟨rs, 0, none⟩ = some (.int .i64 e) := by
  obtain ⟨v, hv⟩ := h.res
  rw [cell_of_heap hv]; rfl
theorem NvSt.setGone (h : NvSt w1 W p B bk A1 c1 A2 c2 rs e gn G ho H nw N) {V : Nat → Value} (ha : Arr W' gn 26 V) (hg : W.grownBy W' (some gn)) (G' : Nat → Bool) (hv : ∀ n, n < 30 → V n = .bool (G' n)) : NvSt w1 W' p B bk A1 c1 A2 c2 rs e gn G' ho H nw N :=
  have hq := h.gone.at_
  ⟨h.dir.other hq (by decide) (by decide) (by decide) h.gnew hg, h.book.other hq (by decide) (by decide) (by decide) hg, h.res.imp fun v hv => (hg.block _ (Array.getElem?_eq_some_iff.1 hv).1 (fun e => block_ne hv hq (by decide) (Option.some.inj e))).trans hv, ha.congr hv, h.holds.grown hg (block_ne h.holds.at_ hq (by decide)), h.now.grown hg (block_ne h.now.at_ hq (by decide)), h.ne, h.gnew, h.hnew, h.nnew⟩
theorem NvSt.setNow (h : NvSt w1 W p B bk A1 c1 A2 c2 rs e gn G ho H nw N) {V : Nat → Value} (ha : Arr W' nw 27 V) (hg : W.grownBy W' (some nw)) (N' : Nat → Int) (hv : ∀ n, n < 30 → V n = .int .i64 (N' n)) : NvSt w1 W' p B bk A1 c1 A2 c2 rs e gn G ho H nw N' :=
  have hq := h.now.at_
  ⟨h.dir.other hq (by decide) (by decide) (by decide) h.nnew hg, h.book.other hq (by decide) (by decide) (by decide) hg, h.res.imp fun v hv => (hg.block _ (Array.getElem?_eq_some_iff.1 hv).1 (fun e => block_ne hv hq (by decide) (Option.some.inj e))).trans hv, h.gone.grown hg (block_ne h.gone.at_ hq (by decide)), h.holds.grown hg h.ne, ha.congr hv, h.ne, h.gnew, h.hnew, h.nnew⟩
theorem NvSt.cast (h : NvSt w1 W p B bk A1 c1 A2 c2 rs e gn G ho H nw N) (N' : Nat → Int) (hN : ∀ n, n < 30 → N n = N' n) : NvSt w1 W p B bk A1 c1 A2 c2 rs e gn G ho H nw N' :=
  ⟨h.dir, h.book, h.res, h.gone, h.holds, h.now.congr fun n hn => by rw [hN n hn], h.ne, h.gnew, h.hnew, h.nnew⟩
/-- 'holds = now'. -/
theorem NvSt.turn (h : NvSt w1 W p B bk A1 c1 A2 c2 rs e gn G ho H nw N) : ∃ W', (Instr.storeAt 27 (.pointer (some ⟨ho, 0, none⟩)) (.agg (row30 fun n => .int .i64 (N n)).toArray)).run Tryz.prog W = .ok () W' ∧ DirSt w1 W' p B ∧ Arr W' gn 26 (fun n => .bool (G n)) ∧ Arr W' ho 27 (fun n => .int .i64 (N n)) := by
  have hq := h.holds.at_
  have hg := grownBy_setRow W ho (row30 fun n => .int .i64 (N n)).toArray
  refine ⟨_, run_storeFull Tryz.prog W 27 30 Tryz.sizeOf27 ho _ (row30_len _) (fun v hv => ?_) _ 27 hq (by simp [row30_len]), h.dir.other hq (by decide) (by decide) (by decide) h.hnew hg, h.gone.grown hg (block_ne h.gone.at_ hq (by decide)), ⟨setRow_heap W ho _ _ 27 _ hq⟩⟩
  obtain ⟨n, -, rfl⟩ := List.mem_map.1 hv
  rfl
theorem NvSt.loadNow (h : NvSt w1 W p B bk A1 c1 A2 c2 rs e gn G ho H nw N) : (Instr.loadAt 27 (.pointer (some ⟨nw, 0, none⟩))).run Tryz.prog W = .ok (.agg (row30 fun n => .int .i64 (N n)).toArray) W :=
  run_loadAtK Tryz.prog W 27 30 Tryz.isAgg27 Tryz.sizeOf27 nw 0 _ (row30_len _) (cells_of_heap h.now.at_)
end
/-- What Valid answers, its parts. -/
theorem validRes_parts (r : Option Int) : validRes r = .tuple #[.int .i64 (r.getD 0), .bool r.isSome] := by cases r <;> rfl
end Go.Proofs.YthnpiimiimiijaaGreatDoor.Dir
