/- Rows of asks, as the walks read them. -/
import Derived.Test.YthnpiimiimiijaaGreatDoorDirWorks
namespace Go.Proofs.YthnpiimiimiijaaGreatDoor.Dir
open Go Go.RowKit Go.Proofs Go.Proofs.YthnpiimiimiijaaGreatDoorW.PrintWords Go.Proofs.YthnpiimiimiijaaGreatDoorW.PrintLast Go.Proofs.YthnpiimiimiijaaGreatDoorW.PrintMore
set_option linter.unusedVariables false
set_option linter.unusedSimpArgs false
def k38 : Kd AskV := Kd.iso (Kd.pair (Kd.int .i64) (Kd.pair (Kd.int .i64) (Kd.pair (Kd.int .i64) (Kd.int .i64)))) (fun x : AskV => (x.kind, x.node, x.key, x.at_))
theorem k38_open {w : World} {x : AskV} {cs : List Value} (h : k38.K w x cs) : cs = [.int .i64 x.kind, .int .i64 x.node, .int .i64 x.key, .int .i64 x.at_] := by
  obtain ⟨_, _, rfl, rfl, ⟨_, _, rfl, rfl, ⟨_, _, rfl, rfl, rfl⟩⟩⟩ := h
  exact rfl
theorem k38_mk (w : World) (x : AskV)  : k38.K w x [.int .i64 x.kind, .int .i64 x.node, .int .i64 x.key, .int .i64 x.at_] := ⟨[.int .i64 x.kind], [.int .i64 x.node, .int .i64 x.key, .int .i64 x.at_], rfl, rfl, ⟨[.int .i64 x.node], [.int .i64 x.key, .int .i64 x.at_], rfl, rfl, ⟨[.int .i64 x.key], [.int .i64 x.at_], rfl, rfl, rfl⟩⟩⟩
def rd_T38 (xs : List AskV) (i : Int) : AskV := xs.getD i.toNat ⟨0, 0, 0, 0⟩
theorem at_T38 {w : World} {A : Option Addr} {n : Nat} {xs : List AskV} (h : Kd.C k38 w A n xs) (i : Int) (h0 : 0 ≤ i) (h1 : i < n) : ∃ ad , A = some ad ∧ w.cell? (ad.add (i.toNat * 4)) = some (.int .i64 (rd_T38 xs i).kind) ∧ w.cell? ⟨(ad.add (i.toNat * 4)).block, (ad.add (i.toNat * 4)).off + 1, none⟩ = some (.int .i64 (rd_T38 xs i).node) ∧ w.cell? ⟨(ad.add (i.toNat * 4)).block, (ad.add (i.toNat * 4)).off + 2, none⟩ = some (.int .i64 (rd_T38 xs i).key) ∧ w.cell? ⟨(ad.add (i.toNat * 4)).block, (ad.add (i.toNat * 4)).off + 3, none⟩ = some (.int .i64 (rd_T38 xs i).at_) := by
  obtain ⟨ad, c, e, _, hK, hc0⟩ := Kd.C_get h (⟨0, 0, 0, 0⟩ : AskV) i h0 h1
  have hc : ∀ j u, c[j]? = some u → w.cell? (ad.add (i.toNat * 4 + j)) = some u := hc0
  obtain rfl := k38_open hK
  exact ⟨ad, e, hc 0 _ rfl, by rw [← add_field _ _ 1 (by omega)]; exact hc 1 _ rfl, by rw [← add_field _ _ 2 (by omega)]; exact hc 2 _ rfl, by rw [← add_field _ _ 3 (by omega)]; exact hc 3 _ rfl⟩
theorem askOp_in (a : AskV) : OpIn (askOp a) := by
  unfold askOp OpIn
  split
  · unfold regOp; simp only; omega
  · split
    · unfold rotOp; simp only; omega
    · split
      · unfold revOp; simp only; omega
      · unfold advOp; simp
/-- An ask of the row, in a later world. -/
theorem ask_later {w W : World} {A : Option Addr} {n : Nat} {xs : List AskV} (h : Kd.C k38 w A n xs) (hb : Below w.heap.size w W) (i : Nat) (h1 : i < n) : ∃ ad , A = some ad ∧ W.cell? (ad.add (i * 4)) = some (.int .i64 (rd_T38 xs i).kind) ∧ W.cell? ⟨(ad.add (i * 4)).block, (ad.add (i * 4)).off + 1, none⟩ = some (.int .i64 (rd_T38 xs i).node) ∧ W.cell? ⟨(ad.add (i * 4)).block, (ad.add (i * 4)).off + 2, none⟩ = some (.int .i64 (rd_T38 xs i).key) ∧ W.cell? ⟨(ad.add (i * 4)).block, (ad.add (i * 4)).off + 3, none⟩ = some (.int .i64 (rd_T38 xs i).at_) := by
  obtain ⟨ad, e, h2, h3, h4, h5⟩ := at_T38 h i (by omega) (by omega)
  rw [Int.toNat_natCast] at h2 h3 h4 h5
  exact ⟨ad, e, (hb.cell (World.block_lt_of_cell? w _ h2)).trans h2, (hb.cell (World.block_lt_of_cell? w _ h3)).trans h3, (hb.cell (World.block_lt_of_cell? w _ h4)).trans h4, (hb.cell (World.block_lt_of_cell? w _ h5)).trans h5⟩
end Go.Proofs.YthnpiimiimiijaaGreatDoor.Dir
