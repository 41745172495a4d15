/- A slice of ints among the arguments, as the walks read it. -/
import Derived.Test.YtglnnlpkhjijhaaDoorArgs
namespace Go.Proofs.YtglnnlpkhjijhaaDoor.PA
open Go.ChangeShapes Go.WideShapes Go.ChangeAt Go.RowKit Go.Deep
open Go.Proofs.YtglnnlpkhjijhaaDoorW.PrintWords Go.Proofs.YtglnnlpkhjijhaaDoorW.PrintLast Go.Proofs.YtglnnlpkhjijhaaDoorW.PrintMore
set_option maxRecDepth 100000
theorem ints_of_trod {H : Type} {enc : TypeId × Value → H} {W : World} {base : Nat} {sp : Nat → Bool} {held : Bool} {a : Option Addr} {len cap : Nat} {d : DataW H} {ps : List MemPlace} (h : DataW.Trod enc Tryd.prog W base sp held 34 (.slice a len cap) d ps) :
    ∃ zs : List Int, zs.length = len ∧ len ≤ cap ∧ Kd.C (Kd.int .i64) W a zs.length zs := by
  obtain ⟨fuel, hf⟩ := h
  rcases open_slice1 Tryd.underlying34 cells3 hf with ⟨hcs, _⟩ | ⟨ad, l, c, m, n, V, D, Pl, hcs, _, hl, hm, hmm, _, hx⟩
  · simp [Value.cells] at hcs
    obtain ⟨rfl, rfl, rfl⟩ := hcs
    exact ⟨[], rfl, Nat.le_refl _, rfl, by simp, fun h => absurd h (by simp)⟩
  · simp [Value.cells] at hcs
    obtain ⟨rfl, rfl, rfl⟩ := hcs
    have hlm : len ≤ m := by rw [hmm]; split <;> omega
    obtain ⟨S, hS⟩ := choose_lt (α := Int) (n := len) (p := fun i z => W.cell? (ad.add i) = some (.int .i64 z)) (fun i hi => by
      obtain ⟨h1, h2⟩ := hx i (by omega)
      obtain ⟨z, e, _⟩ := DataW.trod_int Tryd.underlying3 h2
      exact ⟨z, h1.trans (by rw [List.cons.inj e |>.1])⟩)
    refine ⟨(List.range len).map S, by simp, hl, by simp, by simp; unfold maxLen at hm; omega, fun _ => ⟨ad, rfl, fun j p hj => ?_⟩⟩
    have hj' : j < len := by have := (List.getElem?_eq_some_iff.1 hj).1; simpa using this
    obtain rfl : S j = p := by simpa [hj'] using hj
    refine ⟨[.int .i64 (S j)], rfl, rfl, fun i u hu => ?_⟩
    match i, hu with
    | 0, hu =>
      have : ad.add (j * 1 + 0) = ad.add j := by rw [Nat.mul_one, Nat.add_zero]
      show W.cell? (ad.add (j * 1 + 0)) = some u
      rw [this, hS j hj']
      simpa using hu
    | i + 1, hu => simp at hu
end Go.Proofs.YtglnnlpkhjijhaaDoor.PA
