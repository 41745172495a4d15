/- strings.ReplaceAll, for texts of fewer than 2^32 - 15 bytes whose result is short enough: out of the library's own contract, laid at this translation. -/
import Derived.Test.YtglnnlpkhjijhaaGreatDoorExtX
import Derived.Test.YtglnnlpkhjijhaaGreatDoorShelf
namespace Go.Proofs.YtglnnlpkhjijhaaGreatDoor.PA
open Go.RowKit
def strings_ReplaceAll.f (a0 a1 a2 : ByteArray) : Option ByteArray :=
  if a0.size < 4294967281 ∧ 1 ≤ a1.size ∧ a0.size + Lib.countB a0 a1 * a2.size ≤ 140737488355328 then some ⟨(Lib.replaceAll a0.data.toList a1.data.toList a2.data.toList).toArray⟩ else none
theorem strings_ReplaceAll.calls (a0 a1 a2 r : ByteArray) (w : World) (hx : LaidW w) (h : strings_ReplaceAll.f a0 a1 a2 = some r) :
    Calls Tryz.prog 39 #[.string a0, .string a1, .string a2] w fun e w' => e = .returned (.string r) ∧ Below w.heap.size w w' := by
  unfold strings_ReplaceAll.f at h
  by_cases hc : a0.size < 4294967281 ∧ 1 ≤ a1.size ∧ a0.size + Lib.countB a0 a1 * a2.size ≤ 140737488355328
  · rw [if_pos hc] at h
    obtain rfl := Option.some.inj h
    exact Tryz.strings_ReplaceAll_shaped a0 a1 a2 w hx.shaped hc.1 hc.2.1 hc.2.2
  · rw [if_neg hc] at h; cases h
end Go.Proofs.YtglnnlpkhjijhaaGreatDoor.PA
