/- The chapter's own rules: works answers true; and what the document's Allows answers. -/
import Derived.Test.YtglnnlpkhjijhaaGreatDoorPAyWorks
import Derived.Test.YtglnnlpkhjijhaaGreatDoorPureSpans
namespace Go.Proofs.YtglnnlpkhjijhaaGreatDoor.PA
open Go.RowKit Go.Proofs.YtglnnlpkhjijhaaGreatDoorW.PrintWords Go.Proofs.YtglnnlpkhjijhaaGreatDoorW.PrintLast Go.Proofs.YtglnnlpkhjijhaaGreatDoorW.PrintMore

def twoRules : List S36 := [⟨false, 2, 4, 5, 5⟩, ⟨true, 2, 510, 0, 9⟩]
theorem rules_eq : causewaylaw20_rules.f (⟨#[35, 32, 97, 32, 114, 101, 109, 97, 114, 107, 47, 100, 101, 110, 121, 32, 49, 32, 62, 32, 50, 32, 53, 47, 32, 97, 108, 108, 111, 119, 32, 32, 49, 32, 62, 32, 42, 32, 48, 45, 57]⟩ : ByteArray) = some twoRules := by kernel_rfl
theorem points_two : pointsOf twoRules = [0, 5, 6, 10] := by
  unfold pointsOf
  have h : ((0 : Int) :: cutsOf twoRules) = [0, 5, 6, 10] := by kernel_rfl
  have h2 : ([0, 5, 6, 10] : List Int).mergeSort (fun x y => decide (x ≤ y)) = [0, 5, 6, 10] := List.mergeSort_of_pairwise (by decide)
  have h3 : Lib.compact ([0, 5, 6, 10] : List Int) = [0, 5, 6, 10] := by kernel_rfl
  rw [h, h2, h3]
theorem spans_two : spansV twoRules 1 2 = [⟨0, 4⟩, ⟨6, 9⟩] := by
  unfold spansV
  rw [points_two]
  kernel_rfl
theorem works_60 : causewaylaw20_works.f 60 = some true := by
  have h : causewaylaw20_works.f 60 = (acl_Spans.f 60 twoRules 1 2).bind fun t161 => ((causewayref20_SameSpans.f 60 t161 (([(⟨0, 4⟩ : S42), (⟨6, 9⟩ : S42)] : List (S42)))).bind fun t167 => (some t167)) := by
    unfold causewaylaw20_works.f
    rw [rules_eq]
    kernel_rfl
  have h2 : ((some [(⟨0, 4⟩ : S42), ⟨6, 9⟩]).bind fun t161 => ((causewayref20_SameSpans.f 60 t161 (([(⟨0, 4⟩ : S42), (⟨6, 9⟩ : S42)] : List (S42)))).bind fun t167 => (some t167))) = some true := by kernel_rfl
  rw [h, Spans_eq twoRules (by decide) 1 2 60 (by decide), spans_two, h2]
theorem works_true (k : Nat) (hk : 60 ≤ k) : causewaylaw20_works.f k = some true := by
  obtain ⟨j, rfl⟩ : ∃ j, k = 60 + j := ⟨k - 60, by omega⟩
  induction j with
  | zero => exact works_60
  | succ j ih => exact causewaylaw20_works.mono (60 + j) true (ih (by omega))

end Go.Proofs.YtglnnlpkhjijhaaGreatDoor.PA
