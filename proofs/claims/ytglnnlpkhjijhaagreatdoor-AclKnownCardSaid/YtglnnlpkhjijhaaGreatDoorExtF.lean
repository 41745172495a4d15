/- strconv.Itoa and strings.Join, as the callers' print wants them. -/
import Derived.Test.YtglnnlpkhjijhaaGreatDoorExtL
import Derived.Test.YtglnnlpkhjijhaaGreatDoorExtX
import Derived.Test.YtglnnlpkhjijhaaGreatDoorShelf
import Derived.Test.YtglnnlpkhjijhaaGreatDoorAclPorts
set_option linter.unusedVariables false
set_option linter.unusedSimpArgs false
namespace Go.Proofs.YtglnnlpkhjijhaaGreatDoor.PA
open Go.RowKit Go.Proofs.YtglnnlpkhjijhaaGreatDoorW.PrintWords Go.Proofs.YtglnnlpkhjijhaaGreatDoorW.PrintLast Go.Proofs.YtglnnlpkhjijhaaGreatDoorW.PrintMore
def strconv_Itoa.f (n : Int) : Option ByteArray := if -9223372036854775808 ≤ n ∧ n ≤ 9223372036854775807 then some ⟨(Lib.itoa n).toArray⟩ else none
theorem strconv_Itoa.calls (n : Int) (r : ByteArray) (w : World) (hx : LaidW w) (h : strconv_Itoa.f n = some r) :
    Calls Tryz.prog 27 #[.int .i64 n] w fun e w' => e = .returned (.string r) ∧ Below w.heap.size w w' := by
  unfold strconv_Itoa.f at h
  split at h
  · rename_i hn
    obtain rfl := Option.some.inj h
    refine (Tryz.strconv_Itoa n hn.1 hn.2 w hx.tab).mono ?_
    rintro e w' ⟨rfl, k, os, rfl⟩
    exact ⟨rfl, Lib.below_grow _ _ (Nat.le_refl _) _ _⟩
  · cases h
def strings_Join.f (l : List ByteArray) (sep : ByteArray) : Option ByteArray :=
  if l.length ≤ 140737488355328 ∧ (Lib.join (l.map (·.data.toList)) sep.data.toList).length ≤ 140737488355328 then some ⟨(Lib.join (l.map (·.data.toList)) sep.data.toList).toArray⟩ else none
theorem strings_Join.calls (A : Option Addr) (c : Nat) (l : List ByteArray) (sep r : ByteArray) (w : World) (hr : Kd.C Kd.string w A l.length l) (hc : l.length ≤ c) (_hx : LaidW w) (h : strings_Join.f l sep = some r) :
    Calls Tryz.prog 29 #[.slice A l.length c, .string sep] w fun e w' => e = .returned (.string r) ∧ Below w.heap.size w w' := by
  unfold strings_Join.f at h
  split at h
  · rename_i hn
    obtain rfl := Option.some.inj h
    cases l with
    | nil =>
      refine (Tryz.strings_Join_none A c sep w).mono ?_
      rintro e w' ⟨rfl, rfl⟩
      exact ⟨rfl, Below.refl _ _⟩
    | cons x t =>
      have key : ∀ j : Nat, j < (x :: t).length → ∃ ad, A = some ad ∧ w.cell? (ad.add j) = some (.string ((x :: t).getD j ByteArray.empty)) := by
        intro j hj
        obtain ⟨ad, cs, e, hl, hK, hcs⟩ := Kd.C_get hr ByteArray.empty (j : Int) (by omega) (by omega)
        refine ⟨ad, e, ?_⟩
        have hk : cs = [.string ((x :: t).getD j ByteArray.empty)] := hK
        subst hk
        have := hcs 0 _ rfl
        simpa [Kd.string, Kd.scalar] using this
      obtain ⟨ad, rfl, h0⟩ := key 0 (by simp)
      have hs0 : ad.spot = none := by
        cases hsp : ad.spot with
        | none => rfl
        | some y =>
          unfold Addr.add World.cell? at h0
          simp only [if_pos, hsp, Option.isSome_some, if_true] at h0
          split at h0 <;> cases h0
      obtain ⟨b, o, sp⟩ := ad
      obtain rfl : sp = none := hs0
      have hlt : b < w.heap.size := by
        have := World.block_lt_of_cell? w _ h0
        simpa [Addr.add] using this
      refine Tryz.strings_Join b o c (x :: t) sep w (fun j y hj => ?_) hlt hn.1 hc hn.2
      have hjl : j < (x :: t).length := (List.getElem?_eq_some_iff.1 hj).1
      obtain ⟨ad', e', hj'⟩ := key j hjl
      obtain rfl := Option.some.inj e'
      rw [Lib.add_plain, List.getD_eq_getElem?_getD, hj] at hj'
      exact hj'
  · cases h
end Go.Proofs.YtglnnlpkhjijhaaGreatDoor.PA
