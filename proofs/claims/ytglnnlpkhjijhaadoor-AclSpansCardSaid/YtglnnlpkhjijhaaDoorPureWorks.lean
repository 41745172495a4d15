/- The chapter's own rules: works answers true; and what the document's Allows answers. -/
import Derived.Test.YtglnnlpkhjijhaaDoorPAx5
import Derived.Test.YtglnnlpkhjijhaaDoorPureSpans
namespace Go.Proofs.YtglnnlpkhjijhaaDoor.PA
open Go.RowKit Go.Proofs.YtglnnlpkhjijhaaDoorW.PrintWords Go.Proofs.YtglnnlpkhjijhaaDoorW.PrintLast Go.Proofs.YtglnnlpkhjijhaaDoorW.PrintMore

def twoRules : List S37 := [⟨false, 2, 4, 5, 5⟩, ⟨true, 2, 510, 0, 9⟩]
theorem rules_eq : causewaylaw20_rules.f (⟨#[35, 32, 97, 32, 114, 101, 109, 97, 114, 107, 47, 100, 101, 110, 121, 32, 49, 32, 62, 32, 50, 32, 53, 47, 32, 97, 108, 108, 111, 119, 32, 32, 49, 32, 62, 32, 42, 32, 48, 45, 57]⟩ : ByteArray) = some twoRules := by kernel_rfl
theorem points_two : pointsOf twoRules = [0, 5, 6, 10] := by
  unfold pointsOf
  have h : ((0 : Int) :: cutsOf twoRules) = [0, 5, 6, 10] := by kernel_rfl
  have h2 : ([0, 5, 6, 10] : List Int).mergeSort (fun x y => decide (x ≤ y)) = [0, 5, 6, 10] := List.mergeSort_of_pairwise (by decide)
  have h3 : Lib.compact ([0, 5, 6, 10] : List Int) = [0, 5, 6, 10] := by kernel_rfl
  rw [h, h2, h3]
theorem spans_two : spansV twoRules 1 2 = [⟨0, 4⟩, ⟨6, 9⟩] := by
  unfold spansV
  rw [points_two]
  kernel_rfl
theorem works_60 : causewaylaw20_works.f 60 = some true := by
  have h : causewaylaw20_works.f 60 = (acl_Spans.f 60 twoRules 1 2).bind fun t161 => ((causewayref20_SameSpans.f 60 t161 (([(⟨0, 4⟩ : S32), (⟨6, 9⟩ : S32)] : List (S32)))).bind fun t167 => (some t167)) := by
    unfold causewaylaw20_works.f
    rw [rules_eq]
    kernel_rfl
  have h2 : ((some [(⟨0, 4⟩ : S32), ⟨6, 9⟩]).bind fun t161 => ((causewayref20_SameSpans.f 60 t161 (([(⟨0, 4⟩ : S32), (⟨6, 9⟩ : S32)] : List (S32)))).bind fun t167 => (some t167))) = some true := by kernel_rfl
  rw [h, Spans_eq twoRules (by decide) 1 2 60 (by decide), spans_two, h2]
theorem works_true (k : Nat) (hk : 60 ≤ k) : causewaylaw20_works.f k = some true := by
  obtain ⟨j, rfl⟩ : ∃ j, k = 60 + j := ⟨k - 60, by omega⟩
  induction j with
  | zero => exact works_60
  | succ j ih => exact causewaylaw20_works.mono (60 + j) true (ih (by omega))

theorem ref_allows_l0 (l : List S37) (hl : l.length < 9223372036854775807) (a b p : Int) (ha : 0 ≤ a) (hb : 0 ≤ b) : ∀ (n k i : Nat), l.length - i ≤ n → i ≤ l.length → n < k → causewayref20_Allows.l0 k l a b p (i : Int) = some (firstOf (l.drop i) a b p)
  | n, 0, i, _, _, h => absurd h (by omega)
  | n, k + 1, i, hn, hi, hk => by
    unfold causewayref20_Allows.l0
    by_cases h : i < l.length
    · rw [if_pos (by omega), if_pos (by omega), if_pos ha, rd_drop h, firstOf]
      have hw : wrap64 ((i : Int) + 1) = ((i + 1 : Nat) : Int) := by rw [wrap64_of (by omega) (by omega)]; rfl
      have ih := ref_allows_l0 l hl a b p ha hb (n - 1) k (i + 1) (by omega) (by omega) (by omega)
      rw [hw, ih, if_pos hb, and_one, and_one]
      have hf : (shr .i64 (rd_T37 l (i : Int)).f1 a % 2 = 1 ∧ shr .i64 (rd_T37 l (i : Int)).f2 b % 2 = 1 ∧ p ≥ (rd_T37 l (i : Int)).f3 ∧ p ≤ (rd_T37 l (i : Int)).f4) ↔ fits (rd_T37 l (i : Int)) a b p = true := by
        unfold fits; simp only [Bool.and_eq_true, decide_eq_true_eq]
        exact ⟨fun ⟨a, b, c, d⟩ => ⟨⟨⟨a, b⟩, c⟩, d⟩, fun ⟨⟨⟨a, b⟩, c⟩, d⟩ => ⟨a, b, c, d⟩⟩
      by_cases hx : fits (rd_T37 l (i : Int)) a b p = true
      · obtain ⟨h0, h1, h2, h3⟩ := hf.2 hx
        rw [if_pos h0, if_pos h1, if_pos h2, if_pos h3, if_pos hx]
      · rw [if_neg hx]
        by_cases h0 : shr .i64 (rd_T37 l (i : Int)).f1 a % 2 = 1
        · rw [if_pos h0]
          by_cases h1 : shr .i64 (rd_T37 l (i : Int)).f2 b % 2 = 1
          · rw [if_pos h1]
            by_cases h2 : p ≥ (rd_T37 l (i : Int)).f3
            · rw [if_pos h2, if_neg (fun h3 => hx (hf.1 ⟨h0, h1, h2, h3⟩))]
            · rw [if_neg h2]
          · rw [if_neg h1]
        · rw [if_neg h0]
    · rw [if_neg (by omega), List.drop_of_length_le (by omega)]; rfl
theorem ref_node_eq (a : Int) : causewayref20_node.f a = some (decide (1 ≤ a) && decide (a ≤ 8)) := by
  unfold causewayref20_node.f
  by_cases h : a ≥ 1
  · rw [if_pos h]; simp [show (1 : Int) ≤ a from h]
  · rw [if_neg h]; simp [show ¬ (1 : Int) ≤ a from h]
theorem ref_Allows_eq (l : List S37) (hl : l.length < 9223372036854775807) (a b p : Int) (k : Nat) (hk : l.length + 1 < k) : causewayref20_Allows.f k l a b p = some (allowsV l a b p) := by
  obtain ⟨k, rfl⟩ : ∃ k', k = k' + 1 := ⟨k - 1, by omega⟩
  unfold causewayref20_Allows.f
  rw [ref_node_eq, ref_node_eq]
  simp only [Option.bind_some]
  have hj : ∀ (x : Bool), (x = false → 0 ≤ a ∧ 0 ≤ b) → causewayref20_Allows.j0 (k + 1) l a b p x = some (!x && firstOf l a b p) := by
    intro x hx
    unfold causewayref20_Allows.j0
    cases x with
    | true => simp
    | false =>
      obtain ⟨h0, h1⟩ := hx rfl
      have := ref_allows_l0 l hl a b p h0 h1 l.length k 0 (by omega) (by omega) (by omega)
      simp only [Bool.false_eq_true, if_false, Bool.not_false, Bool.true_and]
      exact this
  unfold allowsV mayAsk
  by_cases h1 : (decide (1 ≤ a) && decide (a ≤ 8)) = true
  · rw [if_pos h1]
    by_cases h2 : (decide (1 ≤ b) && decide (b ≤ 8)) = true
    · rw [if_pos h2]
      simp only [Bool.and_eq_true, decide_eq_true_eq] at h1 h2
      by_cases h3 : p < 0
      · rw [if_pos h3, hj true (by simp)]
        simp [show ¬ 0 ≤ p by omega]
      · rw [if_neg h3, hj _ (fun _ => by omega)]
        have e : (!decide (p > 65535)) = decide (p ≤ 65535) := by rw [← decide_not]; congr 1; simp
        rw [e]
        simp [h1.1, h1.2, h2.1, h2.2, show 0 ≤ p by omega]
    · rw [if_neg h2, hj true (by simp)]
      simp only [Bool.and_assoc] at *
      cases hb1 : decide (1 ≤ b) <;> cases hb2 : decide (b ≤ 8) <;> simp_all
  · rw [if_neg h1, hj true (by simp)]
    cases hb1 : decide (1 ≤ a) <;> cases hb2 : decide (a ≤ 8) <;> simp_all
end Go.Proofs.YtglnnlpkhjijhaaDoor.PA
