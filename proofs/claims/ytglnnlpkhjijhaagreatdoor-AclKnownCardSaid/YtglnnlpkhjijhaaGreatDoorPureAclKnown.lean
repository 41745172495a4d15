/- AclKnown in plain words: what the walk computes is true. -/
import Derived.Test.YtglnnlpkhjijhaaGreatDoorPAyAclKnown
import Derived.Test.YtglnnlpkhjijhaaGreatDoorPureWorks
import Derived.Test.YtglnnlpkhjijhaaGreatDoorDocPlain
import Derived.Lib.FieldsP
set_option linter.unusedVariables false
set_option linter.unusedSimpArgs false
namespace Go.Proofs.YtglnnlpkhjijhaaGreatDoor.PA
open Go.RowKit Go.Proofs.YtglnnlpkhjijhaaGreatDoorW.PrintWords Go.Proofs.YtglnnlpkhjijhaaGreatDoorW.PrintLast Go.Proofs.YtglnnlpkhjijhaaGreatDoorW.PrintMore

def goodL : List ByteArray := ([(⟨#[97, 108, 108, 111, 119, 32, 49, 44, 50, 32, 62, 32, 51, 32, 56, 48, 45, 57, 48]⟩ : ByteArray), (⟨#[100, 101, 110, 121, 32, 42, 32, 62, 32, 42, 32, 42]⟩ : ByteArray), (⟨#[97, 108, 108, 111, 119, 32, 56, 44, 49, 32, 62, 32, 50, 32, 48]⟩ : ByteArray), (⟨#[97, 108, 108, 111, 119, 32, 49, 32, 62, 32, 50, 32, 48, 45, 54, 53, 53, 51, 53]⟩ : ByteArray), (⟨#[32, 32, 97, 108, 108, 111, 119, 32, 32, 32, 49, 32, 32, 62, 32, 32, 50, 32, 32, 32, 54, 53, 53, 51, 53, 32, 32]⟩ : ByteArray), (⟨#[35, 97, 108, 108, 111, 119]⟩ : ByteArray), (⟨#[32, 35, 32, 120]⟩ : ByteArray), (⟨#[]⟩ : ByteArray), (⟨#[32, 32, 32]⟩ : ByteArray), (⟨#[97, 108, 108, 111, 119, 32, 49, 44, 50, 44, 51, 44, 52, 44, 53, 44, 54, 44, 55, 44, 56, 32, 62, 32, 49, 32, 55, 45, 55]⟩ : ByteArray)] : List ByteArray)
def manyL : List Int := [1, 1, 1, 1, 1, 0, 0, 0, 0, 1]
def badL : List ByteArray := ([(⟨#[97, 108, 108, 111, 119, 32, 49, 32, 62, 32, 57, 32, 49]⟩ : ByteArray), (⟨#[97, 108, 108, 111, 119, 32, 48, 32, 62, 32, 49, 32, 49]⟩ : ByteArray), (⟨#[97, 108, 108, 111, 119, 32, 49, 32, 62, 32, 50]⟩ : ByteArray), (⟨#[97, 108, 108, 111, 119, 32, 49, 32, 62, 32, 50, 32, 49, 32, 49]⟩ : ByteArray), (⟨#[97, 108, 108, 111, 119, 32, 49, 44, 49, 32, 62, 32, 50, 32, 49]⟩ : ByteArray), (⟨#[97, 108, 108, 111, 119, 32, 49, 44, 32, 62, 32, 50, 32, 49]⟩ : ByteArray), (⟨#[97, 108, 108, 111, 119, 32, 44, 49, 32, 62, 32, 50, 32, 49]⟩ : ByteArray), (⟨#[97, 108, 108, 111, 119, 32, 49, 50, 32, 62, 32, 50, 32, 49]⟩ : ByteArray), (⟨#[97, 108, 108, 111, 119, 32, 49, 32, 62, 32, 50, 32, 57, 45, 56]⟩ : ByteArray), (⟨#[97, 108, 108, 111, 119, 32, 49, 32, 62, 32, 50, 32, 48, 48, 55]⟩ : ByteArray), (⟨#[97, 108, 108, 111, 119, 32, 49, 32, 62, 32, 50, 32, 54, 53, 53, 51, 54]⟩ : ByteArray), (⟨#[97, 108, 108, 111, 119, 32, 49, 32, 62, 32, 50, 32, 45, 49]⟩ : ByteArray), (⟨#[97, 108, 108, 111, 119, 32, 49, 32, 62, 32, 50, 32, 49, 45]⟩ : ByteArray), (⟨#[97, 108, 108, 111, 119, 32, 49, 32, 62, 32, 50, 32, 49, 45, 50, 45, 51]⟩ : ByteArray), (⟨#[97, 108, 108, 111, 119, 32, 49, 32, 62, 32, 50, 32, 42, 42]⟩ : ByteArray), (⟨#[112, 101, 114, 109, 105, 116, 32, 49, 32, 62, 32, 50, 32, 49]⟩ : ByteArray), (⟨#[65, 108, 108, 111, 119, 32, 49, 32, 62, 32, 50, 32, 49]⟩ : ByteArray), (⟨#[97, 108, 108, 111, 119, 32, 49, 32, 60, 32, 50, 32, 49]⟩ : ByteArray), (⟨#[97, 108, 108, 111, 119, 9, 49, 32, 62, 32, 50, 32, 49]⟩ : ByteArray), (⟨#[97, 108, 108, 111, 119, 32, 49, 32, 62, 50, 32, 49]⟩ : ByteArray), (⟨#[97, 108, 108, 111, 119, 32, 42, 44, 49, 32, 62, 32, 50, 32, 49]⟩ : ByteArray), (⟨#[120]⟩ : ByteArray), (⟨#[97, 108, 108, 111, 119, 32, 49, 32, 62, 32, 50, 32, 57, 57, 57, 57, 57, 57, 57, 57, 57, 57, 57, 57, 57, 57, 57, 57, 57, 57, 57, 57]⟩ : ByteArray)] : List ByteArray)
def lineD : ByteArray := (⟨#[100, 101, 110, 121, 32, 49, 32, 62, 32, 50, 32, 49, 10]⟩ : ByteArray)
def longR : S36 := (⟨true, 254, 508, 10000, 60000⟩ : S36)
def textT : List UInt8 := [97, 108, 108, 111, 119, 32, 49, 44, 50, 32, 62, 32, 51, 32, 56, 48, 45, 57, 48, 10, 100, 101, 110, 121, 32, 42, 32, 62, 32, 42, 32, 42, 10, 100, 101, 110, 121, 32, 50, 32, 62, 32, 56, 32, 55, 10]
theorem wrapUp (i : Nat) (h : i < 9223372036854775807) : wrap64 ((i : Int) + 1) = ((i + 1 : Nat) : Int) := by unfold wrap64; omega
theorem rdOf_nat (l : List ByteArray) (i : Nat) : rdOf ByteArray.empty l (i : Int) = l.getD i ByteArray.empty := by unfold rdOf; rw [show ((i : Int)).toNat = i by omega]
theorem rd_nat (l : List Int) (i : Nat) : rd l (i : Int) = l.getD i 0 := by unfold rd; rw [show ((i : Int)).toNat = i by omega]

/-! #### the two loops over texts -/
def goodT : Bool := (List.range 10).all fun i => match acl_Parse.f (goodL.getD i ByteArray.empty) with | some r => r.2 == 0 && (r.1.length : Int) == manyL.getD i 0 | none => false
theorem goodT_true : goodT = true := by kernel_rfl
theorem good_at (i : Nat) (h : i < 10) : ∃ r, acl_Parse.f (goodL.getD i ByteArray.empty) = some r ∧ r.2 = 0 ∧ (r.1.length : Int) = manyL.getD i 0 := by
  have ht := goodT_true
  unfold goodT at ht
  have h2 := List.all_eq_true.1 ht i (List.mem_range.2 h)
  cases hq : acl_Parse.f (goodL.getD i ByteArray.empty) with
  | none => rw [hq] at h2; cases h2
  | some r =>
    rw [hq] at h2
    simp only [Bool.and_eq_true, beq_iff_eq] at h2
    exact ⟨r, rfl, h2.1, h2.2⟩
def badT : Bool := (List.range 23).all fun i => decide ((badL.getD i ByteArray.empty).size ≤ 100) && (match acl_Parse.f ((lineD ++ badL.getD i ByteArray.empty) ++ (⟨#[10]⟩ : ByteArray)) with | some r => r.2 == 210 && r.1.length == 0 | none => false)
theorem badT_true : badT = true := by kernel_rfl
theorem bad_at (i : Nat) (h : i < 23) : (badL.getD i ByteArray.empty).size ≤ 100 ∧ ∃ r, acl_Parse.f ((lineD ++ badL.getD i ByteArray.empty) ++ (⟨#[10]⟩ : ByteArray)) = some r ∧ r.2 = 210 ∧ r.1.length = 0 := by
  have ht := badT_true
  unfold badT at ht
  have h2 := List.all_eq_true.1 ht i (List.mem_range.2 h)
  simp only [Bool.and_eq_true, decide_eq_true_eq] at h2
  refine ⟨h2.1, ?_⟩
  have h3 := h2.2
  cases hq : acl_Parse.f ((lineD ++ badL.getD i ByteArray.empty) ++ (⟨#[10]⟩ : ByteArray)) with
  | none => rw [hq] at h3; cases h3
  | some r =>
    rw [hq] at h3
    simp only [Bool.and_eq_true, beq_iff_eq] at h3
    exact ⟨r, rfl, h3.1, h3.2⟩
theorem known_l0 (K : Nat) (h1 : ∀ k, K ≤ k → causewaylaw20_AclKnown.l1 k badL 0 = some true) : ∀ (n k i : Nat), 10 - i ≤ n → n + K < k → i ≤ 10 → causewaylaw20_AclKnown.l0 k goodL manyL (i : Int) = some true := by
  have lg : goodL.length = 10 := rfl
  have lm : manyL.length = 10 := rfl
  intro n
  induction n with
  | zero =>
    intro k i hn hk hi
    obtain ⟨k, rfl⟩ : ∃ j, k = j + 1 := ⟨k - 1, by omega⟩
    rw [causewaylaw20_AclKnown.l0, if_neg (by rw [lg]; omega)]
    exact h1 k (by omega)
  | succ n ih =>
    intro k i hn hk hi
    by_cases h : i < 10
    · obtain ⟨k, rfl⟩ : ∃ j, k = j + 1 := ⟨k - 1, by omega⟩
      obtain ⟨r, hr, e1, e2⟩ := good_at i h
      rw [causewaylaw20_AclKnown.l0, if_pos (by rw [lg]; omega), if_pos (by omega), rdOf_nat, hr]
      simp only [Option.bind_some]
      rw [if_pos e1, if_pos (by rw [lm]; omega), rd_nat, if_pos e2, wrapUp i (by omega)]
      exact ih k (i + 1) (by omega) (by omega) (by omega)
    · exact ih k i (by omega) (by omega) hi

/-! #### repeats -/
/-- What is read of a text that may be none. -/
def readsTo (o : Option ByteArray) (e : Int) : Bool := match o with | some t => decide (t.size ≤ 10000) && (match acl_Parse.f t with | some r => r.2 == e | none => false) | none => false
theorem reads_ex {o : Option ByteArray} {e : Int} (h : readsTo o e = true) : ∃ t, o = some t ∧ t.size ≤ 10000 ∧ ∃ l, acl_Parse.f t = some (l, e) := by
  cases o with
  | none => cases h
  | some t =>
    simp only [readsTo, Bool.and_eq_true, decide_eq_true_eq] at h
    cases hq : acl_Parse.f t with
    | none => rw [hq] at h; cases h.2
    | some r =>
      rw [hq] at h
      obtain ⟨l, f⟩ := r
      have hf : f = e := by simpa using h.2
      subst hf
      exact ⟨t, rfl, h.1, l, hq⟩
theorem reads32 : readsTo (strings_Repeat.f lineD 32) 0 = true := by kernel_rfl
theorem reads33 : readsTo (strings_Repeat.f lineD 33) 5 = true := by kernel_rfl
theorem reads32x : readsTo ((strings_Repeat.f lineD 32).map fun t => t ++ (⟨#[120]⟩ : ByteArray)) 210 = true := by kernel_rfl
theorem blank_words : ∀ n : Nat, Acl.wordsGo [] (List.replicate n 32) = [] := by
  intro n
  induction n with
  | zero => rfl
  | succ n ih => rw [List.replicate_succ, Acl.wordsGo, if_pos rfl, if_pos rfl, ih]; rfl
theorem blank_lines : ∀ (n : Nat) (cur : List UInt8), cur ≠ [] → Acl.docLines cur (List.replicate n 32) = [cur ++ List.replicate n 32] := by
  intro n
  induction n with
  | zero => intro cur h; rw [List.replicate_zero, Acl.docLines, if_neg h, List.append_nil]
  | succ n ih =>
    intro cur h
    rw [List.replicate_succ, Acl.docLines, if_neg (by decide), ih _ (by simp)]
    simp
theorem blank_parse (n : Nat) (hn : n + 1 ≤ 1024) : Acl.parseOf (List.replicate (n + 1) 32) = ([], 0) := by
  have e : Acl.docLines [] (List.replicate (n + 1) 32) = [List.replicate (n + 1) 32] := by
    rw [List.replicate_succ, Acl.docLines, if_neg (by decide), blank_lines n _ (by simp)]
    simp
  rw [Acl.parse_lines _ (by simp; omega), e]
  exact (Acl.lines_skip (by rw [Acl.words_bytes, blank_words]; rfl)).trans rfl
theorem readsBlank : ∃ t, strings_Repeat.f (⟨#[32]⟩ : ByteArray) 1024 = some t ∧ t.size ≤ 10000 ∧ ∃ l, acl_Parse.f t = some (l, 0) := by
  have e : Lib.repeatL ([32] : List UInt8) 1024 = List.replicate 1024 32 := by kernel_rfl
  refine ⟨⟨(List.replicate 1024 32).toArray⟩, ?_, (by rw [show ((⟨(List.replicate 1024 (32 : UInt8)).toArray⟩ : ByteArray)).size = (List.replicate 1024 (32 : UInt8)).length from rfl, List.length_replicate]; decide), [], ?_⟩
  · unfold strings_Repeat.f
    rw [if_pos ⟨by omega, by omega, by decide⟩]
    exact congrArg (fun q : List UInt8 => some (⟨q.toArray⟩ : ByteArray)) e
  · exact congrArg some (blank_parse 1023 (by omega))
theorem readsMany : readsTo (strings_Repeat.f (⟨#[120]⟩ : ByteArray) 1025) 5 = true := by kernel_rfl
theorem text_three : acl_Text.f ([(⟨true, 6, 8, 80, 90⟩ : S36), (⟨false, 510, 510, 0, 65535⟩ : S36), (⟨false, 4, 256, 7, 7⟩ : S36)] : List S36) = some (⟨textT.toArray⟩, 0) := by kernel_rfl
theorem text_33 : acl_Text.f (List.replicate 33 z36) = some (⟨#[]⟩, 5) := by kernel_rfl
theorem text_a : acl_Text.f ([(⟨false, 1, 2, 0, 0⟩ : S36)] : List S36) = some (⟨#[]⟩, 2) := by kernel_rfl
theorem text_b : acl_Text.f ([(⟨false, 2, 512, 0, 0⟩ : S36)] : List S36) = some (⟨#[]⟩, 2) := by kernel_rfl
theorem text_c : acl_Text.f ([(⟨false, 2, 2, 1, 0⟩ : S36)] : List S36) = some (⟨#[]⟩, 2) := by kernel_rfl
theorem text_d : acl_Text.f ([(⟨false, 2, 2, 0, 65536⟩ : S36)] : List S36) = some (⟨#[]⟩, 2) := by kernel_rfl
theorem text_long : acl_Text.f (List.replicate 32 longR) = some (⟨#[]⟩, 5) := by kernel_rfl
theorem text_none : acl_Text.f ([] : List S36) = some (⟨#[]⟩, 0) := by kernel_rfl

theorem known_l2 (K : Nat) (h3 : ∀ k, K ≤ k → causewaylaw20_AclKnown.j3 k true = some true) : ∀ (n k i : Nat), 32 - i ≤ n → n + K < k → i ≤ 32 →
    causewaylaw20_AclKnown.l2 k 0 5 210 0 5 ⟨textT.toArray⟩ 0 5 2 2 2 2 (List.replicate i longR ++ List.replicate (32 - i) z36) (i : Int) = some true := by
  intro n
  induction n with
  | zero =>
    intro k i hn hk hi
    obtain ⟨k, rfl⟩ : ∃ j, k = j + 1 := ⟨k - 1, by omega⟩
    obtain rfl : i = 32 := by omega
    rw [causewaylaw20_AclKnown.l2, if_neg (by omega)]
    have e : List.replicate 32 longR ++ List.replicate (32 - 32) z36 = List.replicate 32 longR := by simp
    rw [e, text_long, text_none]
    simp only [Option.bind_some, if_true]
    have e2 : (⟨textT.toArray⟩ : ByteArray).toList = textT := by rw [ByteArray.toList_eq]
    have e3 : (⟨#[]⟩ : ByteArray).toList = [] := by rw [ByteArray.toList_eq]
    rw [if_pos (by exact e2), e3]
    exact h3 k (by omega)
  | succ n ih =>
    intro k i hn hk hi
    by_cases h : i < 32
    · obtain ⟨k, rfl⟩ : ∃ j, k = j + 1 := ⟨k - 1, by omega⟩
      rw [causewaylaw20_AclKnown.l2, if_pos (by omega), if_pos (by omega), if_pos (by simp; omega), wrapUp i (by omega), show ((i : Int)).toNat = i by omega]
      have e : (List.replicate i longR ++ List.replicate (32 - i) z36).set i (⟨true, 254, 508, 10000, 60000⟩ : S36) = List.replicate (i + 1) longR ++ List.replicate (32 - (i + 1)) z36 := by
        have e1 : List.replicate (32 - i) z36 = z36 :: List.replicate (32 - (i + 1)) z36 := by
          rw [show 32 - i = (32 - (i + 1)) + 1 by omega, List.replicate_succ]
        have e2 := Lib.set_mid (List.replicate i longR) z36 longR (List.replicate (32 - (i + 1)) z36)
        rw [List.length_replicate] at e2
        rw [e1]
        have e3 : List.replicate (i + 1) longR = List.replicate i longR ++ [longR] := by rw [List.replicate_succ']
        rw [e3, List.append_assoc, List.singleton_append]
        exact e2
      rw [e]
      exact ih k (i + 1) (by omega) (by omega) (by omega)
    · exact ih k i (by omega) (by omega) hi
theorem known_l1 (K : Nat) (h2 : ∀ k, K ≤ k → causewaylaw20_AclKnown.l2 k 0 5 210 0 5 ⟨textT.toArray⟩ 0 5 2 2 2 2 (List.replicate 32 z36) 0 = some true) : ∀ (n k i : Nat), 23 - i ≤ n → n + K < k → i ≤ 23 → causewaylaw20_AclKnown.l1 k badL (i : Int) = some true := by
  have lb : badL.length = 23 := rfl
  intro n
  induction n with
  | zero =>
    intro k i hn hk hi
    obtain ⟨k, rfl⟩ : ∃ j, k = j + 1 := ⟨k - 1, by omega⟩
    obtain ⟨x1, a1, s1, l1, p1⟩ := reads_ex reads32
    obtain ⟨x2, a2, s2, l2, p2⟩ := reads_ex reads33
    obtain ⟨x3, a3, s3, l3, p3⟩ := reads_ex reads32x
    obtain ⟨x4, a4, s4, l4, p4⟩ := readsBlank
    obtain ⟨x5, a5, s5, l5, p5⟩ := reads_ex readsMany
    rw [a1] at a3
    obtain rfl : x1 ++ (⟨#[120]⟩ : ByteArray) = x3 := by simpa using a3
    unfold lineD at a1 a2
    rw [causewaylaw20_AclKnown.l1, if_neg (by rw [lb]; omega), a1]
    simp only [Option.bind_some]
    rw [p1, a2]
    simp only [Option.bind_some]
    rw [p2]
    simp only [Option.bind_some]
    rw [if_pos (by omega), p3]
    simp only [Option.bind_some]
    rw [a4]
    simp only [Option.bind_some]
    rw [p4, a5]
    simp only [Option.bind_some]
    rw [p5]
    simp only [Option.bind_some]
    rw [text_three]
    simp only [Option.bind_some]
    rw [if_pos (by omega), text_33, text_a, text_b, text_c, text_d]
    simp only [Option.bind_some]
    rw [if_pos (by omega)]
    exact h2 k (by omega)
  | succ n ih =>
    intro k i hn hk hi
    by_cases h : i < 23
    · obtain ⟨k, rfl⟩ : ∃ j, k = j + 1 := ⟨k - 1, by omega⟩
      obtain ⟨hs, r, hr, e1, e2⟩ := bad_at i h
      rw [causewaylaw20_AclKnown.l1, if_pos (by rw [lb]; omega), if_pos (by omega), rdOf_nat, if_pos (by omega), if_pos (by rw [ByteArray.size_append]; have : (⟨#[100, 101, 110, 121, 32, 49, 32, 62, 32, 50, 32, 49, 10]⟩ : ByteArray).size = 13 := rfl; omega)]
      unfold lineD at hr
      rw [hr]
      simp only [Option.bind_some]
      rw [if_pos e1, if_pos (by omega), wrapUp i (by omega)]
      exact ih k (i + 1) (by omega) (by omega) (by omega)
    · exact ih k i (by omega) (by omega) hi

/-! #### the ends -/
def endRules : List S36 := [⟨false, 2, 4, 100, 200⟩, ⟨true, 2, 4, 0, 65535⟩]
def gapRules : List S36 := [⟨true, 2, 2, 5, 5⟩, ⟨true, 2, 2, 6, 7⟩, ⟨true, 2, 2, 9, 9⟩]
theorem rules_end : causewaylaw20_rules.f (⟨#[100, 101, 110, 121, 32, 49, 32, 62, 32, 50, 32, 49, 48, 48, 45, 50, 48, 48, 47, 97, 108, 108, 111, 119, 32, 49, 32, 62, 32, 50, 32, 42]⟩ : ByteArray) = some endRules := by kernel_rfl
theorem rules_gap : causewaylaw20_rules.f (⟨#[97, 108, 108, 111, 119, 32, 49, 32, 62, 32, 49, 32, 53, 47, 97, 108, 108, 111, 119, 32, 49, 32, 62, 32, 49, 32, 54, 45, 55, 47, 97, 108, 108, 111, 119, 32, 49, 32, 62, 32, 49, 32, 57]⟩ : ByteArray) = some gapRules := by kernel_rfl
theorem points_end : pointsOf endRules = [0, 100, 201] := by
  unfold pointsOf
  have h : ((0 : Int) :: cutsOf endRules) = [0, 100, 201] := by kernel_rfl
  have h2 : ([0, 100, 201] : List Int).mergeSort (fun x y => decide (x ≤ y)) = [0, 100, 201] := List.mergeSort_of_pairwise (by decide)
  have h3 : Lib.compact ([0, 100, 201] : List Int) = [0, 100, 201] := by kernel_rfl
  rw [h, h2, h3]
theorem points_gap : pointsOf gapRules = [0, 5, 6, 8, 9, 10] := by
  unfold pointsOf
  have h : ((0 : Int) :: cutsOf gapRules) = [0, 5, 6, 6, 8, 9, 10] := by kernel_rfl
  have h2 : ([0, 5, 6, 6, 8, 9, 10] : List Int).mergeSort (fun x y => decide (x ≤ y)) = [0, 5, 6, 6, 8, 9, 10] := List.mergeSort_of_pairwise (by decide)
  have h3 : Lib.compact ([0, 5, 6, 6, 8, 9, 10] : List Int) = [0, 5, 6, 8, 9, 10] := by kernel_rfl
  rw [h, h2, h3]
theorem spans_12 : spansV endRules 1 2 = [⟨0, 99⟩, ⟨201, 65535⟩] := by unfold spansV; rw [points_end]; kernel_rfl
theorem spans_21 : spansV endRules 2 1 = [] := by unfold spansV; rw [points_end]; kernel_rfl
theorem spans_02 : spansV endRules 0 2 = [] := by unfold spansV; rw [points_end]; kernel_rfl
theorem spans_19 : spansV endRules 1 9 = [] := by unfold spansV; rw [points_end]; kernel_rfl
theorem spans_gap : spansV gapRules 1 1 = [⟨5, 7⟩, ⟨9, 9⟩] := by unfold spansV; rw [points_gap]; kernel_rfl
theorem sameSpans_more (a b : List S42) (h : causewayref20_SameSpans.f 10 a b = some true) : ∀ k, 10 ≤ k → causewayref20_SameSpans.f k a b = some true := by
  intro k hk
  obtain ⟨j, rfl⟩ : ∃ j, k = 10 + j := ⟨k - 10, by omega⟩
  induction j with
  | zero => exact h
  | succ j ih => exact causewayref20_SameSpans.mono a b (10 + j) true (ih (by omega))
theorem known_j3 (k : Nat) (hk : 100 ≤ k) : causewaylaw20_AclKnown.j3 k true = some true := by
  obtain ⟨k, rfl⟩ : ∃ j, k = j + 1 := ⟨k - 1, by omega⟩
  have le : endRules.length = 2 := rfl
  have lg : gapRules.length = 3 := rfl
  rw [causewaylaw20_AclKnown.j3, rules_end]
  simp only [Option.bind_some]
  rw [Spans_eq endRules (by decide) 1 2 k (by omega), spans_12]
  simp only [Option.bind_some]
  rw [sameSpans_more _ _ (by kernel_rfl) k (by omega)]
  simp only [Option.bind_some, if_true]
  rw [Spans_eq endRules (by decide) 2 1 k (by omega), spans_21]
  simp only [Option.bind_some]
  rw [if_pos (by rfl), Spans_eq endRules (by decide) 0 2 k (by omega), spans_02]
  simp only [Option.bind_some]
  rw [if_pos (by rfl), Spans_eq endRules (by decide) 1 9 k (by omega), spans_19]
  simp only [Option.bind_some]
  rw [if_pos (by rfl), Allows_eq endRules (by decide) 1 2 (-1) k (by omega), show allowsV endRules 1 2 (-1) = false by kernel_rfl]
  simp only [Option.bind_some]
  rw [if_neg (by simp), Allows_eq endRules (by decide) 1 2 65536 k (by omega), show allowsV endRules 1 2 65536 = false by kernel_rfl]
  simp only [Option.bind_some]
  rw [if_neg (by simp), Allows_eq endRules (by decide) 1 2 0 k (by omega), show allowsV endRules 1 2 0 = true by kernel_rfl]
  simp only [Option.bind_some, if_true]
  rw [Allows_eq endRules (by decide) 1 2 65535 k (by omega), show allowsV endRules 1 2 65535 = true by kernel_rfl]
  simp only [Option.bind_some, if_true]
  rw [rules_gap]
  simp only [Option.bind_some]
  rw [Spans_eq gapRules (by decide) 1 1 k (by omega), spans_gap]
  simp only [Option.bind_some]
  rw [sameSpans_more _ _ (by kernel_rfl) k (by omega), works_true k (by omega)]
  simp only [Option.bind_some, if_true]
theorem AclKnown_law : causewaylaw20_AclKnown.f 400 = some true := by
  have h2 : ∀ k, 140 ≤ k → causewaylaw20_AclKnown.l2 k 0 5 210 0 5 ⟨textT.toArray⟩ 0 5 2 2 2 2 (List.replicate 32 z36) 0 = some true := fun k hk => known_l2 100 known_j3 32 k 0 (by omega) (by omega) (by omega)
  have h1 : ∀ k, 200 ≤ k → causewaylaw20_AclKnown.l1 k badL 0 = some true := fun k hk => known_l1 140 h2 23 k 0 (by omega) (by omega) (by omega)
  exact known_l0 200 h1 10 400 0 (by omega) (by omega) (by omega)
end Go.Proofs.YtglnnlpkhjijhaaGreatDoor.PA
