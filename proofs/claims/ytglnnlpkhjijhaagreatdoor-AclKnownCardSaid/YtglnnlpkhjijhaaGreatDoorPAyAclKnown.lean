-- printed by a program of this session (a turned copy of the kit's print program)
import Derived.Test.YtglnnlpkhjijhaaGreatDoorPAx0
import Derived.Test.YtglnnlpkhjijhaaGreatDoorPAx5
import Derived.Test.YtglnnlpkhjijhaaGreatDoorPAx6
import Derived.Test.YtglnnlpkhjijhaaGreatDoorPAx7
import Derived.Test.YtglnnlpkhjijhaaGreatDoorPAyWorks
import Derived.Test.YtglnnlpkhjijhaaGreatDoorExtC
import Derived.Test.YtglnnlpkhjijhaaGreatDoorAclText
import Derived.Test.YtglnnlpkhjijhaaGreatDoorExtE
import Derived.Test.YtglnnlpkhjijhaaGreatDoorExtX
namespace Go.Proofs.YtglnnlpkhjijhaaGreatDoor.PA
open Go.RowKit Go.Proofs.YtglnnlpkhjijhaaGreatDoorW.PrintWords Go.Proofs.YtglnnlpkhjijhaaGreatDoorW.PrintLast Go.Proofs.YtglnnlpkhjijhaaGreatDoorW.PrintMore
attribute [local go_sem] max2_int min2_int max_two min_two max_three min_three max_four min_four   -- for this text's walks alone
set_option linter.unusedVariables false
set_option linter.unusedSimpArgs false

theorem sz_lit1 (a : UInt8) : (⟨#[a]⟩ : ByteArray).size = 1 := rfl
theorem sz_lit3 (a b c : UInt8) : (⟨#[a, b, c]⟩ : ByteArray).size = 3 := rfl
theorem sz_lit13 : (⟨#[100, 101, 110, 121, 32, 49, 32, 62, 32, 50, 32, 49, 10]⟩ : ByteArray).size = 13 := rfl
/-! ### causewaylaw20_AclKnown: function 7 -/
mutual
def causewaylaw20_AclKnown.l0 : Nat → List ByteArray → List Int → Int → Option (Bool)
  | 0, _, _, _ => none
  | k + 1, x1, x2, x3 => if x3 < (x1.length : Int) then (if 0 ≤ x3 then ((acl_Parse.f (rdOf ByteArray.empty x1 x3)).bind fun bt171 => (if bt171.2 = 0 then (if x3 < (x2.length : Int) then (if (bt171.1.length : Int) = (rd x2 x3) then (causewaylaw20_AclKnown.l0 k x1 x2 (wrap64 (x3 + 1))) else (some false)) else (none)) else (some false))) else (none)) else (causewaylaw20_AclKnown.l1 k (([(⟨#[97, 108, 108, 111, 119, 32, 49, 32, 62, 32, 57, 32, 49]⟩ : ByteArray), (⟨#[97, 108, 108, 111, 119, 32, 48, 32, 62, 32, 49, 32, 49]⟩ : ByteArray), (⟨#[97, 108, 108, 111, 119, 32, 49, 32, 62, 32, 50]⟩ : ByteArray), (⟨#[97, 108, 108, 111, 119, 32, 49, 32, 62, 32, 50, 32, 49, 32, 49]⟩ : ByteArray), (⟨#[97, 108, 108, 111, 119, 32, 49, 44, 49, 32, 62, 32, 50, 32, 49]⟩ : ByteArray), (⟨#[97, 108, 108, 111, 119, 32, 49, 44, 32, 62, 32, 50, 32, 49]⟩ : ByteArray), (⟨#[97, 108, 108, 111, 119, 32, 44, 49, 32, 62, 32, 50, 32, 49]⟩ : ByteArray), (⟨#[97, 108, 108, 111, 119, 32, 49, 50, 32, 62, 32, 50, 32, 49]⟩ : ByteArray), (⟨#[97, 108, 108, 111, 119, 32, 49, 32, 62, 32, 50, 32, 57, 45, 56]⟩ : ByteArray), (⟨#[97, 108, 108, 111, 119, 32, 49, 32, 62, 32, 50, 32, 48, 48, 55]⟩ : ByteArray), (⟨#[97, 108, 108, 111, 119, 32, 49, 32, 62, 32, 50, 32, 54, 53, 53, 51, 54]⟩ : ByteArray), (⟨#[97, 108, 108, 111, 119, 32, 49, 32, 62, 32, 50, 32, 45, 49]⟩ : ByteArray), (⟨#[97, 108, 108, 111, 119, 32, 49, 32, 62, 32, 50, 32, 49, 45]⟩ : ByteArray), (⟨#[97, 108, 108, 111, 119, 32, 49, 32, 62, 32, 50, 32, 49, 45, 50, 45, 51]⟩ : ByteArray), (⟨#[97, 108, 108, 111, 119, 32, 49, 32, 62, 32, 50, 32, 42, 42]⟩ : ByteArray), (⟨#[112, 101, 114, 109, 105, 116, 32, 49, 32, 62, 32, 50, 32, 49]⟩ : ByteArray), (⟨#[65, 108, 108, 111, 119, 32, 49, 32, 62, 32, 50, 32, 49]⟩ : ByteArray), (⟨#[97, 108, 108, 111, 119, 32, 49, 32, 60, 32, 50, 32, 49]⟩ : ByteArray), (⟨#[97, 108, 108, 111, 119, 9, 49, 32, 62, 32, 50, 32, 49]⟩ : ByteArray), (⟨#[97, 108, 108, 111, 119, 32, 49, 32, 62, 50, 32, 49]⟩ : ByteArray), (⟨#[97, 108, 108, 111, 119, 32, 42, 44, 49, 32, 62, 32, 50, 32, 49]⟩ : ByteArray), (⟨#[120]⟩ : ByteArray), (⟨#[97, 108, 108, 111, 119, 32, 49, 32, 62, 32, 50, 32, 57, 57, 57, 57, 57, 57, 57, 57, 57, 57, 57, 57, 57, 57, 57, 57, 57, 57, 57, 57]⟩ : ByteArray)] : List ByteArray)) 0)
def causewaylaw20_AclKnown.l1 : Nat → List ByteArray → Int → Option (Bool)
  | 0, _, _ => none
  | k + 1, x6, x7 => if x7 < (x6.length : Int) then (if 0 ≤ x7 then (if 13 + (rdOf ByteArray.empty x6 x7).size ≤ 9223372036854775807 then (if ((⟨#[100, 101, 110, 121, 32, 49, 32, 62, 32, 50, 32, 49, 10]⟩ : ByteArray) ++ (rdOf ByteArray.empty x6 x7)).size + 1 ≤ 9223372036854775807 then ((acl_Parse.f (((⟨#[100, 101, 110, 121, 32, 49, 32, 62, 32, 50, 32, 49, 10]⟩ : ByteArray) ++ (rdOf ByteArray.empty x6 x7)) ++ (⟨#[10]⟩ : ByteArray))).bind fun bt180 => (if bt180.2 = 210 then (if (bt180.1.length : Int) = 0 then (causewaylaw20_AclKnown.l1 k x6 (wrap64 (x7 + 1))) else (some false)) else (some false))) else (none)) else (none)) else (none)) else ((strings_Repeat.f (⟨#[100, 101, 110, 121, 32, 49, 32, 62, 32, 50, 32, 49, 10]⟩ : ByteArray) 32).bind fun t184 => ((acl_Parse.f t184).bind fun bt185 => ((strings_Repeat.f (⟨#[100, 101, 110, 121, 32, 49, 32, 62, 32, 50, 32, 49, 10]⟩ : ByteArray) 33).bind fun t189 => ((acl_Parse.f t189).bind fun bt190 => ((strings_Repeat.f (⟨#[100, 101, 110, 121, 32, 49, 32, 62, 32, 50, 32, 49, 10]⟩ : ByteArray) 32).bind fun t194 => (if t194.size + 1 ≤ 9223372036854775807 then ((acl_Parse.f (t194 ++ (⟨#[120]⟩ : ByteArray))).bind fun bt195 => ((strings_Repeat.f (⟨#[32]⟩ : ByteArray) 1024).bind fun t199 => ((acl_Parse.f t199).bind fun bt200 => ((strings_Repeat.f (⟨#[120]⟩ : ByteArray) 1025).bind fun t204 => ((acl_Parse.f t204).bind fun bt205 => ((acl_Text.f (([(⟨true, 6, 8, 80, 90⟩ : S36), (⟨false, 510, 510, 0, 65535⟩ : S36), (⟨false, 4, 256, 7, 7⟩ : S36)] : List (S36)))).bind fun bt212 => (if 33 ≤ 7036874417766 then ((acl_Text.f (List.replicate 33 z36)).bind fun bt217 => ((acl_Text.f (([(⟨false, 1, 2, 0, 0⟩ : S36)] : List (S36)))).bind fun bt222 => ((acl_Text.f (([(⟨false, 2, 512, 0, 0⟩ : S36)] : List (S36)))).bind fun bt227 => ((acl_Text.f (([(⟨false, 2, 2, 1, 0⟩ : S36)] : List (S36)))).bind fun bt232 => ((acl_Text.f (([(⟨false, 2, 2, 0, 65536⟩ : S36)] : List (S36)))).bind fun bt237 => (if 32 ≤ 7036874417766 then (causewaylaw20_AclKnown.l2 k bt185.2 bt190.2 bt195.2 bt200.2 bt205.2 bt212.1 bt212.2 bt217.2 bt222.2 bt227.2 bt232.2 bt237.2 (List.replicate 32 z36) 0) else (none))))))) else (none)))))))) else (none)))))))
def causewaylaw20_AclKnown.l2 : Nat → Int → Int → Int → Int → Int → ByteArray → Int → Int → Int → Int → Int → Int → List (S36) → Int → Option (Bool)
  | 0, _, _, _, _, _, _, _, _, _, _, _, _, _, _ => none
  | k + 1, x12, x14, x16, x18, x20, x21, x22, x24, x26, x28, x30, x32, x33, x34 => if x34 < 32 then (if 0 ≤ x34 then (if x34 < (x33.length : Int) then (causewaylaw20_AclKnown.l2 k x12 x14 x16 x18 x20 x21 x22 x24 x26 x28 x30 x32 (x33.set (x34 : Int).toNat (⟨true, 254, 508, 10000, 60000⟩ : S36)) (wrap64 (x34 + 1))) else (none)) else (none)) else ((acl_Text.f x33).bind fun bt243 => ((acl_Text.f ([] : List (S36))).bind fun bt245 => (if x12 = 0 then (if x14 = 5 then (if x16 = 210 then (if x18 = 0 then (if x20 = 5 then (if x22 = 0 then (if x21.toList = ([97, 108, 108, 111, 119, 32, 49, 44, 50, 32, 62, 32, 51, 32, 56, 48, 45, 57, 48, 10, 100, 101, 110, 121, 32, 42, 32, 62, 32, 42, 32, 42, 10, 100, 101, 110, 121, 32, 50, 32, 62, 32, 56, 32, 55, 10] : List UInt8) then (if x24 = 5 then (if x26 = 2 then (if x28 = 2 then (if x30 = 2 then (if x32 = 2 then (if bt243.2 = 5 then (if bt245.2 = 0 then (causewaylaw20_AclKnown.j3 k (bt245.1.toList == ([] : List UInt8))) else (causewaylaw20_AclKnown.j3 k false)) else (causewaylaw20_AclKnown.j3 k false)) else (causewaylaw20_AclKnown.j3 k false)) else (causewaylaw20_AclKnown.j3 k false)) else (causewaylaw20_AclKnown.j3 k false)) else (causewaylaw20_AclKnown.j3 k false)) else (causewaylaw20_AclKnown.j3 k false)) else (causewaylaw20_AclKnown.j3 k false)) else (causewaylaw20_AclKnown.j3 k false)) else (causewaylaw20_AclKnown.j3 k false)) else (causewaylaw20_AclKnown.j3 k false)) else (causewaylaw20_AclKnown.j3 k false)) else (causewaylaw20_AclKnown.j3 k false)) else (causewaylaw20_AclKnown.j3 k false))))
def causewaylaw20_AclKnown.j3 : Nat → Bool → Option (Bool)
  | 0, _ => none
  | k + 1, x39 => (causewaylaw20_rules.f (⟨#[100, 101, 110, 121, 32, 49, 32, 62, 32, 50, 32, 49, 48, 48, 45, 50, 48, 48, 47, 97, 108, 108, 111, 119, 32, 49, 32, 62, 32, 50, 32, 42]⟩ : ByteArray)).bind fun t247 => ((acl_Spans.f k t247 1 2).bind fun t250 => ((causewayref20_SameSpans.f k t250 (([(⟨0, 99⟩ : S42), (⟨201, 65535⟩ : S42)] : List (S42)))).bind fun t256 => (if t256 = true then ((acl_Spans.f k t247 2 1).bind fun t257 => (if (t257.length : Int) = 0 then ((acl_Spans.f k t247 0 2).bind fun t260 => (if (t260.length : Int) = 0 then ((acl_Spans.f k t247 1 9).bind fun t263 => (if (t263.length : Int) = 0 then ((acl_Allows.f k t247 1 2 (-1)).bind fun t266 => (if t266 = true then ((causewaylaw20_works.f k).bind fun t267 => (if t267 = true then (if x39 = true then (some false) else (some false)) else (some false))) else ((acl_Allows.f k t247 1 2 65536).bind fun t268 => (if t268 = true then ((causewaylaw20_works.f k).bind fun t269 => (if t269 = true then (if x39 = true then (some false) else (some false)) else (some false))) else ((acl_Allows.f k t247 1 2 0).bind fun t270 => (if t270 = true then ((acl_Allows.f k t247 1 2 65535).bind fun t271 => (if t271 = true then ((causewaylaw20_rules.f (⟨#[97, 108, 108, 111, 119, 32, 49, 32, 62, 32, 49, 32, 53, 47, 97, 108, 108, 111, 119, 32, 49, 32, 62, 32, 49, 32, 54, 45, 55, 47, 97, 108, 108, 111, 119, 32, 49, 32, 62, 32, 49, 32, 57]⟩ : ByteArray)).bind fun t272 => ((acl_Spans.f k t272 1 1).bind fun t275 => ((causewayref20_SameSpans.f k t275 (([(⟨5, 7⟩ : S42), (⟨9, 9⟩ : S42)] : List (S42)))).bind fun t281 => ((causewaylaw20_works.f k).bind fun t282 => (if t282 = true then (if x39 = true then (some t281) else (some false)) else (some false)))))) else ((causewaylaw20_works.f k).bind fun t283 => (if t283 = true then (if x39 = true then (some false) else (some false)) else (some false))))) else ((causewaylaw20_works.f k).bind fun t284 => (if t284 = true then (if x39 = true then (some false) else (some false)) else (some false))))))))) else ((causewaylaw20_works.f k).bind fun t285 => (if t285 = true then (if x39 = true then (some false) else (some false)) else (some false))))) else ((causewaylaw20_works.f k).bind fun t286 => (if t286 = true then (if x39 = true then (some false) else (some false)) else (some false))))) else ((causewaylaw20_works.f k).bind fun t287 => (if t287 = true then (if x39 = true then (some false) else (some false)) else (some false))))) else ((causewaylaw20_works.f k).bind fun t288 => (if t288 = true then (if x39 = true then (some false) else (some false)) else (some false))))))
end
def causewaylaw20_AclKnown.f (k : Nat)  : Option (Bool) := causewaylaw20_AclKnown.l0 k (([(⟨#[97, 108, 108, 111, 119, 32, 49, 44, 50, 32, 62, 32, 51, 32, 56, 48, 45, 57, 48]⟩ : ByteArray), (⟨#[100, 101, 110, 121, 32, 42, 32, 62, 32, 42, 32, 42]⟩ : ByteArray), (⟨#[97, 108, 108, 111, 119, 32, 56, 44, 49, 32, 62, 32, 50, 32, 48]⟩ : ByteArray), (⟨#[97, 108, 108, 111, 119, 32, 49, 32, 62, 32, 50, 32, 48, 45, 54, 53, 53, 51, 53]⟩ : ByteArray), (⟨#[32, 32, 97, 108, 108, 111, 119, 32, 32, 32, 49, 32, 32, 62, 32, 32, 50, 32, 32, 32, 54, 53, 53, 51, 53, 32, 32]⟩ : ByteArray), (⟨#[35, 97, 108, 108, 111, 119]⟩ : ByteArray), (⟨#[32, 35, 32, 120]⟩ : ByteArray), (⟨#[]⟩ : ByteArray), (⟨#[32, 32, 32]⟩ : ByteArray), (⟨#[97, 108, 108, 111, 119, 32, 49, 44, 50, 44, 51, 44, 52, 44, 53, 44, 54, 44, 55, 44, 56, 32, 62, 32, 49, 32, 55, 45, 55]⟩ : ByteArray)] : List ByteArray)) (([1, 1, 1, 1, 1, 0, 0, 0, 0, 1] : List Int)) 0
theorem causewaylaw20_AclKnown.mono_l : ∀ k, (∀ y0 y1 y2, LeO (causewaylaw20_AclKnown.l0 k y0 y1 y2) (causewaylaw20_AclKnown.l0 (k + 1) y0 y1 y2)) ∧ (∀ y0 y1, LeO (causewaylaw20_AclKnown.l1 k y0 y1) (causewaylaw20_AclKnown.l1 (k + 1) y0 y1)) ∧ (∀ y0 y1 y2 y3 y4 y5 y6 y7 y8 y9 y10 y11 y12 y13, LeO (causewaylaw20_AclKnown.l2 k y0 y1 y2 y3 y4 y5 y6 y7 y8 y9 y10 y11 y12 y13) (causewaylaw20_AclKnown.l2 (k + 1) y0 y1 y2 y3 y4 y5 y6 y7 y8 y9 y10 y11 y12 y13)) ∧ (∀ y0, LeO (causewaylaw20_AclKnown.j3 k y0) (causewaylaw20_AclKnown.j3 (k + 1) y0))
  | 0 => ⟨fun _ _ _ r h => by simp [causewaylaw20_AclKnown.l0] at h, fun _ _ r h => by simp [causewaylaw20_AclKnown.l1] at h, fun _ _ _ _ _ _ _ _ _ _ _ _ _ _ r h => by simp [causewaylaw20_AclKnown.l2] at h, fun _ r h => by simp [causewaylaw20_AclKnown.j3] at h⟩
  | k + 1 => by
    obtain ⟨ih0, ih1, ih2, ih3⟩ := causewaylaw20_AclKnown.mono_l k
    refine ⟨?_, ?_, ?_, ?_⟩
    · intro y0 y1 y2
      unfold causewaylaw20_AclKnown.l0
      repeat' first
      | (with_reducible exact ih0 _ _ _)
      | (with_reducible exact ih1 _ _)
      | (with_reducible exact ih2 _ _ _ _ _ _ _ _ _ _ _ _ _ _)
      | (with_reducible exact ih3 _)
      | (with_reducible exact acl_Allows.mono _ _ _ _ _)
      | (with_reducible exact acl_Spans.mono _ _ _ _)
      | (with_reducible exact causewaylaw20_works.mono _)
      | (with_reducible exact causewayref20_SameSpans.mono _ _ _)
      | (with_reducible exact LeO.refl _)
      | (with_reducible exact LeO.none _)
      | (with_reducible refine LeO.ite ?_ ?_)
      | (with_reducible refine LeO.bind ?_ (fun _ => ?_))
      | exact ih0 _ _ _
      | exact ih1 _ _
      | exact ih2 _ _ _ _ _ _ _ _ _ _ _ _ _ _
      | exact ih3 _
      | exact acl_Allows.mono _ _ _ _ _
      | exact acl_Spans.mono _ _ _ _
      | exact causewaylaw20_works.mono _
      | exact causewayref20_SameSpans.mono _ _ _
      | exact LeO.none _
      | refine LeO.ite ?_ ?_
      | refine LeO.bind ?_ (fun _ => ?_)
    · intro y0 y1
      unfold causewaylaw20_AclKnown.l1
      repeat' first
      | (with_reducible exact ih0 _ _ _)
      | (with_reducible exact ih1 _ _)
      | (with_reducible exact ih2 _ _ _ _ _ _ _ _ _ _ _ _ _ _)
      | (with_reducible exact ih3 _)
      | (with_reducible exact acl_Allows.mono _ _ _ _ _)
      | (with_reducible exact acl_Spans.mono _ _ _ _)
      | (with_reducible exact causewaylaw20_works.mono _)
      | (with_reducible exact causewayref20_SameSpans.mono _ _ _)
      | (with_reducible exact LeO.refl _)
      | (with_reducible exact LeO.none _)
      | (with_reducible refine LeO.ite ?_ ?_)
      | (with_reducible refine LeO.bind ?_ (fun _ => ?_))
      | exact ih0 _ _ _
      | exact ih1 _ _
      | exact ih2 _ _ _ _ _ _ _ _ _ _ _ _ _ _
      | exact ih3 _
      | exact acl_Allows.mono _ _ _ _ _
      | exact acl_Spans.mono _ _ _ _
      | exact causewaylaw20_works.mono _
      | exact causewayref20_SameSpans.mono _ _ _
      | exact LeO.none _
      | refine LeO.ite ?_ ?_
      | refine LeO.bind ?_ (fun _ => ?_)
    · intro y0 y1 y2 y3 y4 y5 y6 y7 y8 y9 y10 y11 y12 y13
      unfold causewaylaw20_AclKnown.l2
      repeat' first
      | (with_reducible exact ih0 _ _ _)
      | (with_reducible exact ih1 _ _)
      | (with_reducible exact ih2 _ _ _ _ _ _ _ _ _ _ _ _ _ _)
      | (with_reducible exact ih3 _)
      | (with_reducible exact acl_Allows.mono _ _ _ _ _)
      | (with_reducible exact acl_Spans.mono _ _ _ _)
      | (with_reducible exact causewaylaw20_works.mono _)
      | (with_reducible exact causewayref20_SameSpans.mono _ _ _)
      | (with_reducible exact LeO.refl _)
      | (with_reducible exact LeO.none _)
      | (with_reducible refine LeO.ite ?_ ?_)
      | (with_reducible refine LeO.bind ?_ (fun _ => ?_))
      | exact ih0 _ _ _
      | exact ih1 _ _
      | exact ih2 _ _ _ _ _ _ _ _ _ _ _ _ _ _
      | exact ih3 _
      | exact acl_Allows.mono _ _ _ _ _
      | exact acl_Spans.mono _ _ _ _
      | exact causewaylaw20_works.mono _
      | exact causewayref20_SameSpans.mono _ _ _
      | exact LeO.none _
      | refine LeO.ite ?_ ?_
      | refine LeO.bind ?_ (fun _ => ?_)
    · intro y0
      unfold causewaylaw20_AclKnown.j3
      repeat' first
      | (with_reducible exact ih0 _ _ _)
      | (with_reducible exact ih1 _ _)
      | (with_reducible exact ih2 _ _ _ _ _ _ _ _ _ _ _ _ _ _)
      | (with_reducible exact ih3 _)
      | (with_reducible exact acl_Allows.mono _ _ _ _ _)
      | (with_reducible exact acl_Spans.mono _ _ _ _)
      | (with_reducible exact causewaylaw20_works.mono _)
      | (with_reducible exact causewayref20_SameSpans.mono _ _ _)
      | (with_reducible exact LeO.refl _)
      | (with_reducible exact LeO.none _)
      | (with_reducible refine LeO.ite ?_ ?_)
      | (with_reducible refine LeO.bind ?_ (fun _ => ?_))
      | exact ih0 _ _ _
      | exact ih1 _ _
      | exact ih2 _ _ _ _ _ _ _ _ _ _ _ _ _ _
      | exact ih3 _
      | exact acl_Allows.mono _ _ _ _ _
      | exact acl_Spans.mono _ _ _ _
      | exact causewaylaw20_works.mono _
      | exact causewayref20_SameSpans.mono _ _ _
      | exact LeO.none _
      | refine LeO.ite ?_ ?_
      | refine LeO.bind ?_ (fun _ => ?_)
theorem causewaylaw20_AclKnown.mono : ∀ k, LeO (causewaylaw20_AclKnown.f k ) (causewaylaw20_AclKnown.f (k + 1) ) := by
  intro  k
  obtain ⟨ih0, ih1, ih2, ih3⟩ := causewaylaw20_AclKnown.mono_l k
  unfold causewaylaw20_AclKnown.f
  repeat' first
      | (with_reducible exact ih0 _ _ _)
      | (with_reducible exact ih1 _ _)
      | (with_reducible exact ih2 _ _ _ _ _ _ _ _ _ _ _ _ _ _)
      | (with_reducible exact ih3 _)
      | (with_reducible exact acl_Allows.mono _ _ _ _ _)
      | (with_reducible exact acl_Spans.mono _ _ _ _)
      | (with_reducible exact causewaylaw20_works.mono _)
      | (with_reducible exact causewayref20_SameSpans.mono _ _ _)
      | (with_reducible exact LeO.refl _)
      | (with_reducible exact LeO.none _)
      | (with_reducible refine LeO.ite ?_ ?_)
      | (with_reducible refine LeO.bind ?_ (fun _ => ?_))
      | exact ih0 _ _ _
      | exact ih1 _ _
      | exact ih2 _ _ _ _ _ _ _ _ _ _ _ _ _ _
      | exact ih3 _
      | exact acl_Allows.mono _ _ _ _ _
      | exact acl_Spans.mono _ _ _ _
      | exact causewaylaw20_works.mono _
      | exact causewayref20_SameSpans.mono _ _ _
      | exact LeO.none _
      | refine LeO.ite ?_ ?_
      | refine LeO.bind ?_ (fun _ => ?_)
theorem causewaylaw20_AclKnown.j3_false (k : Nat) (r : Bool) (h : causewaylaw20_AclKnown.j3 k false = some r) : r = false := by
  cases k with
  | zero => simp [causewaylaw20_AclKnown.j3] at h
  | succ k =>
    rw [causewaylaw20_AclKnown.j3] at h
    repeat' first
      | (with_reducible exact (Option.some.inj h).symm)
      | (rw [if_neg (show ¬ (false = true) by decide)] at h)
      | (have h2 := by with_reducible exact Option.bind_eq_some_iff.1 h
         clear h
         obtain ⟨_, _, h⟩ := h2)
      | (split at h)
set_option maxHeartbeats 8000000 in
set_option maxRecDepth 100000 in
theorem causewaylaw20_AclKnown.calls (k : Nat)  (r : Bool) (hrt : r = true) (w : World) (hx : LaidW w) (h : causewaylaw20_AclKnown.f k  = some r) :
    Calls Tryz.prog 7 #[] w fun e w' => e = .returned (.bool r) ∧ Below w.heap.size w w' := by
  have HRT := Aside0.mk hrt
  clear hrt
  have hu36 := Tryz.underlying36
  have hu42 := Tryz.underlying42
  have HB := Aside0.mk (Below.refl w.heap.size w)
  have HX := Aside0.mk hx
  clear hx
  have H : (causewaylaw20_AclKnown.l0 k (([(⟨#[97, 108, 108, 111, 119, 32, 49, 44, 50, 32, 62, 32, 51, 32, 56, 48, 45, 57, 48]⟩ : ByteArray), (⟨#[100, 101, 110, 121, 32, 42, 32, 62, 32, 42, 32, 42]⟩ : ByteArray), (⟨#[97, 108, 108, 111, 119, 32, 56, 44, 49, 32, 62, 32, 50, 32, 48]⟩ : ByteArray), (⟨#[97, 108, 108, 111, 119, 32, 49, 32, 62, 32, 50, 32, 48, 45, 54, 53, 53, 51, 53]⟩ : ByteArray), (⟨#[32, 32, 97, 108, 108, 111, 119, 32, 32, 32, 49, 32, 32, 62, 32, 32, 50, 32, 32, 32, 54, 53, 53, 51, 53, 32, 32]⟩ : ByteArray), (⟨#[35, 97, 108, 108, 111, 119]⟩ : ByteArray), (⟨#[32, 35, 32, 120]⟩ : ByteArray), (⟨#[]⟩ : ByteArray), (⟨#[32, 32, 32]⟩ : ByteArray), (⟨#[97, 108, 108, 111, 119, 32, 49, 44, 50, 44, 51, 44, 52, 44, 53, 44, 54, 44, 55, 44, 56, 32, 62, 32, 49, 32, 55, 45, 55]⟩ : ByteArray)] : List ByteArray)) (([1, 1, 1, 1, 1, 0, 0, 0, 0, 1] : List Int)) 0) = some r := h
  clear h
  obtain ⟨y164, hy164⟩ : ∃ y_ : List ByteArray, y_ = (([(⟨#[97, 108, 108, 111, 119, 32, 49, 44, 50, 32, 62, 32, 51, 32, 56, 48, 45, 57, 48]⟩ : ByteArray), (⟨#[100, 101, 110, 121, 32, 42, 32, 62, 32, 42, 32, 42]⟩ : ByteArray), (⟨#[97, 108, 108, 111, 119, 32, 56, 44, 49, 32, 62, 32, 50, 32, 48]⟩ : ByteArray), (⟨#[97, 108, 108, 111, 119, 32, 49, 32, 62, 32, 50, 32, 48, 45, 54, 53, 53, 51, 53]⟩ : ByteArray), (⟨#[32, 32, 97, 108, 108, 111, 119, 32, 32, 32, 49, 32, 32, 62, 32, 32, 50, 32, 32, 32, 54, 53, 53, 51, 53, 32, 32]⟩ : ByteArray), (⟨#[35, 97, 108, 108, 111, 119]⟩ : ByteArray), (⟨#[32, 35, 32, 120]⟩ : ByteArray), (⟨#[]⟩ : ByteArray), (⟨#[32, 32, 32]⟩ : ByteArray), (⟨#[97, 108, 108, 111, 119, 32, 49, 44, 50, 44, 51, 44, 52, 44, 53, 44, 54, 44, 55, 44, 56, 32, 62, 32, 49, 32, 55, 45, 55]⟩ : ByteArray)] : List ByteArray)) := ⟨_, rfl⟩
  replace H : (causewaylaw20_AclKnown.l0 k y164 (([1, 1, 1, 1, 1, 0, 0, 0, 0, 1] : List Int)) 0) = some r := by first | (rw [hy164]; with_reducible exact H) | (have H2_ := (Option.bind_some _ _).symm.trans H; rw [hy164]; with_reducible exact H2_) | (have H2_ := (Option.bind_some _ _).symm.trans H; with_reducible exact H2_) | with_reducible exact H | (rw [hy164]; exact H) | exact H
  have Ny164 := Aside0.mk hy164
  clear hy164
  obtain ⟨y167, hy167⟩ : ∃ y_ : List Int, y_ = (([1, 1, 1, 1, 1, 0, 0, 0, 0, 1] : List Int)) := ⟨_, rfl⟩
  replace H : (causewaylaw20_AclKnown.l0 k y164 y167 0) = some r := by first | (rw [hy167]; with_reducible exact H) | (have H2_ := (Option.bind_some _ _).symm.trans H; rw [hy167]; with_reducible exact H2_) | (have H2_ := (Option.bind_some _ _).symm.trans H; with_reducible exact H2_) | with_reducible exact H | (rw [hy167]; exact H) | exact H
  have Ny167 := Aside0.mk hy167
  clear hy167
  have H' := Aside0.mk H
  clear H
  go_enter Tryz.func7, Tryz.ntmps7
  go_wp2_with (first | ((with_reducible refine gate_dst (N := 42) rfl ?_); (try (refine gate_guard (by rfl) ?_; dsimp only)); refine Kd.R_lit Kd.string _ 9 ?hg (N := 42) ?hd (xs := ([(⟨#[97, 108, 108, 111, 119, 32, 49, 44, 50, 32, 62, 32, 51, 32, 56, 48, 45, 57, 48]⟩ : ByteArray), (⟨#[100, 101, 110, 121, 32, 42, 32, 62, 32, 42, 32, 42]⟩ : ByteArray), (⟨#[97, 108, 108, 111, 119, 32, 56, 44, 49, 32, 62, 32, 50, 32, 48]⟩ : ByteArray), (⟨#[97, 108, 108, 111, 119, 32, 49, 32, 62, 32, 50, 32, 48, 45, 54, 53, 53, 51, 53]⟩ : ByteArray), (⟨#[32, 32, 97, 108, 108, 111, 119, 32, 32, 32, 49, 32, 32, 62, 32, 32, 50, 32, 32, 32, 54, 53, 53, 51, 53, 32, 32]⟩ : ByteArray), (⟨#[35, 97, 108, 108, 111, 119]⟩ : ByteArray), (⟨#[32, 35, 32, 120]⟩ : ByteArray), (⟨#[]⟩ : ByteArray), (⟨#[32, 32, 32]⟩ : ByteArray), (⟨#[97, 108, 108, 111, 119, 32, 49, 44, 50, 44, 51, 44, 52, 44, 53, 44, 54, 44, 55, 44, 56, 32, 62, 32, 49, 32, 55, 45, 55]⟩ : ByteArray)] : List ByteArray)) (inner := [.string (⟨#[97, 108, 108, 111, 119, 32, 49, 44, 50, 32, 62, 32, 51, 32, 56, 48, 45, 57, 48]⟩ : ByteArray), .string (⟨#[100, 101, 110, 121, 32, 42, 32, 62, 32, 42, 32, 42]⟩ : ByteArray), .string (⟨#[97, 108, 108, 111, 119, 32, 56, 44, 49, 32, 62, 32, 50, 32, 48]⟩ : ByteArray), .string (⟨#[97, 108, 108, 111, 119, 32, 49, 32, 62, 32, 50, 32, 48, 45, 54, 53, 53, 51, 53]⟩ : ByteArray), .string (⟨#[32, 32, 97, 108, 108, 111, 119, 32, 32, 32, 49, 32, 32, 62, 32, 32, 50, 32, 32, 32, 54, 53, 53, 51, 53, 32, 32]⟩ : ByteArray), .string (⟨#[35, 97, 108, 108, 111, 119]⟩ : ByteArray), .string (⟨#[32, 35, 32, 120]⟩ : ByteArray), .string (⟨#[]⟩ : ByteArray), .string (⟨#[32, 32, 32]⟩ : ByteArray), .string (⟨#[97, 108, 108, 111, 119, 32, 49, 44, 50, 44, 51, 44, 52, 44, 53, 44, 54, 44, 55, 44, 56, 32, 62, 32, 49, 32, 55, 45, 55]⟩ : ByteArray)]) (ok := fun _ => True) (okp := fun _ => True) ?hr ?hp (fun _ hk => hk) trivial (Below.refl _ _) (Nat.le_refl _) (by simp) ?_; (case hd => rfl); (case hg => rfl); (case hr => first | (go_simp; done) | (go_simp; rfl)); (case hp => exact (Reps.one (show Kd.M Kd.string _ _ _ (⟨#[97, 108, 108, 111, 119, 32, 49, 44, 50, 32, 62, 32, 51, 32, 56, 48, 45, 57, 48]⟩ : ByteArray) [.string (⟨#[97, 108, 108, 111, 119, 32, 49, 44, 50, 32, 62, 32, 51, 32, 56, 48, 45, 57, 48]⟩ : ByteArray)] from rfl) (Reps.one (show Kd.M Kd.string _ _ _ (⟨#[100, 101, 110, 121, 32, 42, 32, 62, 32, 42, 32, 42]⟩ : ByteArray) [.string (⟨#[100, 101, 110, 121, 32, 42, 32, 62, 32, 42, 32, 42]⟩ : ByteArray)] from rfl) (Reps.one (show Kd.M Kd.string _ _ _ (⟨#[97, 108, 108, 111, 119, 32, 56, 44, 49, 32, 62, 32, 50, 32, 48]⟩ : ByteArray) [.string (⟨#[97, 108, 108, 111, 119, 32, 56, 44, 49, 32, 62, 32, 50, 32, 48]⟩ : ByteArray)] from rfl) (Reps.one (show Kd.M Kd.string _ _ _ (⟨#[97, 108, 108, 111, 119, 32, 49, 32, 62, 32, 50, 32, 48, 45, 54, 53, 53, 51, 53]⟩ : ByteArray) [.string (⟨#[97, 108, 108, 111, 119, 32, 49, 32, 62, 32, 50, 32, 48, 45, 54, 53, 53, 51, 53]⟩ : ByteArray)] from rfl) (Reps.one (show Kd.M Kd.string _ _ _ (⟨#[32, 32, 97, 108, 108, 111, 119, 32, 32, 32, 49, 32, 32, 62, 32, 32, 50, 32, 32, 32, 54, 53, 53, 51, 53, 32, 32]⟩ : ByteArray) [.string (⟨#[32, 32, 97, 108, 108, 111, 119, 32, 32, 32, 49, 32, 32, 62, 32, 32, 50, 32, 32, 32, 54, 53, 53, 51, 53, 32, 32]⟩ : ByteArray)] from rfl) (Reps.one (show Kd.M Kd.string _ _ _ (⟨#[35, 97, 108, 108, 111, 119]⟩ : ByteArray) [.string (⟨#[35, 97, 108, 108, 111, 119]⟩ : ByteArray)] from rfl) (Reps.one (show Kd.M Kd.string _ _ _ (⟨#[32, 35, 32, 120]⟩ : ByteArray) [.string (⟨#[32, 35, 32, 120]⟩ : ByteArray)] from rfl) (Reps.one (show Kd.M Kd.string _ _ _ (⟨#[]⟩ : ByteArray) [.string (⟨#[]⟩ : ByteArray)] from rfl) (Reps.one (show Kd.M Kd.string _ _ _ (⟨#[32, 32, 32]⟩ : ByteArray) [.string (⟨#[32, 32, 32]⟩ : ByteArray)] from rfl) (Reps.one (show Kd.M Kd.string _ _ _ (⟨#[97, 108, 108, 111, 119, 32, 49, 44, 50, 44, 51, 44, 52, 44, 53, 44, 54, 44, 55, 44, 56, 32, 62, 32, 49, 32, 55, 45, 55]⟩ : ByteArray) [.string (⟨#[97, 108, 108, 111, 119, 32, 49, 44, 50, 44, 51, 44, 52, 44, 53, 44, 54, 44, 55, 44, 56, 32, 62, 32, 49, 32, 55, 45, 55]⟩ : ByteArray)] from rfl) (Reps.none _ _)))))))))))); intro v165 w1 ho2 hb hg_ hnew_; clear hg_ hnew_; (first | rw [← Ny164.out] at ho2 | (simp only [Int.reduceToNat] at ho2; rw [← Ny164.out] at ho2)); have n0_ := Aside0.mk (Kd.R_lower ho2 (below_size (by repeat (first | (with_reducible first | exact HB.out | apply below_alloc | apply pw_below_drewN | apply below_drew1) | exact HB.out)))); have n1_ := Aside0.mk (below_step (by repeat (first | (with_reducible first | exact HB.out | apply below_alloc | apply pw_below_drewN | apply below_drew1) | exact HB.out)) hb); clear HB; have HO166 := n0_; have HB := n1_; clear n0_ n1_; clear hb ho2) | ((with_reducible refine gate_dst (N := 43) rfl ?_); (try (refine gate_guard (by rfl) ?_; dsimp only)); refine Kd.R_lit (Kd.int .i64) _ 3 ?hg (N := 43) ?hd (xs := ([1, 1, 1, 1, 1, 0, 0, 0, 0, 1] : List Int)) (inner := [.int .i64 1, .int .i64 1, .int .i64 1, .int .i64 1, .int .i64 1, .int .i64 0, .int .i64 0, .int .i64 0, .int .i64 0, .int .i64 1]) (ok := fun _ => True) (okp := fun _ => True) ?hr ?hp (fun _ hk => hk) trivial (Below.refl _ _) (Nat.le_refl _) (by simp) ?_; (case hd => rfl); (case hg => rfl); (case hr => first | (go_simp; done) | (go_simp; rfl)); (case hp => exact (Reps.one (show Kd.M (Kd.int .i64) _ _ _ 1 [.int .i64 1] from rfl) (Reps.one (show Kd.M (Kd.int .i64) _ _ _ 1 [.int .i64 1] from rfl) (Reps.one (show Kd.M (Kd.int .i64) _ _ _ 1 [.int .i64 1] from rfl) (Reps.one (show Kd.M (Kd.int .i64) _ _ _ 1 [.int .i64 1] from rfl) (Reps.one (show Kd.M (Kd.int .i64) _ _ _ 1 [.int .i64 1] from rfl) (Reps.one (show Kd.M (Kd.int .i64) _ _ _ 0 [.int .i64 0] from rfl) (Reps.one (show Kd.M (Kd.int .i64) _ _ _ 0 [.int .i64 0] from rfl) (Reps.one (show Kd.M (Kd.int .i64) _ _ _ 0 [.int .i64 0] from rfl) (Reps.one (show Kd.M (Kd.int .i64) _ _ _ 0 [.int .i64 0] from rfl) (Reps.one (show Kd.M (Kd.int .i64) _ _ _ 1 [.int .i64 1] from rfl) (Reps.none _ _)))))))))))); intro v168 w3 ho4 hb hg_ hnew_; clear hg_ hnew_; (first | rw [← Ny167.out] at ho4 | (simp only [Int.reduceToNat] at ho4; rw [← Ny167.out] at ho4)); have n0_ := Aside0.mk (Kd.R_below (by (with_reducible repeat (first | apply Kd.R_alloc | apply Kd.R_drewN | apply Kd.R_drew)); exact HO166.out) hb); have n1_ := Aside0.mk (Kd.R_lower ho4 (below_size (by repeat (first | (with_reducible first | exact HB.out | apply below_alloc | apply pw_below_drewN | apply below_drew1) | exact HB.out)))); have n2_ := Aside0.mk (below_step (by repeat (first | (with_reducible first | exact HB.out | apply below_alloc | apply pw_below_drewN | apply below_drew1) | exact HB.out)) hb); clear HO166; clear HB; have HO166 := n0_; have HO169 := n1_; have HB := n2_; clear n0_ n1_ n2_; clear hb ho4))
  go_loopg [3] k (fun kq v3 w' => ∃ (x3_1 : Int), v3 = .int .i64 x3_1 ∧ Aside0 (causewaylaw20_AclKnown.l0 kq y164 y167 x3_1 = some r) ∧ Aside0 (kq ≤ k) ∧ Aside0 (Kd.R Kd.string 9 w' w.heap.size (fun _ => True) v165 y164) ∧ Aside0 (Kd.R (Kd.int .i64) 3 w' w.heap.size (fun _ => True) v168 y167) ∧ Aside0 (Below w.heap.size w w'))
  case atStart => exact ⟨(0), (by first | rfl | (simp; done) | (simp [*]; done)), H', ⟨Nat.le_refl _⟩, ⟨by (with_reducible repeat (first | apply Kd.R_alloc | apply Kd.R_drewN | apply Kd.R_drew)); exact HO166.out⟩, ⟨by (with_reducible repeat (first | apply Kd.R_alloc | apply Kd.R_drewN | apply Kd.R_drew)); exact HO169.out⟩, ⟨by repeat (first | (with_reducible first | exact HB.out | apply below_alloc | apply pw_below_drewN | apply below_drew1) | exact HB.out)⟩⟩
  case round =>
    clear H'
    try clear p2
    obtain ⟨x3_1, rfl, HA, HK1, HO_1, HO_2, HB⟩ := hrel
    cases gk with
    | zero => exact absurd HA.out (by simp [causewaylaw20_AclKnown.l0])
    | succ k1 =>
      have H := HA.out
      clear HA
      simp only [causewaylaw20_AclKnown.l0] at H
      by_cases c5 : x3_1 < (y164.length : Int)
      · rw [if_pos c5] at H
        have c5b0 : decide (x3_1 < (y164.length : Int)) = true := decide_eq_true c5
        clear c5
        by_cases c6 : 0 ≤ x3_1
        · rw [if_pos c6] at H
          have c6b0 : decide (0 ≤ x3_1) = true := decide_eq_true c6
          clear c6
          replace H := Option.bind_eq_some_iff.mp H
          obtain ⟨⟨t171, t172⟩, A70, H⟩ := H
          replace H : (if t172 = 0 then (if x3_1 < (y167.length : Int) then (if (t171.length : Int) = (rd y167 x3_1) then (causewaylaw20_AclKnown.l0 k1 y164 y167 (wrap64 (x3_1 + 1))) else (some false)) else (none)) else (some false)) = some r := H
          have A7 := Aside0.mk A70
          clear A70
          by_cases c8 : t172 = 0
          · rw [if_pos c8] at H
            have c8b0 : (t172 == 0) = true := beq_iff_eq.mpr c8
            have c8b1 : (t172 != 0) = false := bne_eq_false_iff_eq.mpr c8
            clear c8
            by_cases c9 : x3_1 < (y167.length : Int)
            · rw [if_pos c9] at H
              have c9b0 : decide (x3_1 < (y167.length : Int)) = true := decide_eq_true c9
              clear c9
              by_cases c10 : (t171.length : Int) = (rd y167 x3_1)
              · rw [if_pos c10] at H
                have c10b0 : ((t171.length : Int) == (rd y167 x3_1)) = true := beq_iff_eq.mpr c10
                have c10b1 : ((t171.length : Int) != (rd y167 x3_1)) = false := bne_eq_false_iff_eq.mpr c10
                clear c10
                have H' := Aside0.mk H
                clear H
                obtain ⟨Ao11, co11, eo11⟩ := Kd.R_slice HO_1.out
                subst eo11
                have p170 : 0 ≤ (x3_1 : Int) := of_decide_eq_true (by first | (with_reducible assumption) | assumption)
                have q170 : x3_1 < (y164.length : Int) := of_decide_eq_true (by first | (with_reducible assumption) | assumption)
                obtain ⟨ad170, e170, hx170_0⟩ := Kd.at_string (Kd.R_reads' HO_1.out).2.2 x3_1 p170 q170
                cases e170
                replace p170 := eq_true p170
                replace q170 := eq_true q170
                go_wp2_with (first | ((with_reducible refine gate_callee (f := 8) rfl ?_); refine goesL_ (some 55) rfl rfl Tryz.func8 (by kernel_rfl) rfl #[.string (rdOf ByteArray.empty y164 x3_1)] rfl (by (try simp only [List.map_toArray, List.map_cons, List.map_nil]); first | done | rfl | (simp only [List.length_drop, List.length_take]; rfl)) ?_; (with_reducible refine (acl_Parse.calls (rdOf ByteArray.empty y164 x3_1) t171 t172 _ ?side1 A7.out).mono ?_); (case side1 => exact LaidW.below HX.out (by repeat (first | (with_reducible first | exact HB.out | apply below_alloc | apply pw_below_drewN | apply below_drew1) | exact HB.out))); rintro e w12 ⟨v173, rfl, ho0, hb⟩; refine ⟨_, rfl, ?_⟩; have n0_ := Aside0.mk (Kd.R_below (by (with_reducible repeat (first | apply Kd.R_alloc | apply Kd.R_drewN | apply Kd.R_drew)); exact HO_1.out) hb); have n1_ := Aside0.mk (Kd.R_below (by (with_reducible repeat (first | apply Kd.R_alloc | apply Kd.R_drewN | apply Kd.R_drew)); exact HO_2.out) hb); have n2_ := Aside0.mk (Kd.R_lower ho0 (below_size (by repeat (first | (with_reducible first | exact HB.out | apply below_alloc | apply pw_below_drewN | apply below_drew1) | exact HB.out)))); have n3_ := Aside0.mk (below_step (by repeat (first | (with_reducible first | exact HB.out | apply below_alloc | apply pw_below_drewN | apply below_drew1) | exact HB.out)) hb); clear HO_1; clear HO_2; clear HB; have HO_1 := n0_; have HO_2 := n1_; have HO174 := n2_; have HB := n3_; clear n0_ n1_ n2_ n3_; (try clear hb); (try clear hb2); (try clear hk); (try clear hi); (try clear ho0); obtain ⟨Ao13, co13, eo13⟩ := Kd.R_slice HO174.out; subst eo13; obtain ⟨Ao14, co14, eo14⟩ := Kd.R_slice HO_2.out; subst eo14; have p175 : 0 ≤ (x3_1 : Int) := of_decide_eq_true (by first | (with_reducible assumption) | assumption); have q175 : x3_1 < (y167.length : Int) := of_decide_eq_true (by first | (with_reducible assumption) | assumption); obtain ⟨ad175, e175, hx175_0⟩ := Kd.at_int (Kd.R_reads' HO_2.out).2.2 x3_1 p175 q175; cases e175; replace p175 := eq_true p175; replace q175 := eq_true q175))
                go_roundg k1
                case measure => have := HK1.out; omega
                case rel => exact ⟨(wrap64 (x3_1 + 1)), (by first | rfl | (simp; done) | (simp [*]; done)), H', ⟨by have := HK1.out; omega⟩, ⟨by (with_reducible repeat (first | apply Kd.R_alloc | apply Kd.R_drewN | apply Kd.R_drew)); exact HO_1.out⟩, ⟨by (with_reducible repeat (first | apply Kd.R_alloc | apply Kd.R_drewN | apply Kd.R_drew)); exact HO_2.out⟩, ⟨by repeat (first | (with_reducible first | exact HB.out | apply below_alloc | apply pw_below_drewN | apply below_drew1) | exact HB.out)⟩⟩
              · rw [if_neg c10] at H
                have c10b0 : ((t171.length : Int) == (rd y167 x3_1)) = false := beq_eq_false_iff_ne.mpr c10
                have c10b1 : ((t171.length : Int) != (rd y167 x3_1)) = true := bne_iff_ne.mpr c10
                obtain rfl := Option.some.inj H
                obtain ⟨Ao15, co15, eo15⟩ := Kd.R_slice HO_1.out
                subst eo15
                have p170 : 0 ≤ (x3_1 : Int) := of_decide_eq_true (by first | (with_reducible assumption) | assumption)
                have q170 : x3_1 < (y164.length : Int) := of_decide_eq_true (by first | (with_reducible assumption) | assumption)
                obtain ⟨ad170, e170, hx170_0⟩ := Kd.at_string (Kd.R_reads' HO_1.out).2.2 x3_1 p170 q170
                cases e170
                replace p170 := eq_true p170
                replace q170 := eq_true q170
                go_wp2_with (first | ((with_reducible refine gate_callee (f := 8) rfl ?_); refine goesL_ (some 55) rfl rfl Tryz.func8 (by kernel_rfl) rfl #[.string (rdOf ByteArray.empty y164 x3_1)] rfl (by (try simp only [List.map_toArray, List.map_cons, List.map_nil]); first | done | rfl | (simp only [List.length_drop, List.length_take]; rfl)) ?_; (with_reducible refine (acl_Parse.calls (rdOf ByteArray.empty y164 x3_1) t171 t172 _ ?side1 A7.out).mono ?_); (case side1 => exact LaidW.below HX.out (by repeat (first | (with_reducible first | exact HB.out | apply below_alloc | apply pw_below_drewN | apply below_drew1) | exact HB.out))); rintro e w16 ⟨v173, rfl, ho0, hb⟩; refine ⟨_, rfl, ?_⟩; have n0_ := Aside0.mk (Kd.R_below (by (with_reducible repeat (first | apply Kd.R_alloc | apply Kd.R_drewN | apply Kd.R_drew)); exact HO_1.out) hb); have n1_ := Aside0.mk (Kd.R_below (by (with_reducible repeat (first | apply Kd.R_alloc | apply Kd.R_drewN | apply Kd.R_drew)); exact HO_2.out) hb); have n2_ := Aside0.mk (Kd.R_lower ho0 (below_size (by repeat (first | (with_reducible first | exact HB.out | apply below_alloc | apply pw_below_drewN | apply below_drew1) | exact HB.out)))); have n3_ := Aside0.mk (below_step (by repeat (first | (with_reducible first | exact HB.out | apply below_alloc | apply pw_below_drewN | apply below_drew1) | exact HB.out)) hb); clear HO_1; clear HO_2; clear HB; have HO_1 := n0_; have HO_2 := n1_; have HO174 := n2_; have HB := n3_; clear n0_ n1_ n2_ n3_; (try clear hb); (try clear hb2); (try clear hk); (try clear hi); (try clear ho0); obtain ⟨Ao17, co17, eo17⟩ := Kd.R_slice HO174.out; subst eo17; obtain ⟨Ao18, co18, eo18⟩ := Kd.R_slice HO_2.out; subst eo18; have p175 : 0 ≤ (x3_1 : Int) := of_decide_eq_true (by first | (with_reducible assumption) | assumption); have q175 : x3_1 < (y167.length : Int) := of_decide_eq_true (by first | (with_reducible assumption) | assumption); obtain ⟨ad175, e175, hx175_0⟩ := Kd.at_int (Kd.R_reads' HO_2.out).2.2 x3_1 p175 q175; cases e175; replace p175 := eq_true p175; replace q175 := eq_true q175))
                go_ret
                exact ⟨by first | rfl | (simp [errW_none, errW_some] <;> rfl) | (simp [*, errW_none, errW_some] <;> rfl), by repeat (first | (with_reducible first | exact HB.out | apply below_alloc | apply pw_below_drewN | apply below_drew1) | exact HB.out)⟩
            · rw [if_neg c9] at H
              exact absurd H (by simp)
          · rw [if_neg c8] at H
            have c8b0 : (t172 == 0) = false := beq_eq_false_iff_ne.mpr c8
            have c8b1 : (t172 != 0) = true := bne_iff_ne.mpr c8
            obtain rfl := Option.some.inj H
            obtain ⟨Ao19, co19, eo19⟩ := Kd.R_slice HO_1.out
            subst eo19
            have p170 : 0 ≤ (x3_1 : Int) := of_decide_eq_true (by first | (with_reducible assumption) | assumption)
            have q170 : x3_1 < (y164.length : Int) := of_decide_eq_true (by first | (with_reducible assumption) | assumption)
            obtain ⟨ad170, e170, hx170_0⟩ := Kd.at_string (Kd.R_reads' HO_1.out).2.2 x3_1 p170 q170
            cases e170
            replace p170 := eq_true p170
            replace q170 := eq_true q170
            go_wp2_with (first | ((with_reducible refine gate_callee (f := 8) rfl ?_); refine goesL_ (some 55) rfl rfl Tryz.func8 (by kernel_rfl) rfl #[.string (rdOf ByteArray.empty y164 x3_1)] rfl (by (try simp only [List.map_toArray, List.map_cons, List.map_nil]); first | done | rfl | (simp only [List.length_drop, List.length_take]; rfl)) ?_; (with_reducible refine (acl_Parse.calls (rdOf ByteArray.empty y164 x3_1) t171 t172 _ ?side1 A7.out).mono ?_); (case side1 => exact LaidW.below HX.out (by repeat (first | (with_reducible first | exact HB.out | apply below_alloc | apply pw_below_drewN | apply below_drew1) | exact HB.out))); rintro e w20 ⟨v173, rfl, ho0, hb⟩; refine ⟨_, rfl, ?_⟩; have n0_ := Aside0.mk (Kd.R_below (by (with_reducible repeat (first | apply Kd.R_alloc | apply Kd.R_drewN | apply Kd.R_drew)); exact HO_1.out) hb); have n3_ := Aside0.mk (below_step (by repeat (first | (with_reducible first | exact HB.out | apply below_alloc | apply pw_below_drewN | apply below_drew1) | exact HB.out)) hb); clear HO_1; clear HB; have HO_1 := n0_; have HB := n3_; clear n0_ n3_; (try clear hb); (try clear hb2); (try clear hk); (try clear hi); (try clear ho0)))
            go_ret
            exact ⟨by first | rfl | (simp [errW_none, errW_some] <;> rfl) | (simp [*, errW_none, errW_some] <;> rfl), by repeat (first | (with_reducible first | exact HB.out | apply below_alloc | apply pw_below_drewN | apply below_drew1) | exact HB.out)⟩
        · rw [if_neg c6] at H
          exact absurd H (by simp)
      · rw [if_neg c5] at H
        have c5b0 : decide (x3_1 < (y164.length : Int)) = false := decide_eq_false c5
        clear c5
        obtain ⟨y176, hy176⟩ : ∃ y_ : List ByteArray, y_ = (([(⟨#[97, 108, 108, 111, 119, 32, 49, 32, 62, 32, 57, 32, 49]⟩ : ByteArray), (⟨#[97, 108, 108, 111, 119, 32, 48, 32, 62, 32, 49, 32, 49]⟩ : ByteArray), (⟨#[97, 108, 108, 111, 119, 32, 49, 32, 62, 32, 50]⟩ : ByteArray), (⟨#[97, 108, 108, 111, 119, 32, 49, 32, 62, 32, 50, 32, 49, 32, 49]⟩ : ByteArray), (⟨#[97, 108, 108, 111, 119, 32, 49, 44, 49, 32, 62, 32, 50, 32, 49]⟩ : ByteArray), (⟨#[97, 108, 108, 111, 119, 32, 49, 44, 32, 62, 32, 50, 32, 49]⟩ : ByteArray), (⟨#[97, 108, 108, 111, 119, 32, 44, 49, 32, 62, 32, 50, 32, 49]⟩ : ByteArray), (⟨#[97, 108, 108, 111, 119, 32, 49, 50, 32, 62, 32, 50, 32, 49]⟩ : ByteArray), (⟨#[97, 108, 108, 111, 119, 32, 49, 32, 62, 32, 50, 32, 57, 45, 56]⟩ : ByteArray), (⟨#[97, 108, 108, 111, 119, 32, 49, 32, 62, 32, 50, 32, 48, 48, 55]⟩ : ByteArray), (⟨#[97, 108, 108, 111, 119, 32, 49, 32, 62, 32, 50, 32, 54, 53, 53, 51, 54]⟩ : ByteArray), (⟨#[97, 108, 108, 111, 119, 32, 49, 32, 62, 32, 50, 32, 45, 49]⟩ : ByteArray), (⟨#[97, 108, 108, 111, 119, 32, 49, 32, 62, 32, 50, 32, 49, 45]⟩ : ByteArray), (⟨#[97, 108, 108, 111, 119, 32, 49, 32, 62, 32, 50, 32, 49, 45, 50, 45, 51]⟩ : ByteArray), (⟨#[97, 108, 108, 111, 119, 32, 49, 32, 62, 32, 50, 32, 42, 42]⟩ : ByteArray), (⟨#[112, 101, 114, 109, 105, 116, 32, 49, 32, 62, 32, 50, 32, 49]⟩ : ByteArray), (⟨#[65, 108, 108, 111, 119, 32, 49, 32, 62, 32, 50, 32, 49]⟩ : ByteArray), (⟨#[97, 108, 108, 111, 119, 32, 49, 32, 60, 32, 50, 32, 49]⟩ : ByteArray), (⟨#[97, 108, 108, 111, 119, 9, 49, 32, 62, 32, 50, 32, 49]⟩ : ByteArray), (⟨#[97, 108, 108, 111, 119, 32, 49, 32, 62, 50, 32, 49]⟩ : ByteArray), (⟨#[97, 108, 108, 111, 119, 32, 42, 44, 49, 32, 62, 32, 50, 32, 49]⟩ : ByteArray), (⟨#[120]⟩ : ByteArray), (⟨#[97, 108, 108, 111, 119, 32, 49, 32, 62, 32, 50, 32, 57, 57, 57, 57, 57, 57, 57, 57, 57, 57, 57, 57, 57, 57, 57, 57, 57, 57, 57, 57]⟩ : ByteArray)] : List ByteArray)) := ⟨_, rfl⟩
        replace H : (causewaylaw20_AclKnown.l1 k1 y176 0) = some r := by first | (rw [hy176]; with_reducible exact H) | (have H2_ := (Option.bind_some _ _).symm.trans H; rw [hy176]; with_reducible exact H2_) | (have H2_ := (Option.bind_some _ _).symm.trans H; with_reducible exact H2_) | with_reducible exact H | (rw [hy176]; exact H) | exact H
        have Ny176 := Aside0.mk hy176
        clear hy176
        have H' := Aside0.mk H
        clear H
        obtain ⟨Ao21, co21, eo21⟩ := Kd.R_slice HO_1.out
        subst eo21
        go_wp2_with (first | ((with_reducible refine gate_dst (N := 69) rfl ?_); (try (refine gate_guard (by rfl) ?_; dsimp only)); refine Kd.R_lit Kd.string _ 9 ?hg (N := 69) ?hd (xs := ([(⟨#[97, 108, 108, 111, 119, 32, 49, 32, 62, 32, 57, 32, 49]⟩ : ByteArray), (⟨#[97, 108, 108, 111, 119, 32, 48, 32, 62, 32, 49, 32, 49]⟩ : ByteArray), (⟨#[97, 108, 108, 111, 119, 32, 49, 32, 62, 32, 50]⟩ : ByteArray), (⟨#[97, 108, 108, 111, 119, 32, 49, 32, 62, 32, 50, 32, 49, 32, 49]⟩ : ByteArray), (⟨#[97, 108, 108, 111, 119, 32, 49, 44, 49, 32, 62, 32, 50, 32, 49]⟩ : ByteArray), (⟨#[97, 108, 108, 111, 119, 32, 49, 44, 32, 62, 32, 50, 32, 49]⟩ : ByteArray), (⟨#[97, 108, 108, 111, 119, 32, 44, 49, 32, 62, 32, 50, 32, 49]⟩ : ByteArray), (⟨#[97, 108, 108, 111, 119, 32, 49, 50, 32, 62, 32, 50, 32, 49]⟩ : ByteArray), (⟨#[97, 108, 108, 111, 119, 32, 49, 32, 62, 32, 50, 32, 57, 45, 56]⟩ : ByteArray), (⟨#[97, 108, 108, 111, 119, 32, 49, 32, 62, 32, 50, 32, 48, 48, 55]⟩ : ByteArray), (⟨#[97, 108, 108, 111, 119, 32, 49, 32, 62, 32, 50, 32, 54, 53, 53, 51, 54]⟩ : ByteArray), (⟨#[97, 108, 108, 111, 119, 32, 49, 32, 62, 32, 50, 32, 45, 49]⟩ : ByteArray), (⟨#[97, 108, 108, 111, 119, 32, 49, 32, 62, 32, 50, 32, 49, 45]⟩ : ByteArray), (⟨#[97, 108, 108, 111, 119, 32, 49, 32, 62, 32, 50, 32, 49, 45, 50, 45, 51]⟩ : ByteArray), (⟨#[97, 108, 108, 111, 119, 32, 49, 32, 62, 32, 50, 32, 42, 42]⟩ : ByteArray), (⟨#[112, 101, 114, 109, 105, 116, 32, 49, 32, 62, 32, 50, 32, 49]⟩ : ByteArray), (⟨#[65, 108, 108, 111, 119, 32, 49, 32, 62, 32, 50, 32, 49]⟩ : ByteArray), (⟨#[97, 108, 108, 111, 119, 32, 49, 32, 60, 32, 50, 32, 49]⟩ : ByteArray), (⟨#[97, 108, 108, 111, 119, 9, 49, 32, 62, 32, 50, 32, 49]⟩ : ByteArray), (⟨#[97, 108, 108, 111, 119, 32, 49, 32, 62, 50, 32, 49]⟩ : ByteArray), (⟨#[97, 108, 108, 111, 119, 32, 42, 44, 49, 32, 62, 32, 50, 32, 49]⟩ : ByteArray), (⟨#[120]⟩ : ByteArray), (⟨#[97, 108, 108, 111, 119, 32, 49, 32, 62, 32, 50, 32, 57, 57, 57, 57, 57, 57, 57, 57, 57, 57, 57, 57, 57, 57, 57, 57, 57, 57, 57, 57]⟩ : ByteArray)] : List ByteArray)) (inner := [.string (⟨#[97, 108, 108, 111, 119, 32, 49, 32, 62, 32, 57, 32, 49]⟩ : ByteArray), .string (⟨#[97, 108, 108, 111, 119, 32, 48, 32, 62, 32, 49, 32, 49]⟩ : ByteArray), .string (⟨#[97, 108, 108, 111, 119, 32, 49, 32, 62, 32, 50]⟩ : ByteArray), .string (⟨#[97, 108, 108, 111, 119, 32, 49, 32, 62, 32, 50, 32, 49, 32, 49]⟩ : ByteArray), .string (⟨#[97, 108, 108, 111, 119, 32, 49, 44, 49, 32, 62, 32, 50, 32, 49]⟩ : ByteArray), .string (⟨#[97, 108, 108, 111, 119, 32, 49, 44, 32, 62, 32, 50, 32, 49]⟩ : ByteArray), .string (⟨#[97, 108, 108, 111, 119, 32, 44, 49, 32, 62, 32, 50, 32, 49]⟩ : ByteArray), .string (⟨#[97, 108, 108, 111, 119, 32, 49, 50, 32, 62, 32, 50, 32, 49]⟩ : ByteArray), .string (⟨#[97, 108, 108, 111, 119, 32, 49, 32, 62, 32, 50, 32, 57, 45, 56]⟩ : ByteArray), .string (⟨#[97, 108, 108, 111, 119, 32, 49, 32, 62, 32, 50, 32, 48, 48, 55]⟩ : ByteArray), .string (⟨#[97, 108, 108, 111, 119, 32, 49, 32, 62, 32, 50, 32, 54, 53, 53, 51, 54]⟩ : ByteArray), .string (⟨#[97, 108, 108, 111, 119, 32, 49, 32, 62, 32, 50, 32, 45, 49]⟩ : ByteArray), .string (⟨#[97, 108, 108, 111, 119, 32, 49, 32, 62, 32, 50, 32, 49, 45]⟩ : ByteArray), .string (⟨#[97, 108, 108, 111, 119, 32, 49, 32, 62, 32, 50, 32, 49, 45, 50, 45, 51]⟩ : ByteArray), .string (⟨#[97, 108, 108, 111, 119, 32, 49, 32, 62, 32, 50, 32, 42, 42]⟩ : ByteArray), .string (⟨#[112, 101, 114, 109, 105, 116, 32, 49, 32, 62, 32, 50, 32, 49]⟩ : ByteArray), .string (⟨#[65, 108, 108, 111, 119, 32, 49, 32, 62, 32, 50, 32, 49]⟩ : ByteArray), .string (⟨#[97, 108, 108, 111, 119, 32, 49, 32, 60, 32, 50, 32, 49]⟩ : ByteArray), .string (⟨#[97, 108, 108, 111, 119, 9, 49, 32, 62, 32, 50, 32, 49]⟩ : ByteArray), .string (⟨#[97, 108, 108, 111, 119, 32, 49, 32, 62, 50, 32, 49]⟩ : ByteArray), .string (⟨#[97, 108, 108, 111, 119, 32, 42, 44, 49, 32, 62, 32, 50, 32, 49]⟩ : ByteArray), .string (⟨#[120]⟩ : ByteArray), .string (⟨#[97, 108, 108, 111, 119, 32, 49, 32, 62, 32, 50, 32, 57, 57, 57, 57, 57, 57, 57, 57, 57, 57, 57, 57, 57, 57, 57, 57, 57, 57, 57, 57]⟩ : ByteArray)]) (ok := fun _ => True) (okp := fun _ => True) ?hr ?hp (fun _ hk => hk) trivial (Below.refl _ _) (Nat.le_refl _) (by simp) ?_; (case hd => rfl); (case hg => rfl); (case hr => first | (go_simp; done) | (go_simp; rfl)); (case hp => exact (Reps.one (show Kd.M Kd.string _ _ _ (⟨#[97, 108, 108, 111, 119, 32, 49, 32, 62, 32, 57, 32, 49]⟩ : ByteArray) [.string (⟨#[97, 108, 108, 111, 119, 32, 49, 32, 62, 32, 57, 32, 49]⟩ : ByteArray)] from rfl) (Reps.one (show Kd.M Kd.string _ _ _ (⟨#[97, 108, 108, 111, 119, 32, 48, 32, 62, 32, 49, 32, 49]⟩ : ByteArray) [.string (⟨#[97, 108, 108, 111, 119, 32, 48, 32, 62, 32, 49, 32, 49]⟩ : ByteArray)] from rfl) (Reps.one (show Kd.M Kd.string _ _ _ (⟨#[97, 108, 108, 111, 119, 32, 49, 32, 62, 32, 50]⟩ : ByteArray) [.string (⟨#[97, 108, 108, 111, 119, 32, 49, 32, 62, 32, 50]⟩ : ByteArray)] from rfl) (Reps.one (show Kd.M Kd.string _ _ _ (⟨#[97, 108, 108, 111, 119, 32, 49, 32, 62, 32, 50, 32, 49, 32, 49]⟩ : ByteArray) [.string (⟨#[97, 108, 108, 111, 119, 32, 49, 32, 62, 32, 50, 32, 49, 32, 49]⟩ : ByteArray)] from rfl) (Reps.one (show Kd.M Kd.string _ _ _ (⟨#[97, 108, 108, 111, 119, 32, 49, 44, 49, 32, 62, 32, 50, 32, 49]⟩ : ByteArray) [.string (⟨#[97, 108, 108, 111, 119, 32, 49, 44, 49, 32, 62, 32, 50, 32, 49]⟩ : ByteArray)] from rfl) (Reps.one (show Kd.M Kd.string _ _ _ (⟨#[97, 108, 108, 111, 119, 32, 49, 44, 32, 62, 32, 50, 32, 49]⟩ : ByteArray) [.string (⟨#[97, 108, 108, 111, 119, 32, 49, 44, 32, 62, 32, 50, 32, 49]⟩ : ByteArray)] from rfl) (Reps.one (show Kd.M Kd.string _ _ _ (⟨#[97, 108, 108, 111, 119, 32, 44, 49, 32, 62, 32, 50, 32, 49]⟩ : ByteArray) [.string (⟨#[97, 108, 108, 111, 119, 32, 44, 49, 32, 62, 32, 50, 32, 49]⟩ : ByteArray)] from rfl) (Reps.one (show Kd.M Kd.string _ _ _ (⟨#[97, 108, 108, 111, 119, 32, 49, 50, 32, 62, 32, 50, 32, 49]⟩ : ByteArray) [.string (⟨#[97, 108, 108, 111, 119, 32, 49, 50, 32, 62, 32, 50, 32, 49]⟩ : ByteArray)] from rfl) (Reps.one (show Kd.M Kd.string _ _ _ (⟨#[97, 108, 108, 111, 119, 32, 49, 32, 62, 32, 50, 32, 57, 45, 56]⟩ : ByteArray) [.string (⟨#[97, 108, 108, 111, 119, 32, 49, 32, 62, 32, 50, 32, 57, 45, 56]⟩ : ByteArray)] from rfl) (Reps.one (show Kd.M Kd.string _ _ _ (⟨#[97, 108, 108, 111, 119, 32, 49, 32, 62, 32, 50, 32, 48, 48, 55]⟩ : ByteArray) [.string (⟨#[97, 108, 108, 111, 119, 32, 49, 32, 62, 32, 50, 32, 48, 48, 55]⟩ : ByteArray)] from rfl) (Reps.one (show Kd.M Kd.string _ _ _ (⟨#[97, 108, 108, 111, 119, 32, 49, 32, 62, 32, 50, 32, 54, 53, 53, 51, 54]⟩ : ByteArray) [.string (⟨#[97, 108, 108, 111, 119, 32, 49, 32, 62, 32, 50, 32, 54, 53, 53, 51, 54]⟩ : ByteArray)] from rfl) (Reps.one (show Kd.M Kd.string _ _ _ (⟨#[97, 108, 108, 111, 119, 32, 49, 32, 62, 32, 50, 32, 45, 49]⟩ : ByteArray) [.string (⟨#[97, 108, 108, 111, 119, 32, 49, 32, 62, 32, 50, 32, 45, 49]⟩ : ByteArray)] from rfl) (Reps.one (show Kd.M Kd.string _ _ _ (⟨#[97, 108, 108, 111, 119, 32, 49, 32, 62, 32, 50, 32, 49, 45]⟩ : ByteArray) [.string (⟨#[97, 108, 108, 111, 119, 32, 49, 32, 62, 32, 50, 32, 49, 45]⟩ : ByteArray)] from rfl) (Reps.one (show Kd.M Kd.string _ _ _ (⟨#[97, 108, 108, 111, 119, 32, 49, 32, 62, 32, 50, 32, 49, 45, 50, 45, 51]⟩ : ByteArray) [.string (⟨#[97, 108, 108, 111, 119, 32, 49, 32, 62, 32, 50, 32, 49, 45, 50, 45, 51]⟩ : ByteArray)] from rfl) (Reps.one (show Kd.M Kd.string _ _ _ (⟨#[97, 108, 108, 111, 119, 32, 49, 32, 62, 32, 50, 32, 42, 42]⟩ : ByteArray) [.string (⟨#[97, 108, 108, 111, 119, 32, 49, 32, 62, 32, 50, 32, 42, 42]⟩ : ByteArray)] from rfl) (Reps.one (show Kd.M Kd.string _ _ _ (⟨#[112, 101, 114, 109, 105, 116, 32, 49, 32, 62, 32, 50, 32, 49]⟩ : ByteArray) [.string (⟨#[112, 101, 114, 109, 105, 116, 32, 49, 32, 62, 32, 50, 32, 49]⟩ : ByteArray)] from rfl) (Reps.one (show Kd.M Kd.string _ _ _ (⟨#[65, 108, 108, 111, 119, 32, 49, 32, 62, 32, 50, 32, 49]⟩ : ByteArray) [.string (⟨#[65, 108, 108, 111, 119, 32, 49, 32, 62, 32, 50, 32, 49]⟩ : ByteArray)] from rfl) (Reps.one (show Kd.M Kd.string _ _ _ (⟨#[97, 108, 108, 111, 119, 32, 49, 32, 60, 32, 50, 32, 49]⟩ : ByteArray) [.string (⟨#[97, 108, 108, 111, 119, 32, 49, 32, 60, 32, 50, 32, 49]⟩ : ByteArray)] from rfl) (Reps.one (show Kd.M Kd.string _ _ _ (⟨#[97, 108, 108, 111, 119, 9, 49, 32, 62, 32, 50, 32, 49]⟩ : ByteArray) [.string (⟨#[97, 108, 108, 111, 119, 9, 49, 32, 62, 32, 50, 32, 49]⟩ : ByteArray)] from rfl) (Reps.one (show Kd.M Kd.string _ _ _ (⟨#[97, 108, 108, 111, 119, 32, 49, 32, 62, 50, 32, 49]⟩ : ByteArray) [.string (⟨#[97, 108, 108, 111, 119, 32, 49, 32, 62, 50, 32, 49]⟩ : ByteArray)] from rfl) (Reps.one (show Kd.M Kd.string _ _ _ (⟨#[97, 108, 108, 111, 119, 32, 42, 44, 49, 32, 62, 32, 50, 32, 49]⟩ : ByteArray) [.string (⟨#[97, 108, 108, 111, 119, 32, 42, 44, 49, 32, 62, 32, 50, 32, 49]⟩ : ByteArray)] from rfl) (Reps.one (show Kd.M Kd.string _ _ _ (⟨#[120]⟩ : ByteArray) [.string (⟨#[120]⟩ : ByteArray)] from rfl) (Reps.one (show Kd.M Kd.string _ _ _ (⟨#[97, 108, 108, 111, 119, 32, 49, 32, 62, 32, 50, 32, 57, 57, 57, 57, 57, 57, 57, 57, 57, 57, 57, 57, 57, 57, 57, 57, 57, 57, 57, 57]⟩ : ByteArray) [.string (⟨#[97, 108, 108, 111, 119, 32, 49, 32, 62, 32, 50, 32, 57, 57, 57, 57, 57, 57, 57, 57, 57, 57, 57, 57, 57, 57, 57, 57, 57, 57, 57, 57]⟩ : ByteArray)] from rfl) (Reps.none _ _))))))))))))))))))))))))); intro v177 w22 ho23 hb hg_ hnew_; clear hg_ hnew_; (first | rw [← Ny176.out] at ho23 | (simp only [Int.reduceToNat] at ho23; rw [← Ny176.out] at ho23)); have n2_ := Aside0.mk (Kd.R_lower (ho23) (below_size (by repeat (first | (with_reducible first | exact HB.out | apply below_alloc | apply pw_below_drewN | apply below_drew1) | exact HB.out)))); have n3_ := Aside0.mk (below_step (by repeat (first | (with_reducible first | exact HB.out | apply below_alloc | apply pw_below_drewN | apply below_drew1) | exact HB.out)) hb); clear HB; have HO178 := n2_; have HB := n3_; clear n2_ n3_; clear hb ho23))
        go_loopg [7] k1 (fun kq v7 w' => ∃ (x7_2 : Int), v7 = .int .i64 x7_2 ∧ Aside0 (causewaylaw20_AclKnown.l1 kq y176 x7_2 = some r) ∧ Aside0 (kq ≤ k1) ∧ Aside0 (Kd.R Kd.string 9 w' w.heap.size (fun _ => True) v177 y176) ∧ Aside0 (Below w.heap.size w w'))
        case atStart => exact ⟨(0), (by first | rfl | (simp; done) | (simp [*]; done)), H', ⟨Nat.le_refl _⟩, ⟨by (with_reducible repeat (first | apply Kd.R_alloc | apply Kd.R_drewN | apply Kd.R_drew)); exact Kd.R_mono HO178.out (fun _ hk => trivial)⟩, ⟨by repeat (first | (with_reducible first | exact HB.out | apply below_alloc | apply pw_below_drewN | apply below_drew1) | exact HB.out)⟩⟩
        case round =>
          clear H'
          try clear c1
          try clear p1
          try clear q1
          try clear hx1
          try clear p2
          try clear c5
          try clear c5b0
          try clear c6
          try clear c6b0
          try clear p6
          try clear c7
          try clear c8
          try clear c8b0
          try clear c8b1
          try clear c9
          try clear c9b0
          try clear c10
          try clear c10b0
          try clear c10b1
          try clear p17
          try clear q17
          try clear hx17
          try clear hx170_0
          try clear hx175_0
          try clear p170
          try clear p175
          try clear p2
          try clear q170
          try clear q175
          obtain ⟨x7_2, rfl, HA, HK2, HO_6, HB⟩ := hrel
          cases gk with
          | zero => exact absurd HA.out (by simp [causewaylaw20_AclKnown.l1])
          | succ k2 =>
            have H := HA.out
            clear HA
            simp only [causewaylaw20_AclKnown.l1] at H
            by_cases c24 : x7_2 < (y176.length : Int)
            · rw [if_pos c24] at H
              have c24b0 : decide (x7_2 < (y176.length : Int)) = true := decide_eq_true c24
              clear c24
              by_cases c25 : 0 ≤ x7_2
              · rw [if_pos c25] at H
                have c25b0 : decide (0 ≤ x7_2) = true := decide_eq_true c25
                clear c25
                by_cases c26 : 13 + (rdOf ByteArray.empty y176 x7_2).size ≤ 9223372036854775807
                · rw [if_pos c26] at H
                  have c26b0 := eq_true c26
                  have c26b1 : decide (13 + (rdOf ByteArray.empty y176 x7_2).size ≤ 9223372036854775807) = true := decide_eq_true c26
                  try have c26b2 : (9223372036854775807 < 13 + (rdOf ByteArray.empty y176 x7_2).size) = False := eq_false (Nat.not_lt.2 c26)
                  by_cases c27 : ((⟨#[100, 101, 110, 121, 32, 49, 32, 62, 32, 50, 32, 49, 10]⟩ : ByteArray) ++ (rdOf ByteArray.empty y176 x7_2)).size + 1 ≤ 9223372036854775807
                  · rw [if_pos c27] at H
                    have c27b0 := eq_true c27
                    have c27b1 : decide (((⟨#[100, 101, 110, 121, 32, 49, 32, 62, 32, 50, 32, 49, 10]⟩ : ByteArray) ++ (rdOf ByteArray.empty y176 x7_2)).size + 1 ≤ 9223372036854775807) = true := decide_eq_true c27
                    try have c27b2 : (9223372036854775807 < ((⟨#[100, 101, 110, 121, 32, 49, 32, 62, 32, 50, 32, 49, 10]⟩ : ByteArray) ++ (rdOf ByteArray.empty y176 x7_2)).size + 1) = False := eq_false (Nat.not_lt.2 c27)
                    try (have c27b3 := c27b2; simp only [ByteArray.size_append, sz_lit1, sz_lit3, sz_lit13] at c27b3)
                    replace H := Option.bind_eq_some_iff.mp H
                    obtain ⟨⟨t180, t181⟩, A280, H⟩ := H
                    replace H : (if t181 = 210 then (if (t180.length : Int) = 0 then (causewaylaw20_AclKnown.l1 k2 y176 (wrap64 (x7_2 + 1))) else (some false)) else (some false)) = some r := H
                    have A28 := Aside0.mk A280
                    clear A280
                    by_cases c29 : t181 = 210
                    · rw [if_pos c29] at H
                      have c29b0 : (t181 == 210) = true := beq_iff_eq.mpr c29
                      have c29b1 : (t181 != 210) = false := bne_eq_false_iff_eq.mpr c29
                      clear c29
                      by_cases c30 : (t180.length : Int) = 0
                      · rw [if_pos c30] at H
                        have c30b0 : ((t180.length : Int) == 0) = true := beq_iff_eq.mpr c30
                        have c30b1 : ((t180.length : Int) != 0) = false := bne_eq_false_iff_eq.mpr c30
                        clear c30
                        have H' := Aside0.mk H
                        clear H
                        obtain ⟨Ao31, co31, eo31⟩ := Kd.R_slice HO_6.out
                        subst eo31
                        have p179 : 0 ≤ (x7_2 : Int) := of_decide_eq_true (by first | (with_reducible assumption) | assumption)
                        have q179 : x7_2 < (y176.length : Int) := of_decide_eq_true (by first | (with_reducible assumption) | assumption)
                        obtain ⟨ad179, e179, hx179_0⟩ := Kd.at_string (Kd.R_reads' HO_6.out).2.2 x7_2 p179 q179
                        cases e179
                        replace p179 := eq_true p179
                        replace q179 := eq_true q179
                        go_wp2_with (first | ((with_reducible refine gate_callee (f := 8) rfl ?_); refine goesL_ (some 83) rfl rfl Tryz.func8 (by kernel_rfl) rfl #[.string (((⟨#[100, 101, 110, 121, 32, 49, 32, 62, 32, 50, 32, 49, 10]⟩ : ByteArray) ++ (rdOf ByteArray.empty y176 x7_2)) ++ (⟨#[10]⟩ : ByteArray))] rfl (by (try simp only [List.map_toArray, List.map_cons, List.map_nil]); first | done | rfl | (simp only [List.length_drop, List.length_take]; rfl)) ?_; (with_reducible refine (acl_Parse.calls (((⟨#[100, 101, 110, 121, 32, 49, 32, 62, 32, 50, 32, 49, 10]⟩ : ByteArray) ++ (rdOf ByteArray.empty y176 x7_2)) ++ (⟨#[10]⟩ : ByteArray)) t180 t181 _ ?side1 A28.out).mono ?_); (case side1 => exact LaidW.below HX.out (by repeat (first | (with_reducible first | exact HB.out | apply below_alloc | apply pw_below_drewN | apply below_drew1) | exact HB.out))); rintro e w32 ⟨v182, rfl, ho0, hb⟩; refine ⟨_, rfl, ?_⟩; have n0_ := Aside0.mk (Kd.R_below (by (with_reducible repeat (first | apply Kd.R_alloc | apply Kd.R_drewN | apply Kd.R_drew)); exact HO_6.out) hb); have n1_ := Aside0.mk (Kd.R_lower ho0 (below_size (by repeat (first | (with_reducible first | exact HB.out | apply below_alloc | apply pw_below_drewN | apply below_drew1) | exact HB.out)))); have n2_ := Aside0.mk (below_step (by repeat (first | (with_reducible first | exact HB.out | apply below_alloc | apply pw_below_drewN | apply below_drew1) | exact HB.out)) hb); clear HO_6; clear HB; have HO_6 := n0_; have HO183 := n1_; have HB := n2_; clear n0_ n1_ n2_; (try clear hb); (try clear hb2); (try clear hk); (try clear hi); (try clear ho0); obtain ⟨Ao33, co33, eo33⟩ := Kd.R_slice HO183.out; subst eo33))
                        go_roundg k2
                        case measure => have := HK1.out; have := HK2.out; omega
                        case rel => exact ⟨(wrap64 (x7_2 + 1)), (by first | rfl | (simp; done) | (simp [*]; done)), H', ⟨by have := HK1.out; have := HK2.out; omega⟩, ⟨by (with_reducible repeat (first | apply Kd.R_alloc | apply Kd.R_drewN | apply Kd.R_drew)); exact HO_6.out⟩, ⟨by repeat (first | (with_reducible first | exact HB.out | apply below_alloc | apply pw_below_drewN | apply below_drew1) | exact HB.out)⟩⟩
                      · rw [if_neg c30] at H
                        have c30b0 : ((t180.length : Int) == 0) = false := beq_eq_false_iff_ne.mpr c30
                        have c30b1 : ((t180.length : Int) != 0) = true := bne_iff_ne.mpr c30
                        have c30b2 : ¬ (t180 = []) := fun h_ => c30 (by rw [h_]; rfl)
                        obtain rfl := Option.some.inj H
                        obtain ⟨Ao34, co34, eo34⟩ := Kd.R_slice HO_6.out
                        subst eo34
                        have p179 : 0 ≤ (x7_2 : Int) := of_decide_eq_true (by first | (with_reducible assumption) | assumption)
                        have q179 : x7_2 < (y176.length : Int) := of_decide_eq_true (by first | (with_reducible assumption) | assumption)
                        obtain ⟨ad179, e179, hx179_0⟩ := Kd.at_string (Kd.R_reads' HO_6.out).2.2 x7_2 p179 q179
                        cases e179
                        replace p179 := eq_true p179
                        replace q179 := eq_true q179
                        go_wp2_with (first | ((with_reducible refine gate_callee (f := 8) rfl ?_); refine goesL_ (some 83) rfl rfl Tryz.func8 (by kernel_rfl) rfl #[.string (((⟨#[100, 101, 110, 121, 32, 49, 32, 62, 32, 50, 32, 49, 10]⟩ : ByteArray) ++ (rdOf ByteArray.empty y176 x7_2)) ++ (⟨#[10]⟩ : ByteArray))] rfl (by (try simp only [List.map_toArray, List.map_cons, List.map_nil]); first | done | rfl | (simp only [List.length_drop, List.length_take]; rfl)) ?_; (with_reducible refine (acl_Parse.calls (((⟨#[100, 101, 110, 121, 32, 49, 32, 62, 32, 50, 32, 49, 10]⟩ : ByteArray) ++ (rdOf ByteArray.empty y176 x7_2)) ++ (⟨#[10]⟩ : ByteArray)) t180 t181 _ ?side1 A28.out).mono ?_); (case side1 => exact LaidW.below HX.out (by repeat (first | (with_reducible first | exact HB.out | apply below_alloc | apply pw_below_drewN | apply below_drew1) | exact HB.out))); rintro e w35 ⟨v182, rfl, ho0, hb⟩; refine ⟨_, rfl, ?_⟩; have n0_ := Aside0.mk (Kd.R_below (by (with_reducible repeat (first | apply Kd.R_alloc | apply Kd.R_drewN | apply Kd.R_drew)); exact HO_6.out) hb); have n1_ := Aside0.mk (Kd.R_lower ho0 (below_size (by repeat (first | (with_reducible first | exact HB.out | apply below_alloc | apply pw_below_drewN | apply below_drew1) | exact HB.out)))); have n2_ := Aside0.mk (below_step (by repeat (first | (with_reducible first | exact HB.out | apply below_alloc | apply pw_below_drewN | apply below_drew1) | exact HB.out)) hb); clear HO_6; clear HB; have HO_6 := n0_; have HO183 := n1_; have HB := n2_; clear n0_ n1_ n2_; (try clear hb); (try clear hb2); (try clear hk); (try clear hi); (try clear ho0); obtain ⟨Ao36, co36, eo36⟩ := Kd.R_slice HO183.out; subst eo36))
                        go_ret
                        exact ⟨by first | rfl | (simp [errW_none, errW_some] <;> rfl) | (simp [*, errW_none, errW_some] <;> rfl), by repeat (first | (with_reducible first | exact HB.out | apply below_alloc | apply pw_below_drewN | apply below_drew1) | exact HB.out)⟩
                    · rw [if_neg c29] at H
                      have c29b0 : (t181 == 210) = false := beq_eq_false_iff_ne.mpr c29
                      have c29b1 : (t181 != 210) = true := bne_iff_ne.mpr c29
                      obtain rfl := Option.some.inj H
                      obtain ⟨Ao37, co37, eo37⟩ := Kd.R_slice HO_6.out
                      subst eo37
                      have p179 : 0 ≤ (x7_2 : Int) := of_decide_eq_true (by first | (with_reducible assumption) | assumption)
                      have q179 : x7_2 < (y176.length : Int) := of_decide_eq_true (by first | (with_reducible assumption) | assumption)
                      obtain ⟨ad179, e179, hx179_0⟩ := Kd.at_string (Kd.R_reads' HO_6.out).2.2 x7_2 p179 q179
                      cases e179
                      replace p179 := eq_true p179
                      replace q179 := eq_true q179
                      go_wp2_with (first | ((with_reducible refine gate_callee (f := 8) rfl ?_); refine goesL_ (some 83) rfl rfl Tryz.func8 (by kernel_rfl) rfl #[.string (((⟨#[100, 101, 110, 121, 32, 49, 32, 62, 32, 50, 32, 49, 10]⟩ : ByteArray) ++ (rdOf ByteArray.empty y176 x7_2)) ++ (⟨#[10]⟩ : ByteArray))] rfl (by (try simp only [List.map_toArray, List.map_cons, List.map_nil]); first | done | rfl | (simp only [List.length_drop, List.length_take]; rfl)) ?_; (with_reducible refine (acl_Parse.calls (((⟨#[100, 101, 110, 121, 32, 49, 32, 62, 32, 50, 32, 49, 10]⟩ : ByteArray) ++ (rdOf ByteArray.empty y176 x7_2)) ++ (⟨#[10]⟩ : ByteArray)) t180 t181 _ ?side1 A28.out).mono ?_); (case side1 => exact LaidW.below HX.out (by repeat (first | (with_reducible first | exact HB.out | apply below_alloc | apply pw_below_drewN | apply below_drew1) | exact HB.out))); rintro e w38 ⟨v182, rfl, ho0, hb⟩; refine ⟨_, rfl, ?_⟩; have n0_ := Aside0.mk (Kd.R_below (by (with_reducible repeat (first | apply Kd.R_alloc | apply Kd.R_drewN | apply Kd.R_drew)); exact HO_6.out) hb); have n2_ := Aside0.mk (below_step (by repeat (first | (with_reducible first | exact HB.out | apply below_alloc | apply pw_below_drewN | apply below_drew1) | exact HB.out)) hb); clear HO_6; clear HB; have HO_6 := n0_; have HB := n2_; clear n0_ n2_; (try clear hb); (try clear hb2); (try clear hk); (try clear hi); (try clear ho0)))
                      go_ret
                      exact ⟨by first | rfl | (simp [errW_none, errW_some] <;> rfl) | (simp [*, errW_none, errW_some] <;> rfl), by repeat (first | (with_reducible first | exact HB.out | apply below_alloc | apply pw_below_drewN | apply below_drew1) | exact HB.out)⟩
                  · rw [if_neg c27] at H
                    exact absurd H (by simp)
                · rw [if_neg c26] at H
                  exact absurd H (by simp)
              · rw [if_neg c25] at H
                exact absurd H (by simp)
            · rw [if_neg c24] at H
              have c24b0 : decide (x7_2 < (y176.length : Int)) = false := decide_eq_false c24
              clear c24
              replace H := Option.bind_eq_some_iff.mp H
              obtain ⟨t184, A390, H⟩ := H
              replace H : ((acl_Parse.f t184).bind fun bt185 => ((strings_Repeat.f (⟨#[100, 101, 110, 121, 32, 49, 32, 62, 32, 50, 32, 49, 10]⟩ : ByteArray) 33).bind fun t189 => ((acl_Parse.f t189).bind fun bt190 => ((strings_Repeat.f (⟨#[100, 101, 110, 121, 32, 49, 32, 62, 32, 50, 32, 49, 10]⟩ : ByteArray) 32).bind fun t194 => (if t194.size + 1 ≤ 9223372036854775807 then ((acl_Parse.f (t194 ++ (⟨#[120]⟩ : ByteArray))).bind fun bt195 => ((strings_Repeat.f (⟨#[32]⟩ : ByteArray) 1024).bind fun t199 => ((acl_Parse.f t199).bind fun bt200 => ((strings_Repeat.f (⟨#[120]⟩ : ByteArray) 1025).bind fun t204 => ((acl_Parse.f t204).bind fun bt205 => ((acl_Text.f (([(⟨true, 6, 8, 80, 90⟩ : S36), (⟨false, 510, 510, 0, 65535⟩ : S36), (⟨false, 4, 256, 7, 7⟩ : S36)] : List (S36)))).bind fun bt212 => (if 33 ≤ 7036874417766 then ((acl_Text.f (List.replicate 33 z36)).bind fun bt217 => ((acl_Text.f (([(⟨false, 1, 2, 0, 0⟩ : S36)] : List (S36)))).bind fun bt222 => ((acl_Text.f (([(⟨false, 2, 512, 0, 0⟩ : S36)] : List (S36)))).bind fun bt227 => ((acl_Text.f (([(⟨false, 2, 2, 1, 0⟩ : S36)] : List (S36)))).bind fun bt232 => ((acl_Text.f (([(⟨false, 2, 2, 0, 65536⟩ : S36)] : List (S36)))).bind fun bt237 => (if 32 ≤ 7036874417766 then (causewaylaw20_AclKnown.l2 k2 bt185.2 bt190.2 bt195.2 bt200.2 bt205.2 bt212.1 bt212.2 bt217.2 bt222.2 bt227.2 bt232.2 bt237.2 (List.replicate 32 z36) 0) else (none))))))) else (none)))))))) else (none)))))) = some r := H
              have A39 := Aside0.mk A390
              clear A390
              replace H := Option.bind_eq_some_iff.mp H
              obtain ⟨⟨t185, t186⟩, A400, H⟩ := H
              replace H : ((strings_Repeat.f (⟨#[100, 101, 110, 121, 32, 49, 32, 62, 32, 50, 32, 49, 10]⟩ : ByteArray) 33).bind fun t189 => ((acl_Parse.f t189).bind fun bt190 => ((strings_Repeat.f (⟨#[100, 101, 110, 121, 32, 49, 32, 62, 32, 50, 32, 49, 10]⟩ : ByteArray) 32).bind fun t194 => (if t194.size + 1 ≤ 9223372036854775807 then ((acl_Parse.f (t194 ++ (⟨#[120]⟩ : ByteArray))).bind fun bt195 => ((strings_Repeat.f (⟨#[32]⟩ : ByteArray) 1024).bind fun t199 => ((acl_Parse.f t199).bind fun bt200 => ((strings_Repeat.f (⟨#[120]⟩ : ByteArray) 1025).bind fun t204 => ((acl_Parse.f t204).bind fun bt205 => ((acl_Text.f (([(⟨true, 6, 8, 80, 90⟩ : S36), (⟨false, 510, 510, 0, 65535⟩ : S36), (⟨false, 4, 256, 7, 7⟩ : S36)] : List (S36)))).bind fun bt212 => (if 33 ≤ 7036874417766 then ((acl_Text.f (List.replicate 33 z36)).bind fun bt217 => ((acl_Text.f (([(⟨false, 1, 2, 0, 0⟩ : S36)] : List (S36)))).bind fun bt222 => ((acl_Text.f (([(⟨false, 2, 512, 0, 0⟩ : S36)] : List (S36)))).bind fun bt227 => ((acl_Text.f (([(⟨false, 2, 2, 1, 0⟩ : S36)] : List (S36)))).bind fun bt232 => ((acl_Text.f (([(⟨false, 2, 2, 0, 65536⟩ : S36)] : List (S36)))).bind fun bt237 => (if 32 ≤ 7036874417766 then (causewaylaw20_AclKnown.l2 k2 t186 bt190.2 bt195.2 bt200.2 bt205.2 bt212.1 bt212.2 bt217.2 bt222.2 bt227.2 bt232.2 bt237.2 (List.replicate 32 z36) 0) else (none))))))) else (none)))))))) else (none))))) = some r := H
              have A40 := Aside0.mk A400
              clear A400
              replace H := Option.bind_eq_some_iff.mp H
              obtain ⟨t189, A410, H⟩ := H
              replace H : ((acl_Parse.f t189).bind fun bt190 => ((strings_Repeat.f (⟨#[100, 101, 110, 121, 32, 49, 32, 62, 32, 50, 32, 49, 10]⟩ : ByteArray) 32).bind fun t194 => (if t194.size + 1 ≤ 9223372036854775807 then ((acl_Parse.f (t194 ++ (⟨#[120]⟩ : ByteArray))).bind fun bt195 => ((strings_Repeat.f (⟨#[32]⟩ : ByteArray) 1024).bind fun t199 => ((acl_Parse.f t199).bind fun bt200 => ((strings_Repeat.f (⟨#[120]⟩ : ByteArray) 1025).bind fun t204 => ((acl_Parse.f t204).bind fun bt205 => ((acl_Text.f (([(⟨true, 6, 8, 80, 90⟩ : S36), (⟨false, 510, 510, 0, 65535⟩ : S36), (⟨false, 4, 256, 7, 7⟩ : S36)] : List (S36)))).bind fun bt212 => (if 33 ≤ 7036874417766 then ((acl_Text.f (List.replicate 33 z36)).bind fun bt217 => ((acl_Text.f (([(⟨false, 1, 2, 0, 0⟩ : S36)] : List (S36)))).bind fun bt222 => ((acl_Text.f (([(⟨false, 2, 512, 0, 0⟩ : S36)] : List (S36)))).bind fun bt227 => ((acl_Text.f (([(⟨false, 2, 2, 1, 0⟩ : S36)] : List (S36)))).bind fun bt232 => ((acl_Text.f (([(⟨false, 2, 2, 0, 65536⟩ : S36)] : List (S36)))).bind fun bt237 => (if 32 ≤ 7036874417766 then (causewaylaw20_AclKnown.l2 k2 t186 bt190.2 bt195.2 bt200.2 bt205.2 bt212.1 bt212.2 bt217.2 bt222.2 bt227.2 bt232.2 bt237.2 (List.replicate 32 z36) 0) else (none))))))) else (none)))))))) else (none)))) = some r := H
              have A41 := Aside0.mk A410
              clear A410
              replace H := Option.bind_eq_some_iff.mp H
              obtain ⟨⟨t190, t191⟩, A420, H⟩ := H
              replace H : ((strings_Repeat.f (⟨#[100, 101, 110, 121, 32, 49, 32, 62, 32, 50, 32, 49, 10]⟩ : ByteArray) 32).bind fun t194 => (if t194.size + 1 ≤ 9223372036854775807 then ((acl_Parse.f (t194 ++ (⟨#[120]⟩ : ByteArray))).bind fun bt195 => ((strings_Repeat.f (⟨#[32]⟩ : ByteArray) 1024).bind fun t199 => ((acl_Parse.f t199).bind fun bt200 => ((strings_Repeat.f (⟨#[120]⟩ : ByteArray) 1025).bind fun t204 => ((acl_Parse.f t204).bind fun bt205 => ((acl_Text.f (([(⟨true, 6, 8, 80, 90⟩ : S36), (⟨false, 510, 510, 0, 65535⟩ : S36), (⟨false, 4, 256, 7, 7⟩ : S36)] : List (S36)))).bind fun bt212 => (if 33 ≤ 7036874417766 then ((acl_Text.f (List.replicate 33 z36)).bind fun bt217 => ((acl_Text.f (([(⟨false, 1, 2, 0, 0⟩ : S36)] : List (S36)))).bind fun bt222 => ((acl_Text.f (([(⟨false, 2, 512, 0, 0⟩ : S36)] : List (S36)))).bind fun bt227 => ((acl_Text.f (([(⟨false, 2, 2, 1, 0⟩ : S36)] : List (S36)))).bind fun bt232 => ((acl_Text.f (([(⟨false, 2, 2, 0, 65536⟩ : S36)] : List (S36)))).bind fun bt237 => (if 32 ≤ 7036874417766 then (causewaylaw20_AclKnown.l2 k2 t186 t191 bt195.2 bt200.2 bt205.2 bt212.1 bt212.2 bt217.2 bt222.2 bt227.2 bt232.2 bt237.2 (List.replicate 32 z36) 0) else (none))))))) else (none)))))))) else (none))) = some r := H
              have A42 := Aside0.mk A420
              clear A420
              replace H := Option.bind_eq_some_iff.mp H
              obtain ⟨t194, A430, H⟩ := H
              replace H : (if t194.size + 1 ≤ 9223372036854775807 then ((acl_Parse.f (t194 ++ (⟨#[120]⟩ : ByteArray))).bind fun bt195 => ((strings_Repeat.f (⟨#[32]⟩ : ByteArray) 1024).bind fun t199 => ((acl_Parse.f t199).bind fun bt200 => ((strings_Repeat.f (⟨#[120]⟩ : ByteArray) 1025).bind fun t204 => ((acl_Parse.f t204).bind fun bt205 => ((acl_Text.f (([(⟨true, 6, 8, 80, 90⟩ : S36), (⟨false, 510, 510, 0, 65535⟩ : S36), (⟨false, 4, 256, 7, 7⟩ : S36)] : List (S36)))).bind fun bt212 => (if 33 ≤ 7036874417766 then ((acl_Text.f (List.replicate 33 z36)).bind fun bt217 => ((acl_Text.f (([(⟨false, 1, 2, 0, 0⟩ : S36)] : List (S36)))).bind fun bt222 => ((acl_Text.f (([(⟨false, 2, 512, 0, 0⟩ : S36)] : List (S36)))).bind fun bt227 => ((acl_Text.f (([(⟨false, 2, 2, 1, 0⟩ : S36)] : List (S36)))).bind fun bt232 => ((acl_Text.f (([(⟨false, 2, 2, 0, 65536⟩ : S36)] : List (S36)))).bind fun bt237 => (if 32 ≤ 7036874417766 then (causewaylaw20_AclKnown.l2 k2 t186 t191 bt195.2 bt200.2 bt205.2 bt212.1 bt212.2 bt217.2 bt222.2 bt227.2 bt232.2 bt237.2 (List.replicate 32 z36) 0) else (none))))))) else (none)))))))) else (none)) = some r := H
              have A43 := Aside0.mk A430
              clear A430
              by_cases c44 : t194.size + 1 ≤ 9223372036854775807
              · rw [if_pos c44] at H
                have c44b0 := eq_true c44
                have c44b1 : decide (t194.size + 1 ≤ 9223372036854775807) = true := decide_eq_true c44
                try have c44b2 : (9223372036854775807 < t194.size + 1) = False := eq_false (Nat.not_lt.2 c44)
                replace H := Option.bind_eq_some_iff.mp H
                obtain ⟨⟨t195, t196⟩, A450, H⟩ := H
                replace H : ((strings_Repeat.f (⟨#[32]⟩ : ByteArray) 1024).bind fun t199 => ((acl_Parse.f t199).bind fun bt200 => ((strings_Repeat.f (⟨#[120]⟩ : ByteArray) 1025).bind fun t204 => ((acl_Parse.f t204).bind fun bt205 => ((acl_Text.f (([(⟨true, 6, 8, 80, 90⟩ : S36), (⟨false, 510, 510, 0, 65535⟩ : S36), (⟨false, 4, 256, 7, 7⟩ : S36)] : List (S36)))).bind fun bt212 => (if 33 ≤ 7036874417766 then ((acl_Text.f (List.replicate 33 z36)).bind fun bt217 => ((acl_Text.f (([(⟨false, 1, 2, 0, 0⟩ : S36)] : List (S36)))).bind fun bt222 => ((acl_Text.f (([(⟨false, 2, 512, 0, 0⟩ : S36)] : List (S36)))).bind fun bt227 => ((acl_Text.f (([(⟨false, 2, 2, 1, 0⟩ : S36)] : List (S36)))).bind fun bt232 => ((acl_Text.f (([(⟨false, 2, 2, 0, 65536⟩ : S36)] : List (S36)))).bind fun bt237 => (if 32 ≤ 7036874417766 then (causewaylaw20_AclKnown.l2 k2 t186 t191 t196 bt200.2 bt205.2 bt212.1 bt212.2 bt217.2 bt222.2 bt227.2 bt232.2 bt237.2 (List.replicate 32 z36) 0) else (none))))))) else (none))))))) = some r := H
                have A45 := Aside0.mk A450
                clear A450
                replace H := Option.bind_eq_some_iff.mp H
                obtain ⟨t199, A460, H⟩ := H
                replace H : ((acl_Parse.f t199).bind fun bt200 => ((strings_Repeat.f (⟨#[120]⟩ : ByteArray) 1025).bind fun t204 => ((acl_Parse.f t204).bind fun bt205 => ((acl_Text.f (([(⟨true, 6, 8, 80, 90⟩ : S36), (⟨false, 510, 510, 0, 65535⟩ : S36), (⟨false, 4, 256, 7, 7⟩ : S36)] : List (S36)))).bind fun bt212 => (if 33 ≤ 7036874417766 then ((acl_Text.f (List.replicate 33 z36)).bind fun bt217 => ((acl_Text.f (([(⟨false, 1, 2, 0, 0⟩ : S36)] : List (S36)))).bind fun bt222 => ((acl_Text.f (([(⟨false, 2, 512, 0, 0⟩ : S36)] : List (S36)))).bind fun bt227 => ((acl_Text.f (([(⟨false, 2, 2, 1, 0⟩ : S36)] : List (S36)))).bind fun bt232 => ((acl_Text.f (([(⟨false, 2, 2, 0, 65536⟩ : S36)] : List (S36)))).bind fun bt237 => (if 32 ≤ 7036874417766 then (causewaylaw20_AclKnown.l2 k2 t186 t191 t196 bt200.2 bt205.2 bt212.1 bt212.2 bt217.2 bt222.2 bt227.2 bt232.2 bt237.2 (List.replicate 32 z36) 0) else (none))))))) else (none)))))) = some r := H
                have A46 := Aside0.mk A460
                clear A460
                replace H := Option.bind_eq_some_iff.mp H
                obtain ⟨⟨t200, t201⟩, A470, H⟩ := H
                replace H : ((strings_Repeat.f (⟨#[120]⟩ : ByteArray) 1025).bind fun t204 => ((acl_Parse.f t204).bind fun bt205 => ((acl_Text.f (([(⟨true, 6, 8, 80, 90⟩ : S36), (⟨false, 510, 510, 0, 65535⟩ : S36), (⟨false, 4, 256, 7, 7⟩ : S36)] : List (S36)))).bind fun bt212 => (if 33 ≤ 7036874417766 then ((acl_Text.f (List.replicate 33 z36)).bind fun bt217 => ((acl_Text.f (([(⟨false, 1, 2, 0, 0⟩ : S36)] : List (S36)))).bind fun bt222 => ((acl_Text.f (([(⟨false, 2, 512, 0, 0⟩ : S36)] : List (S36)))).bind fun bt227 => ((acl_Text.f (([(⟨false, 2, 2, 1, 0⟩ : S36)] : List (S36)))).bind fun bt232 => ((acl_Text.f (([(⟨false, 2, 2, 0, 65536⟩ : S36)] : List (S36)))).bind fun bt237 => (if 32 ≤ 7036874417766 then (causewaylaw20_AclKnown.l2 k2 t186 t191 t196 t201 bt205.2 bt212.1 bt212.2 bt217.2 bt222.2 bt227.2 bt232.2 bt237.2 (List.replicate 32 z36) 0) else (none))))))) else (none))))) = some r := H
                have A47 := Aside0.mk A470
                clear A470
                replace H := Option.bind_eq_some_iff.mp H
                obtain ⟨t204, A480, H⟩ := H
                replace H : ((acl_Parse.f t204).bind fun bt205 => ((acl_Text.f (([(⟨true, 6, 8, 80, 90⟩ : S36), (⟨false, 510, 510, 0, 65535⟩ : S36), (⟨false, 4, 256, 7, 7⟩ : S36)] : List (S36)))).bind fun bt212 => (if 33 ≤ 7036874417766 then ((acl_Text.f (List.replicate 33 z36)).bind fun bt217 => ((acl_Text.f (([(⟨false, 1, 2, 0, 0⟩ : S36)] : List (S36)))).bind fun bt222 => ((acl_Text.f (([(⟨false, 2, 512, 0, 0⟩ : S36)] : List (S36)))).bind fun bt227 => ((acl_Text.f (([(⟨false, 2, 2, 1, 0⟩ : S36)] : List (S36)))).bind fun bt232 => ((acl_Text.f (([(⟨false, 2, 2, 0, 65536⟩ : S36)] : List (S36)))).bind fun bt237 => (if 32 ≤ 7036874417766 then (causewaylaw20_AclKnown.l2 k2 t186 t191 t196 t201 bt205.2 bt212.1 bt212.2 bt217.2 bt222.2 bt227.2 bt232.2 bt237.2 (List.replicate 32 z36) 0) else (none))))))) else (none)))) = some r := H
                have A48 := Aside0.mk A480
                clear A480
                replace H := Option.bind_eq_some_iff.mp H
                obtain ⟨⟨t205, t206⟩, A490, H⟩ := H
                replace H : ((acl_Text.f (([(⟨true, 6, 8, 80, 90⟩ : S36), (⟨false, 510, 510, 0, 65535⟩ : S36), (⟨false, 4, 256, 7, 7⟩ : S36)] : List (S36)))).bind fun bt212 => (if 33 ≤ 7036874417766 then ((acl_Text.f (List.replicate 33 z36)).bind fun bt217 => ((acl_Text.f (([(⟨false, 1, 2, 0, 0⟩ : S36)] : List (S36)))).bind fun bt222 => ((acl_Text.f (([(⟨false, 2, 512, 0, 0⟩ : S36)] : List (S36)))).bind fun bt227 => ((acl_Text.f (([(⟨false, 2, 2, 1, 0⟩ : S36)] : List (S36)))).bind fun bt232 => ((acl_Text.f (([(⟨false, 2, 2, 0, 65536⟩ : S36)] : List (S36)))).bind fun bt237 => (if 32 ≤ 7036874417766 then (causewaylaw20_AclKnown.l2 k2 t186 t191 t196 t201 t206 bt212.1 bt212.2 bt217.2 bt222.2 bt227.2 bt232.2 bt237.2 (List.replicate 32 z36) 0) else (none))))))) else (none))) = some r := H
                have A49 := Aside0.mk A490
                clear A490
                obtain ⟨y209, hy209⟩ : ∃ y_ : List (S36), y_ = (([(⟨true, 6, 8, 80, 90⟩ : S36), (⟨false, 510, 510, 0, 65535⟩ : S36), (⟨false, 4, 256, 7, 7⟩ : S36)] : List (S36))) := ⟨_, rfl⟩
                replace H : ((acl_Text.f y209).bind fun bt212 => (if 33 ≤ 7036874417766 then ((acl_Text.f (List.replicate 33 z36)).bind fun bt217 => ((acl_Text.f (([(⟨false, 1, 2, 0, 0⟩ : S36)] : List (S36)))).bind fun bt222 => ((acl_Text.f (([(⟨false, 2, 512, 0, 0⟩ : S36)] : List (S36)))).bind fun bt227 => ((acl_Text.f (([(⟨false, 2, 2, 1, 0⟩ : S36)] : List (S36)))).bind fun bt232 => ((acl_Text.f (([(⟨false, 2, 2, 0, 65536⟩ : S36)] : List (S36)))).bind fun bt237 => (if 32 ≤ 7036874417766 then (causewaylaw20_AclKnown.l2 k2 t186 t191 t196 t201 t206 bt212.1 bt212.2 bt217.2 bt222.2 bt227.2 bt232.2 bt237.2 (List.replicate 32 z36) 0) else (none))))))) else (none))) = some r := by first | (rw [hy209]; with_reducible exact H) | (have H2_ := (Option.bind_some _ _).symm.trans H; rw [hy209]; with_reducible exact H2_) | (have H2_ := (Option.bind_some _ _).symm.trans H; with_reducible exact H2_) | with_reducible exact H | (rw [hy209]; exact H) | exact H
                have Ny209 := Aside0.mk hy209
                clear hy209
                replace H := Option.bind_eq_some_iff.mp H
                obtain ⟨⟨t212, t213⟩, A500, H⟩ := H
                replace H : (if 33 ≤ 7036874417766 then ((acl_Text.f (List.replicate 33 z36)).bind fun bt217 => ((acl_Text.f (([(⟨false, 1, 2, 0, 0⟩ : S36)] : List (S36)))).bind fun bt222 => ((acl_Text.f (([(⟨false, 2, 512, 0, 0⟩ : S36)] : List (S36)))).bind fun bt227 => ((acl_Text.f (([(⟨false, 2, 2, 1, 0⟩ : S36)] : List (S36)))).bind fun bt232 => ((acl_Text.f (([(⟨false, 2, 2, 0, 65536⟩ : S36)] : List (S36)))).bind fun bt237 => (if 32 ≤ 7036874417766 then (causewaylaw20_AclKnown.l2 k2 t186 t191 t196 t201 t206 t212 t213 bt217.2 bt222.2 bt227.2 bt232.2 bt237.2 (List.replicate 32 z36) 0) else (none))))))) else (none)) = some r := H
                have A50 := Aside0.mk A500
                clear A500
                by_cases c51 : 33 ≤ 7036874417766
                · rw [if_pos c51] at H
                  have c51b0 := eq_true c51
                  have c51b1 : decide (33 ≤ 7036874417766) = true := decide_eq_true c51
                  clear c51
                  obtain ⟨y214, hy214⟩ : ∃ y_ : List (S36), y_ = (List.replicate 33 z36) := ⟨_, rfl⟩
                  replace H : ((acl_Text.f y214).bind fun bt217 => ((acl_Text.f (([(⟨false, 1, 2, 0, 0⟩ : S36)] : List (S36)))).bind fun bt222 => ((acl_Text.f (([(⟨false, 2, 512, 0, 0⟩ : S36)] : List (S36)))).bind fun bt227 => ((acl_Text.f (([(⟨false, 2, 2, 1, 0⟩ : S36)] : List (S36)))).bind fun bt232 => ((acl_Text.f (([(⟨false, 2, 2, 0, 65536⟩ : S36)] : List (S36)))).bind fun bt237 => (if 32 ≤ 7036874417766 then (causewaylaw20_AclKnown.l2 k2 t186 t191 t196 t201 t206 t212 t213 bt217.2 bt222.2 bt227.2 bt232.2 bt237.2 (List.replicate 32 z36) 0) else (none))))))) = some r := by first | (rw [hy214]; with_reducible exact H) | (have H2_ := (Option.bind_some _ _).symm.trans H; rw [hy214]; with_reducible exact H2_) | (have H2_ := (Option.bind_some _ _).symm.trans H; with_reducible exact H2_) | with_reducible exact H | (rw [hy214]; exact H) | exact H
                  have Ny214 := Aside0.mk hy214
                  clear hy214
                  replace H := Option.bind_eq_some_iff.mp H
                  obtain ⟨⟨t217, t218⟩, A520, H⟩ := H
                  replace H : ((acl_Text.f (([(⟨false, 1, 2, 0, 0⟩ : S36)] : List (S36)))).bind fun bt222 => ((acl_Text.f (([(⟨false, 2, 512, 0, 0⟩ : S36)] : List (S36)))).bind fun bt227 => ((acl_Text.f (([(⟨false, 2, 2, 1, 0⟩ : S36)] : List (S36)))).bind fun bt232 => ((acl_Text.f (([(⟨false, 2, 2, 0, 65536⟩ : S36)] : List (S36)))).bind fun bt237 => (if 32 ≤ 7036874417766 then (causewaylaw20_AclKnown.l2 k2 t186 t191 t196 t201 t206 t212 t213 t218 bt222.2 bt227.2 bt232.2 bt237.2 (List.replicate 32 z36) 0) else (none)))))) = some r := H
                  have A52 := Aside0.mk A520
                  clear A520
                  obtain ⟨y219, hy219⟩ : ∃ y_ : List (S36), y_ = (([(⟨false, 1, 2, 0, 0⟩ : S36)] : List (S36))) := ⟨_, rfl⟩
                  replace H : ((acl_Text.f y219).bind fun bt222 => ((acl_Text.f (([(⟨false, 2, 512, 0, 0⟩ : S36)] : List (S36)))).bind fun bt227 => ((acl_Text.f (([(⟨false, 2, 2, 1, 0⟩ : S36)] : List (S36)))).bind fun bt232 => ((acl_Text.f (([(⟨false, 2, 2, 0, 65536⟩ : S36)] : List (S36)))).bind fun bt237 => (if 32 ≤ 7036874417766 then (causewaylaw20_AclKnown.l2 k2 t186 t191 t196 t201 t206 t212 t213 t218 bt222.2 bt227.2 bt232.2 bt237.2 (List.replicate 32 z36) 0) else (none)))))) = some r := by first | (rw [hy219]; with_reducible exact H) | (have H2_ := (Option.bind_some _ _).symm.trans H; rw [hy219]; with_reducible exact H2_) | (have H2_ := (Option.bind_some _ _).symm.trans H; with_reducible exact H2_) | with_reducible exact H | (rw [hy219]; exact H) | exact H
                  have Ny219 := Aside0.mk hy219
                  clear hy219
                  replace H := Option.bind_eq_some_iff.mp H
                  obtain ⟨⟨t222, t223⟩, A530, H⟩ := H
                  replace H : ((acl_Text.f (([(⟨false, 2, 512, 0, 0⟩ : S36)] : List (S36)))).bind fun bt227 => ((acl_Text.f (([(⟨false, 2, 2, 1, 0⟩ : S36)] : List (S36)))).bind fun bt232 => ((acl_Text.f (([(⟨false, 2, 2, 0, 65536⟩ : S36)] : List (S36)))).bind fun bt237 => (if 32 ≤ 7036874417766 then (causewaylaw20_AclKnown.l2 k2 t186 t191 t196 t201 t206 t212 t213 t218 t223 bt227.2 bt232.2 bt237.2 (List.replicate 32 z36) 0) else (none))))) = some r := H
                  have A53 := Aside0.mk A530
                  clear A530
                  obtain ⟨y224, hy224⟩ : ∃ y_ : List (S36), y_ = (([(⟨false, 2, 512, 0, 0⟩ : S36)] : List (S36))) := ⟨_, rfl⟩
                  replace H : ((acl_Text.f y224).bind fun bt227 => ((acl_Text.f (([(⟨false, 2, 2, 1, 0⟩ : S36)] : List (S36)))).bind fun bt232 => ((acl_Text.f (([(⟨false, 2, 2, 0, 65536⟩ : S36)] : List (S36)))).bind fun bt237 => (if 32 ≤ 7036874417766 then (causewaylaw20_AclKnown.l2 k2 t186 t191 t196 t201 t206 t212 t213 t218 t223 bt227.2 bt232.2 bt237.2 (List.replicate 32 z36) 0) else (none))))) = some r := by first | (rw [hy224]; with_reducible exact H) | (have H2_ := (Option.bind_some _ _).symm.trans H; rw [hy224]; with_reducible exact H2_) | (have H2_ := (Option.bind_some _ _).symm.trans H; with_reducible exact H2_) | with_reducible exact H | (rw [hy224]; exact H) | exact H
                  have Ny224 := Aside0.mk hy224
                  clear hy224
                  replace H := Option.bind_eq_some_iff.mp H
                  obtain ⟨⟨t227, t228⟩, A540, H⟩ := H
                  replace H : ((acl_Text.f (([(⟨false, 2, 2, 1, 0⟩ : S36)] : List (S36)))).bind fun bt232 => ((acl_Text.f (([(⟨false, 2, 2, 0, 65536⟩ : S36)] : List (S36)))).bind fun bt237 => (if 32 ≤ 7036874417766 then (causewaylaw20_AclKnown.l2 k2 t186 t191 t196 t201 t206 t212 t213 t218 t223 t228 bt232.2 bt237.2 (List.replicate 32 z36) 0) else (none)))) = some r := H
                  have A54 := Aside0.mk A540
                  clear A540
                  obtain ⟨y229, hy229⟩ : ∃ y_ : List (S36), y_ = (([(⟨false, 2, 2, 1, 0⟩ : S36)] : List (S36))) := ⟨_, rfl⟩
                  replace H : ((acl_Text.f y229).bind fun bt232 => ((acl_Text.f (([(⟨false, 2, 2, 0, 65536⟩ : S36)] : List (S36)))).bind fun bt237 => (if 32 ≤ 7036874417766 then (causewaylaw20_AclKnown.l2 k2 t186 t191 t196 t201 t206 t212 t213 t218 t223 t228 bt232.2 bt237.2 (List.replicate 32 z36) 0) else (none)))) = some r := by first | (rw [hy229]; with_reducible exact H) | (have H2_ := (Option.bind_some _ _).symm.trans H; rw [hy229]; with_reducible exact H2_) | (have H2_ := (Option.bind_some _ _).symm.trans H; with_reducible exact H2_) | with_reducible exact H | (rw [hy229]; exact H) | exact H
                  have Ny229 := Aside0.mk hy229
                  clear hy229
                  replace H := Option.bind_eq_some_iff.mp H
                  obtain ⟨⟨t232, t233⟩, A550, H⟩ := H
                  replace H : ((acl_Text.f (([(⟨false, 2, 2, 0, 65536⟩ : S36)] : List (S36)))).bind fun bt237 => (if 32 ≤ 7036874417766 then (causewaylaw20_AclKnown.l2 k2 t186 t191 t196 t201 t206 t212 t213 t218 t223 t228 t233 bt237.2 (List.replicate 32 z36) 0) else (none))) = some r := H
                  have A55 := Aside0.mk A550
                  clear A550
                  obtain ⟨y234, hy234⟩ : ∃ y_ : List (S36), y_ = (([(⟨false, 2, 2, 0, 65536⟩ : S36)] : List (S36))) := ⟨_, rfl⟩
                  replace H : ((acl_Text.f y234).bind fun bt237 => (if 32 ≤ 7036874417766 then (causewaylaw20_AclKnown.l2 k2 t186 t191 t196 t201 t206 t212 t213 t218 t223 t228 t233 bt237.2 (List.replicate 32 z36) 0) else (none))) = some r := by first | (rw [hy234]; with_reducible exact H) | (have H2_ := (Option.bind_some _ _).symm.trans H; rw [hy234]; with_reducible exact H2_) | (have H2_ := (Option.bind_some _ _).symm.trans H; with_reducible exact H2_) | with_reducible exact H | (rw [hy234]; exact H) | exact H
                  have Ny234 := Aside0.mk hy234
                  clear hy234
                  replace H := Option.bind_eq_some_iff.mp H
                  obtain ⟨⟨t237, t238⟩, A560, H⟩ := H
                  replace H : (if 32 ≤ 7036874417766 then (causewaylaw20_AclKnown.l2 k2 t186 t191 t196 t201 t206 t212 t213 t218 t223 t228 t233 t238 (List.replicate 32 z36) 0) else (none)) = some r := H
                  have A56 := Aside0.mk A560
                  clear A560
                  by_cases c57 : 32 ≤ 7036874417766
                  · rw [if_pos c57] at H
                    have c57b0 := eq_true c57
                    have c57b1 : decide (32 ≤ 7036874417766) = true := decide_eq_true c57
                    clear c57
                    obtain ⟨y239, hy239⟩ : ∃ y_ : List (S36), y_ = (List.replicate 32 z36) := ⟨_, rfl⟩
                    replace H : (causewaylaw20_AclKnown.l2 k2 t186 t191 t196 t201 t206 t212 t213 t218 t223 t228 t233 t238 y239 0) = some r := by first | (rw [hy239]; with_reducible exact H) | (have H2_ := (Option.bind_some _ _).symm.trans H; rw [hy239]; with_reducible exact H2_) | (have H2_ := (Option.bind_some _ _).symm.trans H; with_reducible exact H2_) | with_reducible exact H | (rw [hy239]; exact H) | exact H
                    have Ny239 := Aside0.mk hy239
                    clear hy239
                    have H' := Aside0.mk H
                    clear H
                    obtain ⟨Ao58, co58, eo58⟩ := Kd.R_slice HO_6.out
                    subst eo58
                    go_wp2_with (first | ((with_reducible refine gate_callee (f := 14) rfl ?_); refine goesL_ (some 95) rfl rfl Tryz.func14 (by kernel_rfl) rfl #[.string (⟨#[100, 101, 110, 121, 32, 49, 32, 62, 32, 50, 32, 49, 10]⟩ : ByteArray), .int .i64 32] rfl (by (try simp only [List.map_toArray, List.map_cons, List.map_nil]); first | done | rfl | (simp only [List.length_drop, List.length_take]; rfl)) ?_; (with_reducible refine (strings_Repeat.calls (⟨#[100, 101, 110, 121, 32, 49, 32, 62, 32, 50, 32, 49, 10]⟩ : ByteArray) 32 t184 _ ?side1 A39.out).mono ?_); (case side1 => exact LaidW.below HX.out (by repeat (first | (with_reducible first | exact HB.out | apply below_alloc | apply pw_below_drewN | apply below_drew1) | exact HB.out))); rintro e w59 ⟨rfl, hb⟩; refine ⟨_, rfl, ?_⟩; have n1_ := Aside0.mk (below_step (by repeat (first | (with_reducible first | exact HB.out | apply below_alloc | apply pw_below_drewN | apply below_drew1) | exact HB.out)) hb); clear HB; have HB := n1_; clear n1_; (try clear hb); (try clear hb2); (try clear hk); (try clear hi)) | ((with_reducible refine gate_callee (f := 8) rfl ?_); refine goesL_ (some 96) rfl rfl Tryz.func8 (by kernel_rfl) rfl #[.string t184] rfl (by (try simp only [List.map_toArray, List.map_cons, List.map_nil]); first | done | rfl | (simp only [List.length_drop, List.length_take]; rfl)) ?_; (with_reducible refine (acl_Parse.calls t184 t185 t186 _ ?side1 A40.out).mono ?_); (case side1 => exact LaidW.below HX.out (by repeat (first | (with_reducible first | exact HB.out | apply below_alloc | apply pw_below_drewN | apply below_drew1) | exact HB.out))); rintro e w60 ⟨v187, rfl, ho0, hb⟩; refine ⟨_, rfl, ?_⟩; have n2_ := Aside0.mk (below_step (by repeat (first | (with_reducible first | exact HB.out | apply below_alloc | apply pw_below_drewN | apply below_drew1) | exact HB.out)) hb); clear HB; have HB := n2_; clear n2_; (try clear hb); (try clear hb2); (try clear hk); (try clear hi); (try clear ho0)) | ((with_reducible refine gate_callee (f := 14) rfl ?_); refine goesL_ (some 101) rfl rfl Tryz.func14 (by kernel_rfl) rfl #[.string (⟨#[100, 101, 110, 121, 32, 49, 32, 62, 32, 50, 32, 49, 10]⟩ : ByteArray), .int .i64 33] rfl (by (try simp only [List.map_toArray, List.map_cons, List.map_nil]); first | done | rfl | (simp only [List.length_drop, List.length_take]; rfl)) ?_; (with_reducible refine (strings_Repeat.calls (⟨#[100, 101, 110, 121, 32, 49, 32, 62, 32, 50, 32, 49, 10]⟩ : ByteArray) 33 t189 _ ?side1 A41.out).mono ?_); (case side1 => exact LaidW.below HX.out (by repeat (first | (with_reducible first | exact HB.out | apply below_alloc | apply pw_below_drewN | apply below_drew1) | exact HB.out))); rintro e w61 ⟨rfl, hb⟩; refine ⟨_, rfl, ?_⟩; have n2_ := Aside0.mk (below_step (by repeat (first | (with_reducible first | exact HB.out | apply below_alloc | apply pw_below_drewN | apply below_drew1) | exact HB.out)) hb); clear HB; have HB := n2_; clear n2_; (try clear hb); (try clear hb2); (try clear hk); (try clear hi)) | ((with_reducible refine gate_callee (f := 8) rfl ?_); refine goesL_ (some 102) rfl rfl Tryz.func8 (by kernel_rfl) rfl #[.string t189] rfl (by (try simp only [List.map_toArray, List.map_cons, List.map_nil]); first | done | rfl | (simp only [List.length_drop, List.length_take]; rfl)) ?_; (with_reducible refine (acl_Parse.calls t189 t190 t191 _ ?side1 A42.out).mono ?_); (case side1 => exact LaidW.below HX.out (by repeat (first | (with_reducible first | exact HB.out | apply below_alloc | apply pw_below_drewN | apply below_drew1) | exact HB.out))); rintro e w62 ⟨v192, rfl, ho0, hb⟩; refine ⟨_, rfl, ?_⟩; have n3_ := Aside0.mk (below_step (by repeat (first | (with_reducible first | exact HB.out | apply below_alloc | apply pw_below_drewN | apply below_drew1) | exact HB.out)) hb); clear HB; have HB := n3_; clear n3_; (try clear hb); (try clear hb2); (try clear hk); (try clear hi); (try clear ho0)) | ((with_reducible refine gate_callee (f := 14) rfl ?_); refine goesL_ (some 107) rfl rfl Tryz.func14 (by kernel_rfl) rfl #[.string (⟨#[100, 101, 110, 121, 32, 49, 32, 62, 32, 50, 32, 49, 10]⟩ : ByteArray), .int .i64 32] rfl (by (try simp only [List.map_toArray, List.map_cons, List.map_nil]); first | done | rfl | (simp only [List.length_drop, List.length_take]; rfl)) ?_; (with_reducible refine (strings_Repeat.calls (⟨#[100, 101, 110, 121, 32, 49, 32, 62, 32, 50, 32, 49, 10]⟩ : ByteArray) 32 t194 _ ?side1 A43.out).mono ?_); (case side1 => exact LaidW.below HX.out (by repeat (first | (with_reducible first | exact HB.out | apply below_alloc | apply pw_below_drewN | apply below_drew1) | exact HB.out))); rintro e w63 ⟨rfl, hb⟩; refine ⟨_, rfl, ?_⟩; have n3_ := Aside0.mk (below_step (by repeat (first | (with_reducible first | exact HB.out | apply below_alloc | apply pw_below_drewN | apply below_drew1) | exact HB.out)) hb); clear HB; have HB := n3_; clear n3_; (try clear hb); (try clear hb2); (try clear hk); (try clear hi)) | ((with_reducible refine gate_callee (f := 8) rfl ?_); refine goesL_ (some 109) rfl rfl Tryz.func8 (by kernel_rfl) rfl #[.string (t194 ++ (⟨#[120]⟩ : ByteArray))] rfl (by (try simp only [List.map_toArray, List.map_cons, List.map_nil]); first | done | rfl | (simp only [List.length_drop, List.length_take]; rfl)) ?_; (with_reducible refine (acl_Parse.calls (t194 ++ (⟨#[120]⟩ : ByteArray)) t195 t196 _ ?side1 A45.out).mono ?_); (case side1 => exact LaidW.below HX.out (by repeat (first | (with_reducible first | exact HB.out | apply below_alloc | apply pw_below_drewN | apply below_drew1) | exact HB.out))); rintro e w64 ⟨v197, rfl, ho0, hb⟩; refine ⟨_, rfl, ?_⟩; have n4_ := Aside0.mk (below_step (by repeat (first | (with_reducible first | exact HB.out | apply below_alloc | apply pw_below_drewN | apply below_drew1) | exact HB.out)) hb); clear HB; have HB := n4_; clear n4_; (try clear hb); (try clear hb2); (try clear hk); (try clear hi); (try clear ho0)) | ((with_reducible refine gate_callee (f := 14) rfl ?_); refine goesL_ (some 113) rfl rfl Tryz.func14 (by kernel_rfl) rfl #[.string (⟨#[32]⟩ : ByteArray), .int .i64 1024] rfl (by (try simp only [List.map_toArray, List.map_cons, List.map_nil]); first | done | rfl | (simp only [List.length_drop, List.length_take]; rfl)) ?_; (with_reducible refine (strings_Repeat.calls (⟨#[32]⟩ : ByteArray) 1024 t199 _ ?side1 A46.out).mono ?_); (case side1 => exact LaidW.below HX.out (by repeat (first | (with_reducible first | exact HB.out | apply below_alloc | apply pw_below_drewN | apply below_drew1) | exact HB.out))); rintro e w65 ⟨rfl, hb⟩; refine ⟨_, rfl, ?_⟩; have n4_ := Aside0.mk (below_step (by repeat (first | (with_reducible first | exact HB.out | apply below_alloc | apply pw_below_drewN | apply below_drew1) | exact HB.out)) hb); clear HB; have HB := n4_; clear n4_; (try clear hb); (try clear hb2); (try clear hk); (try clear hi)) | ((with_reducible refine gate_callee (f := 8) rfl ?_); refine goesL_ (some 114) rfl rfl Tryz.func8 (by kernel_rfl) rfl #[.string t199] rfl (by (try simp only [List.map_toArray, List.map_cons, List.map_nil]); first | done | rfl | (simp only [List.length_drop, List.length_take]; rfl)) ?_; (with_reducible refine (acl_Parse.calls t199 t200 t201 _ ?side1 A47.out).mono ?_); (case side1 => exact LaidW.below HX.out (by repeat (first | (with_reducible first | exact HB.out | apply below_alloc | apply pw_below_drewN | apply below_drew1) | exact HB.out))); rintro e w66 ⟨v202, rfl, ho0, hb⟩; refine ⟨_, rfl, ?_⟩; have n5_ := Aside0.mk (below_step (by repeat (first | (with_reducible first | exact HB.out | apply below_alloc | apply pw_below_drewN | apply below_drew1) | exact HB.out)) hb); clear HB; have HB := n5_; clear n5_; (try clear hb); (try clear hb2); (try clear hk); (try clear hi); (try clear ho0)) | ((with_reducible refine gate_callee (f := 14) rfl ?_); refine goesL_ (some 118) rfl rfl Tryz.func14 (by kernel_rfl) rfl #[.string (⟨#[120]⟩ : ByteArray), .int .i64 1025] rfl (by (try simp only [List.map_toArray, List.map_cons, List.map_nil]); first | done | rfl | (simp only [List.length_drop, List.length_take]; rfl)) ?_; (with_reducible refine (strings_Repeat.calls (⟨#[120]⟩ : ByteArray) 1025 t204 _ ?side1 A48.out).mono ?_); (case side1 => exact LaidW.below HX.out (by repeat (first | (with_reducible first | exact HB.out | apply below_alloc | apply pw_below_drewN | apply below_drew1) | exact HB.out))); rintro e w67 ⟨rfl, hb⟩; refine ⟨_, rfl, ?_⟩; have n5_ := Aside0.mk (below_step (by repeat (first | (with_reducible first | exact HB.out | apply below_alloc | apply pw_below_drewN | apply below_drew1) | exact HB.out)) hb); clear HB; have HB := n5_; clear n5_; (try clear hb); (try clear hb2); (try clear hk); (try clear hi)) | ((with_reducible refine gate_callee (f := 8) rfl ?_); refine goesL_ (some 119) rfl rfl Tryz.func8 (by kernel_rfl) rfl #[.string t204] rfl (by (try simp only [List.map_toArray, List.map_cons, List.map_nil]); first | done | rfl | (simp only [List.length_drop, List.length_take]; rfl)) ?_; (with_reducible refine (acl_Parse.calls t204 t205 t206 _ ?side1 A49.out).mono ?_); (case side1 => exact LaidW.below HX.out (by repeat (first | (with_reducible first | exact HB.out | apply below_alloc | apply pw_below_drewN | apply below_drew1) | exact HB.out))); rintro e w68 ⟨v207, rfl, ho0, hb⟩; refine ⟨_, rfl, ?_⟩; have n6_ := Aside0.mk (below_step (by repeat (first | (with_reducible first | exact HB.out | apply below_alloc | apply pw_below_drewN | apply below_drew1) | exact HB.out)) hb); clear HB; have HB := n6_; clear n6_; (try clear hb); (try clear hb2); (try clear hk); (try clear hi); (try clear ho0)) | ((with_reducible refine gate_dst (N := 126) rfl ?_); (try (refine gate_guard (by rfl) ?_; dsimp only)); refine Kd.R_lit k36 _ 36 ?hg (N := 126) ?hd (xs := ([(⟨true, 6, 8, 80, 90⟩ : S36), (⟨false, 510, 510, 0, 65535⟩ : S36), (⟨false, 4, 256, 7, 7⟩ : S36)] : List (S36))) (inner := [.bool true, .int .i64 6, .int .i64 8, .int .i64 80, .int .i64 90, .bool false, .int .i64 510, .int .i64 510, .int .i64 0, .int .i64 65535, .bool false, .int .i64 4, .int .i64 256, .int .i64 7, .int .i64 7]) (ok := fun _ => True) (okp := fun _ => True) ?hr ?hp (fun _ hk => hk) trivial (Below.refl _ _) (Nat.le_refl _) (by simp) ?_; (case hd => rfl); (case hg => rfl); (case hr => first | (go_simp; done) | (go_simp; rfl)); (case hp => exact (Reps.c5 (show Kd.M k36 _ _ _ (⟨true, 6, 8, 80, 90⟩ : S36) [.bool true, .int .i64 6, .int .i64 8, .int .i64 80, .int .i64 90] from (k36_mkM _ _ _ (⟨true, 6, 8, 80, 90⟩ : S36) )) (Reps.c5 (show Kd.M k36 _ _ _ (⟨false, 510, 510, 0, 65535⟩ : S36) [.bool false, .int .i64 510, .int .i64 510, .int .i64 0, .int .i64 65535] from (k36_mkM _ _ _ (⟨false, 510, 510, 0, 65535⟩ : S36) )) (Reps.c5 (show Kd.M k36 _ _ _ (⟨false, 4, 256, 7, 7⟩ : S36) [.bool false, .int .i64 4, .int .i64 256, .int .i64 7, .int .i64 7] from (k36_mkM _ _ _ (⟨false, 4, 256, 7, 7⟩ : S36) )) (Reps.none _ _))))); intro v210 w69 ho70 hb hg_ hnew_; clear hg_ hnew_; (first | rw [← Ny209.out] at ho70 | (simp only [Int.reduceToNat] at ho70; rw [← Ny209.out] at ho70)); have n6_ := Aside0.mk (Kd.R_lower (((((ho70))))) (below_size (by repeat (first | (with_reducible first | exact HB.out | apply below_alloc | apply pw_below_drewN | apply below_drew1) | exact HB.out)))); have n7_ := Aside0.mk (below_step (by repeat (first | (with_reducible first | exact HB.out | apply below_alloc | apply pw_below_drewN | apply below_drew1) | exact HB.out)) hb); clear HB; have HO211 := n6_; have HB := n7_; clear n6_ n7_; clear hb ho70; obtain ⟨Ao71, co71, eo71⟩ := Kd.R_slice HO211.out; subst eo71) | ((with_reducible refine gate_callee (f := 12) rfl ?_); refine goesL_ (some 127) rfl rfl Tryz.func12 (by kernel_rfl) rfl #[.slice Ao71 y209.length co71] rfl (by (try simp only [List.map_toArray, List.map_cons, List.map_nil]); first | done | rfl | (simp only [List.length_drop, List.length_take]; rfl)) ?_; (with_reducible refine (acl_Text.calls _ _ y209 t212 t213 _ ?side1 ?side2 ?side3 A50.out).mono ?_); (case side1 => repeat (first | exact (Kd.R_reads' HO211.out).2.2 | (with_reducible refine Kd.C_alloc ?_ _) | (with_reducible refine Kd.C_drewN ?_ _) | (with_reducible refine Kd.C_drew ?_))); (case side2 => exact (Kd.R_reads' HO211.out).2.1); (case side3 => exact LaidW.below HX.out (by repeat (first | (with_reducible first | exact HB.out | apply below_alloc | apply pw_below_drewN | apply below_drew1) | exact HB.out))); rintro e w72 ⟨rfl, hb⟩; refine ⟨_, rfl, ?_⟩; have n7_ := Aside0.mk (below_step (by repeat (first | (with_reducible first | exact HB.out | apply below_alloc | apply pw_below_drewN | apply below_drew1) | exact HB.out)) hb); clear HB; have HB := n7_; clear n7_; (try clear hb); (try clear hb2); (try clear hk); (try clear hi)) | ((with_reducible refine gate_dst (N := 131) rfl ?_); (try (refine gate_guard (by rfl) ?_; dsimp only)); refine Kd.R_make k36 _ 36 rfl (N := 131) rfl 22 _ _ rfl 33 rfl rfl Tryz.underlying22 (.agg #[(.bool false), (.int .i64 0), (.int .i64 0), (.int .i64 0), (.int .i64 0)]) 40 info36 rfl (by decide) (by omega) z36 (ok := fun _ => True) (okp := fun _ => True) (k36_mkM _ _ _ z36 ) (fun _ hk => hk) trivial (by omega) (by omega) (Below.refl _ _) (Nat.le_refl _) ?_; intro v215 w73 ho74 hb hg_ hnew_; clear hg_ hnew_; (first | rw [← Ny214.out] at ho74 | (simp only [Int.reduceToNat] at ho74; rw [← Ny214.out] at ho74)); have n7_ := Aside0.mk (Kd.R_lower ((((((ho74)))))) (below_size (by repeat (first | (with_reducible first | exact HB.out | apply below_alloc | apply pw_below_drewN | apply below_drew1) | exact HB.out)))); have n8_ := Aside0.mk (below_step (by repeat (first | (with_reducible first | exact HB.out | apply below_alloc | apply pw_below_drewN | apply below_drew1) | exact HB.out)) hb); clear HB; have HO216 := n7_; have HB := n8_; clear n7_ n8_; clear hb ho74; obtain ⟨Ao75, co75, eo75⟩ := Kd.R_slice HO216.out; subst eo75) | ((with_reducible refine gate_callee (f := 12) rfl ?_); refine goesL_ (some 132) rfl rfl Tryz.func12 (by kernel_rfl) rfl #[.slice Ao75 y214.length co75] rfl (by (try simp only [List.map_toArray, List.map_cons, List.map_nil]); first | done | rfl | (simp only [List.length_drop, List.length_take]; rfl)) ?_; (with_reducible refine (acl_Text.calls _ _ y214 t217 t218 _ ?side1 ?side2 ?side3 A52.out).mono ?_); (case side1 => repeat (first | exact (Kd.R_reads' HO216.out).2.2 | (with_reducible refine Kd.C_alloc ?_ _) | (with_reducible refine Kd.C_drewN ?_ _) | (with_reducible refine Kd.C_drew ?_))); (case side2 => exact (Kd.R_reads' HO216.out).2.1); (case side3 => exact LaidW.below HX.out (by repeat (first | (with_reducible first | exact HB.out | apply below_alloc | apply pw_below_drewN | apply below_drew1) | exact HB.out))); rintro e w76 ⟨rfl, hb⟩; refine ⟨_, rfl, ?_⟩; have n8_ := Aside0.mk (below_step (by repeat (first | (with_reducible first | exact HB.out | apply below_alloc | apply pw_below_drewN | apply below_drew1) | exact HB.out)) hb); clear HB; have HB := n8_; clear n8_; (try clear hb); (try clear hb2); (try clear hk); (try clear hi)) | ((with_reducible refine gate_dst (N := 137) rfl ?_); (try (refine gate_guard (by rfl) ?_; dsimp only)); refine Kd.R_lit k36 _ 36 ?hg (N := 137) ?hd (xs := ([(⟨false, 1, 2, 0, 0⟩ : S36)] : List (S36))) (inner := [.bool false, .int .i64 1, .int .i64 2, .int .i64 0, .int .i64 0]) (ok := fun _ => True) (okp := fun _ => True) ?hr ?hp (fun _ hk => hk) trivial (Below.refl _ _) (Nat.le_refl _) (by simp) ?_; (case hd => rfl); (case hg => rfl); (case hr => first | (go_simp; done) | (go_simp; rfl)); (case hp => exact (Reps.c5 (show Kd.M k36 _ _ _ (⟨false, 1, 2, 0, 0⟩ : S36) [.bool false, .int .i64 1, .int .i64 2, .int .i64 0, .int .i64 0] from (k36_mkM _ _ _ (⟨false, 1, 2, 0, 0⟩ : S36) )) (Reps.none _ _))); intro v220 w77 ho78 hb hg_ hnew_; clear hg_ hnew_; (first | rw [← Ny219.out] at ho78 | (simp only [Int.reduceToNat] at ho78; rw [← Ny219.out] at ho78)); have n8_ := Aside0.mk (Kd.R_lower (((((((ho78))))))) (below_size (by repeat (first | (with_reducible first | exact HB.out | apply below_alloc | apply pw_below_drewN | apply below_drew1) | exact HB.out)))); have n9_ := Aside0.mk (below_step (by repeat (first | (with_reducible first | exact HB.out | apply below_alloc | apply pw_below_drewN | apply below_drew1) | exact HB.out)) hb); clear HB; have HO221 := n8_; have HB := n9_; clear n8_ n9_; clear hb ho78; obtain ⟨Ao79, co79, eo79⟩ := Kd.R_slice HO221.out; subst eo79) | ((with_reducible refine gate_callee (f := 12) rfl ?_); refine goesL_ (some 138) rfl rfl Tryz.func12 (by kernel_rfl) rfl #[.slice Ao79 y219.length co79] rfl (by (try simp only [List.map_toArray, List.map_cons, List.map_nil]); first | done | rfl | (simp only [List.length_drop, List.length_take]; rfl)) ?_; (with_reducible refine (acl_Text.calls _ _ y219 t222 t223 _ ?side1 ?side2 ?side3 A53.out).mono ?_); (case side1 => repeat (first | exact (Kd.R_reads' HO221.out).2.2 | (with_reducible refine Kd.C_alloc ?_ _) | (with_reducible refine Kd.C_drewN ?_ _) | (with_reducible refine Kd.C_drew ?_))); (case side2 => exact (Kd.R_reads' HO221.out).2.1); (case side3 => exact LaidW.below HX.out (by repeat (first | (with_reducible first | exact HB.out | apply below_alloc | apply pw_below_drewN | apply below_drew1) | exact HB.out))); rintro e w80 ⟨rfl, hb⟩; refine ⟨_, rfl, ?_⟩; have n9_ := Aside0.mk (below_step (by repeat (first | (with_reducible first | exact HB.out | apply below_alloc | apply pw_below_drewN | apply below_drew1) | exact HB.out)) hb); clear HB; have HB := n9_; clear n9_; (try clear hb); (try clear hb2); (try clear hk); (try clear hi)) | ((with_reducible refine gate_dst (N := 143) rfl ?_); (try (refine gate_guard (by rfl) ?_; dsimp only)); refine Kd.R_lit k36 _ 36 ?hg (N := 143) ?hd (xs := ([(⟨false, 2, 512, 0, 0⟩ : S36)] : List (S36))) (inner := [.bool false, .int .i64 2, .int .i64 512, .int .i64 0, .int .i64 0]) (ok := fun _ => True) (okp := fun _ => True) ?hr ?hp (fun _ hk => hk) trivial (Below.refl _ _) (Nat.le_refl _) (by simp) ?_; (case hd => rfl); (case hg => rfl); (case hr => first | (go_simp; done) | (go_simp; rfl)); (case hp => exact (Reps.c5 (show Kd.M k36 _ _ _ (⟨false, 2, 512, 0, 0⟩ : S36) [.bool false, .int .i64 2, .int .i64 512, .int .i64 0, .int .i64 0] from (k36_mkM _ _ _ (⟨false, 2, 512, 0, 0⟩ : S36) )) (Reps.none _ _))); intro v225 w81 ho82 hb hg_ hnew_; clear hg_ hnew_; (first | rw [← Ny224.out] at ho82 | (simp only [Int.reduceToNat] at ho82; rw [← Ny224.out] at ho82)); have n9_ := Aside0.mk (Kd.R_lower ((((((((ho82)))))))) (below_size (by repeat (first | (with_reducible first | exact HB.out | apply below_alloc | apply pw_below_drewN | apply below_drew1) | exact HB.out)))); have n10_ := Aside0.mk (below_step (by repeat (first | (with_reducible first | exact HB.out | apply below_alloc | apply pw_below_drewN | apply below_drew1) | exact HB.out)) hb); clear HB; have HO226 := n9_; have HB := n10_; clear n9_ n10_; clear hb ho82; obtain ⟨Ao83, co83, eo83⟩ := Kd.R_slice HO226.out; subst eo83) | ((with_reducible refine gate_callee (f := 12) rfl ?_); refine goesL_ (some 144) rfl rfl Tryz.func12 (by kernel_rfl) rfl #[.slice Ao83 y224.length co83] rfl (by (try simp only [List.map_toArray, List.map_cons, List.map_nil]); first | done | rfl | (simp only [List.length_drop, List.length_take]; rfl)) ?_; (with_reducible refine (acl_Text.calls _ _ y224 t227 t228 _ ?side1 ?side2 ?side3 A54.out).mono ?_); (case side1 => repeat (first | exact (Kd.R_reads' HO226.out).2.2 | (with_reducible refine Kd.C_alloc ?_ _) | (with_reducible refine Kd.C_drewN ?_ _) | (with_reducible refine Kd.C_drew ?_))); (case side2 => exact (Kd.R_reads' HO226.out).2.1); (case side3 => exact LaidW.below HX.out (by repeat (first | (with_reducible first | exact HB.out | apply below_alloc | apply pw_below_drewN | apply below_drew1) | exact HB.out))); rintro e w84 ⟨rfl, hb⟩; refine ⟨_, rfl, ?_⟩; have n10_ := Aside0.mk (below_step (by repeat (first | (with_reducible first | exact HB.out | apply below_alloc | apply pw_below_drewN | apply below_drew1) | exact HB.out)) hb); clear HB; have HB := n10_; clear n10_; (try clear hb); (try clear hb2); (try clear hk); (try clear hi)) | ((with_reducible refine gate_dst (N := 149) rfl ?_); (try (refine gate_guard (by rfl) ?_; dsimp only)); refine Kd.R_lit k36 _ 36 ?hg (N := 149) ?hd (xs := ([(⟨false, 2, 2, 1, 0⟩ : S36)] : List (S36))) (inner := [.bool false, .int .i64 2, .int .i64 2, .int .i64 1, .int .i64 0]) (ok := fun _ => True) (okp := fun _ => True) ?hr ?hp (fun _ hk => hk) trivial (Below.refl _ _) (Nat.le_refl _) (by simp) ?_; (case hd => rfl); (case hg => rfl); (case hr => first | (go_simp; done) | (go_simp; rfl)); (case hp => exact (Reps.c5 (show Kd.M k36 _ _ _ (⟨false, 2, 2, 1, 0⟩ : S36) [.bool false, .int .i64 2, .int .i64 2, .int .i64 1, .int .i64 0] from (k36_mkM _ _ _ (⟨false, 2, 2, 1, 0⟩ : S36) )) (Reps.none _ _))); intro v230 w85 ho86 hb hg_ hnew_; clear hg_ hnew_; (first | rw [← Ny229.out] at ho86 | (simp only [Int.reduceToNat] at ho86; rw [← Ny229.out] at ho86)); have n10_ := Aside0.mk (Kd.R_lower (((((((((ho86))))))))) (below_size (by repeat (first | (with_reducible first | exact HB.out | apply below_alloc | apply pw_below_drewN | apply below_drew1) | exact HB.out)))); have n11_ := Aside0.mk (below_step (by repeat (first | (with_reducible first | exact HB.out | apply below_alloc | apply pw_below_drewN | apply below_drew1) | exact HB.out)) hb); clear HB; have HO231 := n10_; have HB := n11_; clear n10_ n11_; clear hb ho86; obtain ⟨Ao87, co87, eo87⟩ := Kd.R_slice HO231.out; subst eo87) | ((with_reducible refine gate_callee (f := 12) rfl ?_); refine goesL_ (some 150) rfl rfl Tryz.func12 (by kernel_rfl) rfl #[.slice Ao87 y229.length co87] rfl (by (try simp only [List.map_toArray, List.map_cons, List.map_nil]); first | done | rfl | (simp only [List.length_drop, List.length_take]; rfl)) ?_; (with_reducible refine (acl_Text.calls _ _ y229 t232 t233 _ ?side1 ?side2 ?side3 A55.out).mono ?_); (case side1 => repeat (first | exact (Kd.R_reads' HO231.out).2.2 | (with_reducible refine Kd.C_alloc ?_ _) | (with_reducible refine Kd.C_drewN ?_ _) | (with_reducible refine Kd.C_drew ?_))); (case side2 => exact (Kd.R_reads' HO231.out).2.1); (case side3 => exact LaidW.below HX.out (by repeat (first | (with_reducible first | exact HB.out | apply below_alloc | apply pw_below_drewN | apply below_drew1) | exact HB.out))); rintro e w88 ⟨rfl, hb⟩; refine ⟨_, rfl, ?_⟩; have n11_ := Aside0.mk (below_step (by repeat (first | (with_reducible first | exact HB.out | apply below_alloc | apply pw_below_drewN | apply below_drew1) | exact HB.out)) hb); clear HB; have HB := n11_; clear n11_; (try clear hb); (try clear hb2); (try clear hk); (try clear hi)) | ((with_reducible refine gate_dst (N := 155) rfl ?_); (try (refine gate_guard (by rfl) ?_; dsimp only)); refine Kd.R_lit k36 _ 36 ?hg (N := 155) ?hd (xs := ([(⟨false, 2, 2, 0, 65536⟩ : S36)] : List (S36))) (inner := [.bool false, .int .i64 2, .int .i64 2, .int .i64 0, .int .i64 65536]) (ok := fun _ => True) (okp := fun _ => True) ?hr ?hp (fun _ hk => hk) trivial (Below.refl _ _) (Nat.le_refl _) (by simp) ?_; (case hd => rfl); (case hg => rfl); (case hr => first | (go_simp; done) | (go_simp; rfl)); (case hp => exact (Reps.c5 (show Kd.M k36 _ _ _ (⟨false, 2, 2, 0, 65536⟩ : S36) [.bool false, .int .i64 2, .int .i64 2, .int .i64 0, .int .i64 65536] from (k36_mkM _ _ _ (⟨false, 2, 2, 0, 65536⟩ : S36) )) (Reps.none _ _))); intro v235 w89 ho90 hb hg_ hnew_; clear hg_ hnew_; (first | rw [← Ny234.out] at ho90 | (simp only [Int.reduceToNat] at ho90; rw [← Ny234.out] at ho90)); have n11_ := Aside0.mk (Kd.R_lower ((((((((((ho90)))))))))) (below_size (by repeat (first | (with_reducible first | exact HB.out | apply below_alloc | apply pw_below_drewN | apply below_drew1) | exact HB.out)))); have n12_ := Aside0.mk (below_step (by repeat (first | (with_reducible first | exact HB.out | apply below_alloc | apply pw_below_drewN | apply below_drew1) | exact HB.out)) hb); clear HB; have HO236 := n11_; have HB := n12_; clear n11_ n12_; clear hb ho90; obtain ⟨Ao91, co91, eo91⟩ := Kd.R_slice HO236.out; subst eo91) | ((with_reducible refine gate_callee (f := 12) rfl ?_); refine goesL_ (some 156) rfl rfl Tryz.func12 (by kernel_rfl) rfl #[.slice Ao91 y234.length co91] rfl (by (try simp only [List.map_toArray, List.map_cons, List.map_nil]); first | done | rfl | (simp only [List.length_drop, List.length_take]; rfl)) ?_; (with_reducible refine (acl_Text.calls _ _ y234 t237 t238 _ ?side1 ?side2 ?side3 A56.out).mono ?_); (case side1 => repeat (first | exact (Kd.R_reads' HO236.out).2.2 | (with_reducible refine Kd.C_alloc ?_ _) | (with_reducible refine Kd.C_drewN ?_ _) | (with_reducible refine Kd.C_drew ?_))); (case side2 => exact (Kd.R_reads' HO236.out).2.1); (case side3 => exact LaidW.below HX.out (by repeat (first | (with_reducible first | exact HB.out | apply below_alloc | apply pw_below_drewN | apply below_drew1) | exact HB.out))); rintro e w92 ⟨rfl, hb⟩; refine ⟨_, rfl, ?_⟩; have n12_ := Aside0.mk (below_step (by repeat (first | (with_reducible first | exact HB.out | apply below_alloc | apply pw_below_drewN | apply below_drew1) | exact HB.out)) hb); clear HB; have HB := n12_; clear n12_; (try clear hb); (try clear hb2); (try clear hk); (try clear hi)) | ((with_reducible refine gate_dst (N := 159) rfl ?_); (try (refine gate_guard (by rfl) ?_; dsimp only)); refine Kd.R_make k36 _ 36 rfl (N := 159) rfl 22 _ _ rfl 32 rfl rfl Tryz.underlying22 (.agg #[(.bool false), (.int .i64 0), (.int .i64 0), (.int .i64 0), (.int .i64 0)]) 40 info36 rfl (by decide) (by omega) z36 (ok := fun _ => True) (okp := fun _ => True) (k36_mkM _ _ _ z36 ) (fun _ hk => hk) trivial (by omega) (by omega) (Below.refl _ _) (Nat.le_refl _) ?_; intro v240 w93 ho94 hb hg_ hnew_; clear hg_ hnew_; (first | rw [← Ny239.out] at ho94 | (simp only [Int.reduceToNat] at ho94; rw [← Ny239.out] at ho94)); have n12_ := Aside0.mk (Kd.R_lower (((((((((((ho94))))))))))) (below_size (by repeat (first | (with_reducible first | exact HB.out | apply below_alloc | apply pw_below_drewN | apply below_drew1) | exact HB.out)))); have n13_ := Aside0.mk (below_step (by repeat (first | (with_reducible first | exact HB.out | apply below_alloc | apply pw_below_drewN | apply below_drew1) | exact HB.out)) hb); clear HB; have HO241 := n12_; have HB := n13_; clear n12_ n13_; clear hb ho94))
                    go_loopg [34] k2 (fun kq v34 w' => ∃ (x33_3 : List (S36)) (x34_3 : Int), v34 = .int .i64 x34_3 ∧ Aside0 (causewaylaw20_AclKnown.l2 kq t186 t191 t196 t201 t206 t212 t213 t218 t223 t228 t233 t238 x33_3 x34_3 = some r) ∧ Aside0 (kq ≤ k2) ∧ Aside0 (Kd.R k36 36 w' w.heap.size (fun _ => True) v240 x33_3) ∧ Aside0 (Below w.heap.size w w'))
                    case atStart => exact ⟨(y239), (0), (by first | rfl | (simp; done) | (simp [*]; done)), H', ⟨Nat.le_refl _⟩, ⟨by (with_reducible repeat (first | apply Kd.R_alloc | apply Kd.R_drewN | apply Kd.R_drew)); exact Kd.R_mono HO241.out (fun _ hk => trivial)⟩, ⟨by repeat (first | (with_reducible first | exact HB.out | apply below_alloc | apply pw_below_drewN | apply below_drew1) | exact HB.out)⟩⟩
                    case round =>
                      clear H'
                      try clear c1
                      try clear p1
                      try clear q1
                      try clear hx1
                      try clear c2
                      try clear p2
                      try clear c3
                      try clear c4
                      try clear c5
                      try clear c5b0
                      try clear c6
                      try clear c6b0
                      try clear p6
                      try clear c7
                      try clear c8
                      try clear c8b0
                      try clear c8b1
                      try clear c9
                      try clear c9b0
                      try clear c10
                      try clear c10b0
                      try clear c10b1
                      try clear c12
                      try clear c14
                      try clear p17
                      try clear q17
                      try clear hx17
                      try clear c24
                      try clear c24b0
                      try clear c25
                      try clear c25b0
                      try clear c26
                      try clear c26b0
                      try clear c26b1
                      try clear c26b2
                      try clear c27
                      try clear c27b0
                      try clear c27b1
                      try clear c27b2
                      try clear c29
                      try clear c29b0
                      try clear c29b1
                      try clear c30
                      try clear c30b0
                      try clear c30b1
                      try clear c30b2
                      try clear c44
                      try clear c44b0
                      try clear c44b1
                      try clear c44b2
                      try clear c51
                      try clear c51b0
                      try clear c51b1
                      try clear c57
                      try clear c57b0
                      try clear c57b1
                      try clear p64
                      try clear hx170_0
                      try clear hx175_0
                      try clear hx179_0
                      try clear p1
                      try clear p17
                      try clear p170
                      try clear p175
                      try clear p179
                      try clear p2
                      try clear p6
                      try clear q1
                      try clear q17
                      try clear q170
                      try clear q175
                      try clear q179
                      obtain ⟨x33_3, x34_3, rfl, HA, HK3, HO_33, HB⟩ := hrel
                      cases gk with
                      | zero => exact absurd HA.out (by simp [causewaylaw20_AclKnown.l2])
                      | succ k3 =>
                        have H := HA.out
                        clear HA
                        simp only [causewaylaw20_AclKnown.l2] at H
                        by_cases c95 : x34_3 < 32
                        · rw [if_pos c95] at H
                          have c95b0 : decide (x34_3 < 32) = true := decide_eq_true c95
                          clear c95
                          by_cases c96 : 0 ≤ x34_3
                          · rw [if_pos c96] at H
                            have c96b0 : decide (0 ≤ x34_3) = true := decide_eq_true c96
                            clear c96
                            by_cases c97 : x34_3 < (x33_3.length : Int)
                            · rw [if_pos c97] at H
                              have c97b0 : decide (x34_3 < (x33_3.length : Int)) = true := decide_eq_true c97
                              clear c97
                              obtain ⟨y242, hy242⟩ : ∃ y_ : List (S36), y_ = (x33_3.set (x34_3 : Int).toNat (⟨true, 254, 508, 10000, 60000⟩ : S36)) := ⟨_, rfl⟩
                              replace H : (causewaylaw20_AclKnown.l2 k3 t186 t191 t196 t201 t206 t212 t213 t218 t223 t228 t233 t238 y242 (wrap64 (x34_3 + 1))) = some r := by first | (rw [hy242]; with_reducible exact H) | (have H2_ := (Option.bind_some _ _).symm.trans H; rw [hy242]; with_reducible exact H2_) | (have H2_ := (Option.bind_some _ _).symm.trans H; with_reducible exact H2_) | with_reducible exact H | (rw [hy242]; exact H) | exact H
                              have Ny242 := Aside0.mk hy242
                              clear hy242
                              have H' := Aside0.mk H
                              clear H
                              have p98 : 0 ≤ (x34_3 : Int) := of_decide_eq_true (by first | (with_reducible assumption) | assumption)
                              have q98 : (x34_3 : Int) < ((x33_3.length : Int) : Int) := of_decide_eq_true (by first | (with_reducible assumption) | assumption)
                              obtain ⟨go98, co98, eo98, gb98, gl98, cl98, HG98⟩ := Kd.R_form HO_33.out (by omega)
                              (first | cases eo98 | (injection eo98 with ea_ en_ ec_; (first | subst ea_ | (injection ea_ with ea_; subst ea_)); subst ec_; clear en_))
                              have GB98 := Aside0.mk gb98
                              have GG98 := Aside0.mk HG98
                              clear gb98 gl98 HG98
                              obtain ⟨ce98, hcl98, hM98, hcc98, hfr98⟩ := Kd.R_elem HO_33.out z36 (x34_3 : Int) p98 q98
                              obtain rfl := k36_openM hM98
                              have hx98_0 : wr.cell? ⟨go98, (x34_3 : Int).toNat * 5, none⟩ = some (.bool ((rd_T36 x33_3 x34_3).f0)) := hcc98 0 _ rfl
                              have hx98_1 : wr.cell? ⟨go98, (x34_3 : Int).toNat * 5 + 1, none⟩ = some (.int .i64 ((rd_T36 x33_3 x34_3).f1)) := hcc98 1 _ rfl
                              have hx98_2 : wr.cell? ⟨go98, (x34_3 : Int).toNat * 5 + 2, none⟩ = some (.int .i64 ((rd_T36 x33_3 x34_3).f2)) := hcc98 2 _ rfl
                              have hx98_3 : wr.cell? ⟨go98, (x34_3 : Int).toNat * 5 + 3, none⟩ = some (.int .i64 ((rd_T36 x33_3 x34_3).f3)) := hcc98 3 _ rfl
                              have hx98_4 : wr.cell? ⟨go98, (x34_3 : Int).toNat * 5 + 4, none⟩ = some (.int .i64 ((rd_T36 x33_3 x34_3).f4)) := hcc98 4 _ rfl
                              have hf98_0 : wr.frozen? ⟨go98, (x34_3 : Int).toNat * 5, none⟩ = false := hfr98 0
                              have hf98_1 : wr.frozen? ⟨go98, (x34_3 : Int).toNat * 5 + 1, none⟩ = false := hfr98 1
                              have hf98_2 : wr.frozen? ⟨go98, (x34_3 : Int).toNat * 5 + 2, none⟩ = false := hfr98 2
                              have hf98_3 : wr.frozen? ⟨go98, (x34_3 : Int).toNat * 5 + 3, none⟩ = false := hfr98 3
                              have hf98_4 : wr.frozen? ⟨go98, (x34_3 : Int).toNat * 5 + 4, none⟩ = false := hfr98 4
                              clear hcl98 hcc98 hfr98 hM98
                              replace p98 := eq_true p98
                              replace q98 := eq_true q98
                              have HX99 := Aside0.mk (show Kd.R k36 36 wr w.heap.size (fun _ => True) (.slice (some ⟨go98, 0, none⟩) x33_3.length co98) x33_3 from (by (with_reducible repeat (first | apply Kd.R_alloc | apply Kd.R_drewN | apply Kd.R_drew)); exact HO_33.out))
                              obtain ⟨ce99, hcl99, hM99, hcc99, hfr99⟩ := Kd.R_elem HX99.out z36 (x34_3 : Int) (of_decide_eq_true (by first | (with_reducible assumption) | assumption)) (by have h_ : (x34_3 : Int) < ((x33_3.length : Int) : Int) := of_decide_eq_true (by first | (with_reducible assumption) | assumption); first | exact h_ | (have e_ := (Kd.R_reads' HO_33.out).1; omega) | simpa using h_)
                              obtain rfl := k36_openM hM99
                              have HP99 := Kd.R_seg HX99.out (x34_3 : Int) (of_decide_eq_true (by first | (with_reducible assumption) | assumption)) (by have h_ : (x34_3 : Int) < ((x33_3.length : Int) : Int) := of_decide_eq_true (by first | (with_reducible assumption) | assumption); first | exact h_ | (have e_ := (Kd.R_reads' HO_33.out).1; omega) | simpa using h_) (seg := [.bool true, .int .i64 254, .int .i64 508, .int .i64 10000, .int .i64 60000]) (j := 0) hcl99 hcc99 (show 5 ≤ 5 from by decide) (x' := (⟨true, 254, 508, 10000, 60000⟩ : S36)) (k36_mkM _ _ _ (⟨true, 254, 508, 10000, 60000⟩ : S36) ) (fun _ hk => hk)
                              have hx99_0 := hcc99 0 _ rfl
                              (try simp only [show (k36).sz = 5 from rfl, Nat.mul_one, Nat.add_zero] at hx99_0)
                              have hf99_0 := hfr99 0
                              (try simp only [show (k36).sz = 5 from rfl, Nat.mul_one, Nat.add_zero] at hf99_0)
                              have hx99_1 := hcc99 1 _ rfl
                              (try simp only [show (k36).sz = 5 from rfl, Nat.mul_one, Nat.add_zero] at hx99_1)
                              have hf99_1 := hfr99 1
                              (try simp only [show (k36).sz = 5 from rfl, Nat.mul_one, Nat.add_zero] at hf99_1)
                              have hx99_2 := hcc99 2 _ rfl
                              (try simp only [show (k36).sz = 5 from rfl, Nat.mul_one, Nat.add_zero] at hx99_2)
                              have hf99_2 := hfr99 2
                              (try simp only [show (k36).sz = 5 from rfl, Nat.mul_one, Nat.add_zero] at hf99_2)
                              have hx99_3 := hcc99 3 _ rfl
                              (try simp only [show (k36).sz = 5 from rfl, Nat.mul_one, Nat.add_zero] at hx99_3)
                              have hf99_3 := hfr99 3
                              (try simp only [show (k36).sz = 5 from rfl, Nat.mul_one, Nat.add_zero] at hf99_3)
                              have hx99_4 := hcc99 4 _ rfl
                              (try simp only [show (k36).sz = 5 from rfl, Nat.mul_one, Nat.add_zero] at hx99_4)
                              have hf99_4 := hfr99 4
                              (try simp only [show (k36).sz = 5 from rfl, Nat.mul_one, Nat.add_zero] at hf99_4)
                              clear hcl99 hcc99 hfr99 hM99
                              go_wp2_with (first | ((with_reducible refine gate_store (t := 36) (p := 167) rfl ?_); refine store_event (t := 36) (p := 167) (v := ?vo_w100) (w1 := (((((wr.setCell ⟨go98, (x34_3 : Int).toNat * 5, none⟩ (.bool true)).setCell ⟨go98, (x34_3 : Int).toNat * 5 + 1, none⟩ (.int .i64 254)).setCell ⟨go98, (x34_3 : Int).toNat * 5 + 2, none⟩ (.int .i64 508)).setCell ⟨go98, (x34_3 : Int).toNat * 5 + 3, none⟩ (.int .i64 10000)).setCell ⟨go98, (x34_3 : Int).toNat * 5 + 4, none⟩ (.int .i64 60000))) ?hg ?ho ?hn ?hr ?_; (case ho => rfl); (case hg => rfl); (case hn => rfl); (case hr => first | (go_simp; done) | (go_simp; rfl)); intro w100 hw; have hg : wr.grownBy w100 (some go98) := (by rw [hw]; exact HP99.2); have hp_ : Kd.R k36 36 w100 w.heap.size (fun _ => True) (.slice (some ⟨go98, 0, none⟩) x33_3.length co98) y242 := (by rw [hw, Ny242.out]; exact HP99.1); clear HP99; have n0_ := Aside0.mk (hp_); have n1_ := Aside0.mk ((by rw [hw]; exact below_set (below_set (below_set (below_set (below_set (HB.out) GB98.out) GB98.out) GB98.out) GB98.out) GB98.out : Below w.heap.size w w100)); clear HO_33; clear HB; have HO_33 := n0_; have HB := n1_; clear n0_ n1_; clear hg hw hp_))
                              go_roundg k3
                              case measure => have := HK1.out; have := HK2.out; have := HK3.out; omega
                              case rel => exact ⟨(y242), (wrap64 (x34_3 + 1)), (by first | rfl | (simp; done) | (simp [*]; done)), H', ⟨by have := HK1.out; have := HK2.out; have := HK3.out; omega⟩, ⟨by (with_reducible repeat (first | apply Kd.R_alloc | apply Kd.R_drewN | apply Kd.R_drew)); exact HO_33.out⟩, ⟨by repeat (first | (with_reducible first | exact HB.out | apply below_alloc | apply pw_below_drewN | apply below_drew1) | exact HB.out)⟩⟩
                            · rw [if_neg c97] at H
                              exact absurd H (by simp)
                          · rw [if_neg c96] at H
                            exact absurd H (by simp)
                        · rw [if_neg c95] at H
                          have c95b0 : decide (x34_3 < 32) = false := decide_eq_false c95
                          clear c95
                          replace H := Option.bind_eq_some_iff.mp H
                          obtain ⟨⟨t243, t244⟩, A1010, H⟩ := H
                          replace H : ((acl_Text.f ([] : List (S36))).bind fun bt245 => (if t186 = 0 then (if t191 = 5 then (if t196 = 210 then (if t201 = 0 then (if t206 = 5 then (if t213 = 0 then (if t212.toList = ([97, 108, 108, 111, 119, 32, 49, 44, 50, 32, 62, 32, 51, 32, 56, 48, 45, 57, 48, 10, 100, 101, 110, 121, 32, 42, 32, 62, 32, 42, 32, 42, 10, 100, 101, 110, 121, 32, 50, 32, 62, 32, 56, 32, 55, 10] : List UInt8) then (if t218 = 5 then (if t223 = 2 then (if t228 = 2 then (if t233 = 2 then (if t238 = 2 then (if t244 = 5 then (if bt245.2 = 0 then (causewaylaw20_AclKnown.j3 k3 (bt245.1.toList == ([] : List UInt8))) else (causewaylaw20_AclKnown.j3 k3 false)) else (causewaylaw20_AclKnown.j3 k3 false)) else (causewaylaw20_AclKnown.j3 k3 false)) else (causewaylaw20_AclKnown.j3 k3 false)) else (causewaylaw20_AclKnown.j3 k3 false)) else (causewaylaw20_AclKnown.j3 k3 false)) else (causewaylaw20_AclKnown.j3 k3 false)) else (causewaylaw20_AclKnown.j3 k3 false)) else (causewaylaw20_AclKnown.j3 k3 false)) else (causewaylaw20_AclKnown.j3 k3 false)) else (causewaylaw20_AclKnown.j3 k3 false)) else (causewaylaw20_AclKnown.j3 k3 false)) else (causewaylaw20_AclKnown.j3 k3 false)) else (causewaylaw20_AclKnown.j3 k3 false))) = some r := H
                          have A101 := Aside0.mk A1010
                          clear A1010
                          replace H := Option.bind_eq_some_iff.mp H
                          obtain ⟨⟨t245, t246⟩, A1020, H⟩ := H
                          replace H : (if t186 = 0 then (if t191 = 5 then (if t196 = 210 then (if t201 = 0 then (if t206 = 5 then (if t213 = 0 then (if t212.toList = ([97, 108, 108, 111, 119, 32, 49, 44, 50, 32, 62, 32, 51, 32, 56, 48, 45, 57, 48, 10, 100, 101, 110, 121, 32, 42, 32, 62, 32, 42, 32, 42, 10, 100, 101, 110, 121, 32, 50, 32, 62, 32, 56, 32, 55, 10] : List UInt8) then (if t218 = 5 then (if t223 = 2 then (if t228 = 2 then (if t233 = 2 then (if t238 = 2 then (if t244 = 5 then (if t246 = 0 then (causewaylaw20_AclKnown.j3 k3 (t245.toList == ([] : List UInt8))) else (causewaylaw20_AclKnown.j3 k3 false)) else (causewaylaw20_AclKnown.j3 k3 false)) else (causewaylaw20_AclKnown.j3 k3 false)) else (causewaylaw20_AclKnown.j3 k3 false)) else (causewaylaw20_AclKnown.j3 k3 false)) else (causewaylaw20_AclKnown.j3 k3 false)) else (causewaylaw20_AclKnown.j3 k3 false)) else (causewaylaw20_AclKnown.j3 k3 false)) else (causewaylaw20_AclKnown.j3 k3 false)) else (causewaylaw20_AclKnown.j3 k3 false)) else (causewaylaw20_AclKnown.j3 k3 false)) else (causewaylaw20_AclKnown.j3 k3 false)) else (causewaylaw20_AclKnown.j3 k3 false)) else (causewaylaw20_AclKnown.j3 k3 false)) = some r := H
                          have A102 := Aside0.mk A1020
                          clear A1020
                          have HC103 := Aside0.mk H
                          clear H
                          obtain ⟨Ao104, co104, eo104⟩ := Kd.R_slice HO_33.out
                          subst eo104
                          go_upto_region 35 with (first | ((with_reducible refine gate_callee (f := 12) rfl ?_); refine goesL_ (some 170) rfl rfl Tryz.func12 (by kernel_rfl) rfl #[.slice Ao104 x33_3.length co104] rfl (by (try simp only [List.map_toArray, List.map_cons, List.map_nil]); first | done | rfl | (simp only [List.length_drop, List.length_take]; rfl)) ?_; (with_reducible refine (acl_Text.calls _ _ x33_3 t243 t244 _ ?side1 ?side2 ?side3 A101.out).mono ?_); (case side1 => repeat (first | exact (Kd.R_reads' HO_33.out).2.2 | (with_reducible refine Kd.C_alloc ?_ _) | (with_reducible refine Kd.C_drewN ?_ _) | (with_reducible refine Kd.C_drew ?_))); (case side2 => exact (Kd.R_reads' HO_33.out).2.1); (case side3 => exact LaidW.below HX.out (by repeat (first | (with_reducible first | exact HB.out | apply below_alloc | apply pw_below_drewN | apply below_drew1) | exact HB.out))); rintro e w105 ⟨rfl, hb⟩; refine ⟨_, rfl, ?_⟩; have n1_ := Aside0.mk (below_step (by repeat (first | (with_reducible first | exact HB.out | apply below_alloc | apply pw_below_drewN | apply below_drew1) | exact HB.out)) hb); clear HB; have HB := n1_; clear n1_; (try clear hb); (try clear hb2); (try clear hk); (try clear hi)) | ((with_reducible refine gate_callee (f := 12) rfl ?_); refine goesL_ (some 174) rfl rfl Tryz.func12 (by kernel_rfl) rfl #[.slice none 0 0] rfl (by (try simp only [List.map_toArray, List.map_cons, List.map_nil]); first | done | rfl | (simp only [List.length_drop, List.length_take]; rfl)) ?_; (refine (acl_Text.calls _ _ ([] : List (S36)) t245 t246 _ ?side1 ?side2 ?side3 A102.out).mono ?_); (case side1 => exact Kd.C_nil _ _); (case side2 => exact Nat.le_refl _); (case side3 => exact LaidW.below HX.out (by repeat (first | (with_reducible first | exact HB.out | apply below_alloc | apply pw_below_drewN | apply below_drew1) | exact HB.out))); rintro e w106 ⟨rfl, hb⟩; refine ⟨_, rfl, ?_⟩; have n1_ := Aside0.mk (below_step (by repeat (first | (with_reducible first | exact HB.out | apply below_alloc | apply pw_below_drewN | apply below_drew1) | exact HB.out)) hb); clear HB; have HB := n1_; clear n1_; (try clear hb); (try clear hb2); (try clear hk); (try clear hi)))
                          (try simp only [Act.put, List.setIfInBounds_toArray, List.set_cons_zero, List.set_cons_succ])
                          go_cut [39] (fun v39 wc => ∃ (kq : Nat) (x39_102 : Bool), v39 = .bool x39_102 ∧ Aside0 (causewaylaw20_AclKnown.j3 kq x39_102 = some r) ∧ Aside0 (kq ≤ k3) ∧ Aside0 (Below w.heap.size w wc))
                          case first =>
                            have H := HC103.out
                            clear HC103
                            by_cases c107 : t186 = 0
                            · rw [if_pos c107] at H
                              have c107b0 : (t186 == 0) = true := beq_iff_eq.mpr c107
                              have c107b1 : (t186 != 0) = false := bne_eq_false_iff_eq.mpr c107
                              clear c107
                              (first | rw [c107b0] | (simp only [i64_w, i32_w]; rw [c107b0]) | skip)
                              by_cases c108 : t191 = 5
                              · rw [if_pos c108] at H
                                have c108b0 : (t191 == 5) = true := beq_iff_eq.mpr c108
                                have c108b1 : (t191 != 5) = false := bne_eq_false_iff_eq.mpr c108
                                clear c108
                                by_cases c109 : t196 = 210
                                · rw [if_pos c109] at H
                                  have c109b0 : (t196 == 210) = true := beq_iff_eq.mpr c109
                                  have c109b1 : (t196 != 210) = false := bne_eq_false_iff_eq.mpr c109
                                  clear c109
                                  by_cases c110 : t201 = 0
                                  · rw [if_pos c110] at H
                                    have c110b0 : (t201 == 0) = true := beq_iff_eq.mpr c110
                                    have c110b1 : (t201 != 0) = false := bne_eq_false_iff_eq.mpr c110
                                    clear c110
                                    by_cases c111 : t206 = 5
                                    · rw [if_pos c111] at H
                                      have c111b0 : (t206 == 5) = true := beq_iff_eq.mpr c111
                                      have c111b1 : (t206 != 5) = false := bne_eq_false_iff_eq.mpr c111
                                      clear c111
                                      by_cases c112 : t213 = 0
                                      · rw [if_pos c112] at H
                                        have c112b0 : (t213 == 0) = true := beq_iff_eq.mpr c112
                                        have c112b1 : (t213 != 0) = false := bne_eq_false_iff_eq.mpr c112
                                        clear c112
                                        by_cases c113 : t212.toList = ([97, 108, 108, 111, 119, 32, 49, 44, 50, 32, 62, 32, 51, 32, 56, 48, 45, 57, 48, 10, 100, 101, 110, 121, 32, 42, 32, 62, 32, 42, 32, 42, 10, 100, 101, 110, 121, 32, 50, 32, 62, 32, 56, 32, 55, 10] : List UInt8)
                                        · rw [if_pos c113] at H
                                          have c113b0 : (t212.toList == ([97, 108, 108, 111, 119, 32, 49, 44, 50, 32, 62, 32, 51, 32, 56, 48, 45, 57, 48, 10, 100, 101, 110, 121, 32, 42, 32, 62, 32, 42, 32, 42, 10, 100, 101, 110, 121, 32, 50, 32, 62, 32, 56, 32, 55, 10] : List UInt8)) = true := beq_iff_eq.mpr c113
                                          have c113b1 : (t212.toList != ([97, 108, 108, 111, 119, 32, 49, 44, 50, 32, 62, 32, 51, 32, 56, 48, 45, 57, 48, 10, 100, 101, 110, 121, 32, 42, 32, 62, 32, 42, 32, 42, 10, 100, 101, 110, 121, 32, 50, 32, 62, 32, 56, 32, 55, 10] : List UInt8)) = false := bne_eq_false_iff_eq.mpr c113
                                          clear c113
                                          by_cases c114 : t218 = 5
                                          · rw [if_pos c114] at H
                                            have c114b0 : (t218 == 5) = true := beq_iff_eq.mpr c114
                                            have c114b1 : (t218 != 5) = false := bne_eq_false_iff_eq.mpr c114
                                            clear c114
                                            by_cases c115 : t223 = 2
                                            · rw [if_pos c115] at H
                                              have c115b0 : (t223 == 2) = true := beq_iff_eq.mpr c115
                                              have c115b1 : (t223 != 2) = false := bne_eq_false_iff_eq.mpr c115
                                              clear c115
                                              by_cases c116 : t228 = 2
                                              · rw [if_pos c116] at H
                                                have c116b0 : (t228 == 2) = true := beq_iff_eq.mpr c116
                                                have c116b1 : (t228 != 2) = false := bne_eq_false_iff_eq.mpr c116
                                                clear c116
                                                by_cases c117 : t233 = 2
                                                · rw [if_pos c117] at H
                                                  have c117b0 : (t233 == 2) = true := beq_iff_eq.mpr c117
                                                  have c117b1 : (t233 != 2) = false := bne_eq_false_iff_eq.mpr c117
                                                  clear c117
                                                  by_cases c118 : t238 = 2
                                                  · rw [if_pos c118] at H
                                                    have c118b0 : (t238 == 2) = true := beq_iff_eq.mpr c118
                                                    have c118b1 : (t238 != 2) = false := bne_eq_false_iff_eq.mpr c118
                                                    clear c118
                                                    by_cases c119 : t244 = 5
                                                    · rw [if_pos c119] at H
                                                      have c119b0 : (t244 == 5) = true := beq_iff_eq.mpr c119
                                                      have c119b1 : (t244 != 5) = false := bne_eq_false_iff_eq.mpr c119
                                                      clear c119
                                                      by_cases c120 : t246 = 0
                                                      · rw [if_pos c120] at H
                                                        have c120b0 : (t246 == 0) = true := beq_iff_eq.mpr c120
                                                        have c120b1 : (t246 != 0) = false := bne_eq_false_iff_eq.mpr c120
                                                        clear c120
                                                        have H' := Aside0.mk H
                                                        clear H
                                                        go_wp2
                                                        go_meet
                                                        case rel => exact ⟨_, ((t245.toList == ([] : List UInt8))), (by first | rfl | (simp; done) | (simp [*]; done)), H', ⟨by have := HK1.out; have := HK2.out; have := HK3.out; first | omega | exact Nat.le_refl _⟩, ⟨by repeat (first | (with_reducible first | exact HB.out | apply below_alloc | apply pw_below_drewN | apply below_drew1) | exact HB.out)⟩⟩
                                                      · rw [if_neg c120] at H
                                                        exact absurd ((causewaylaw20_AclKnown.j3_false _ _ H).symm.trans HRT.out) (by decide)
                                                    · rw [if_neg c119] at H
                                                      exact absurd ((causewaylaw20_AclKnown.j3_false _ _ H).symm.trans HRT.out) (by decide)
                                                  · rw [if_neg c118] at H
                                                    exact absurd ((causewaylaw20_AclKnown.j3_false _ _ H).symm.trans HRT.out) (by decide)
                                                · rw [if_neg c117] at H
                                                  exact absurd ((causewaylaw20_AclKnown.j3_false _ _ H).symm.trans HRT.out) (by decide)
                                              · rw [if_neg c116] at H
                                                exact absurd ((causewaylaw20_AclKnown.j3_false _ _ H).symm.trans HRT.out) (by decide)
                                            · rw [if_neg c115] at H
                                              exact absurd ((causewaylaw20_AclKnown.j3_false _ _ H).symm.trans HRT.out) (by decide)
                                          · rw [if_neg c114] at H
                                            exact absurd ((causewaylaw20_AclKnown.j3_false _ _ H).symm.trans HRT.out) (by decide)
                                        · rw [if_neg c113] at H
                                          exact absurd ((causewaylaw20_AclKnown.j3_false _ _ H).symm.trans HRT.out) (by decide)
                                      · rw [if_neg c112] at H
                                        exact absurd ((causewaylaw20_AclKnown.j3_false _ _ H).symm.trans HRT.out) (by decide)
                                    · rw [if_neg c111] at H
                                      exact absurd ((causewaylaw20_AclKnown.j3_false _ _ H).symm.trans HRT.out) (by decide)
                                  · rw [if_neg c110] at H
                                    exact absurd ((causewaylaw20_AclKnown.j3_false _ _ H).symm.trans HRT.out) (by decide)
                                · rw [if_neg c109] at H
                                  exact absurd ((causewaylaw20_AclKnown.j3_false _ _ H).symm.trans HRT.out) (by decide)
                              · rw [if_neg c108] at H
                                exact absurd ((causewaylaw20_AclKnown.j3_false _ _ H).symm.trans HRT.out) (by decide)
                            · rw [if_neg c107] at H
                              exact absurd ((causewaylaw20_AclKnown.j3_false _ _ H).symm.trans HRT.out) (by decide)
                          case rest =>
                            clear HC103
                            try clear c1
                            try clear p1
                            try clear q1
                            try clear hx1
                            try clear c2
                            try clear p2
                            try clear c3
                            try clear c4
                            try clear c5
                            try clear c5b0
                            try clear c6
                            try clear c6b0
                            try clear p6
                            try clear c7
                            try clear c8
                            try clear c8b0
                            try clear c8b1
                            try clear c9
                            try clear c9b0
                            try clear p9
                            try clear q9
                            try clear hx9
                            try clear hf9
                            try clear c10
                            try clear c10b0
                            try clear c10b1
                            try clear c11
                            try clear c12
                            try clear c14
                            try clear p17
                            try clear q17
                            try clear hx17
                            try clear c24
                            try clear c24b0
                            try clear c25
                            try clear c25b0
                            try clear c26
                            try clear c26b0
                            try clear c26b1
                            try clear c26b2
                            try clear c27
                            try clear c27b0
                            try clear c27b1
                            try clear c27b2
                            try clear c29
                            try clear c29b0
                            try clear c29b1
                            try clear c30
                            try clear c30b0
                            try clear c30b1
                            try clear c30b2
                            try clear c44
                            try clear c44b0
                            try clear c44b1
                            try clear c44b2
                            try clear c51
                            try clear c51b0
                            try clear c51b1
                            try clear c57
                            try clear c57b0
                            try clear c57b1
                            try clear p64
                            try clear c95
                            try clear c95b0
                            try clear c96
                            try clear c96b0
                            try clear c97
                            try clear c97b0
                            try clear c98
                            try clear p98
                            try clear q98
                            try clear hx98
                            try clear hf98
                            try clear c99
                            try clear hx99
                            try clear hf99
                            try clear c107
                            try clear c107b0
                            try clear c107b1
                            try clear c108
                            try clear c108b0
                            try clear c108b1
                            try clear c109
                            try clear c109b0
                            try clear c109b1
                            try clear c110
                            try clear c110b0
                            try clear c110b1
                            try clear c111
                            try clear c111b0
                            try clear c111b1
                            try clear c112
                            try clear c112b0
                            try clear c112b1
                            try clear c113
                            try clear c113b0
                            try clear c113b1
                            try clear c114
                            try clear c114b0
                            try clear c114b1
                            try clear c115
                            try clear c115b0
                            try clear c115b1
                            try clear c116
                            try clear c116b0
                            try clear c116b1
                            try clear c117
                            try clear c117b0
                            try clear c117b1
                            try clear c118
                            try clear c118b0
                            try clear c118b1
                            try clear c119
                            try clear c119b0
                            try clear c119b1
                            try clear c120
                            try clear c120b0
                            try clear c120b1
                            try clear hx170_0
                            try clear hx175_0
                            try clear hx179_0
                            try clear hx98_0
                            try clear hx98_1
                            try clear hx98_2
                            try clear hx98_3
                            try clear hx98_4
                            try clear hx99_0
                            try clear hx99_1
                            try clear hx99_2
                            try clear hx99_3
                            try clear hx99_4
                            try clear p1
                            try clear p17
                            try clear p170
                            try clear p175
                            try clear p179
                            try clear p2
                            try clear p6
                            try clear p64
                            try clear p98
                            try clear q1
                            try clear q17
                            try clear q170
                            try clear q175
                            try clear q179
                            try clear q98
                            obtain ⟨kq, x39_102, rfl, HA, HJ102, HB⟩ := hcut
                            cases kq with
                            | zero => exact absurd HA.out (by simp [causewaylaw20_AclKnown.j3])
                            | succ kj102 =>
                              have H := HA.out
                              clear HA
                              simp only [causewaylaw20_AclKnown.j3] at H
                              replace H := Option.bind_eq_some_iff.mp H
                              obtain ⟨t247, A1210, H⟩ := H
                              replace H : ((acl_Spans.f kj102 t247 1 2).bind fun t250 => ((causewayref20_SameSpans.f kj102 t250 (([(⟨0, 99⟩ : S42), (⟨201, 65535⟩ : S42)] : List (S42)))).bind fun t256 => (if t256 = true then ((acl_Spans.f kj102 t247 2 1).bind fun t257 => (if (t257.length : Int) = 0 then ((acl_Spans.f kj102 t247 0 2).bind fun t260 => (if (t260.length : Int) = 0 then ((acl_Spans.f kj102 t247 1 9).bind fun t263 => (if (t263.length : Int) = 0 then ((acl_Allows.f kj102 t247 1 2 (-1)).bind fun t266 => (if t266 = true then ((causewaylaw20_works.f kj102).bind fun t267 => (if t267 = true then (if x39_102 = true then (some false) else (some false)) else (some false))) else ((acl_Allows.f kj102 t247 1 2 65536).bind fun t268 => (if t268 = true then ((causewaylaw20_works.f kj102).bind fun t269 => (if t269 = true then (if x39_102 = true then (some false) else (some false)) else (some false))) else ((acl_Allows.f kj102 t247 1 2 0).bind fun t270 => (if t270 = true then ((acl_Allows.f kj102 t247 1 2 65535).bind fun t271 => (if t271 = true then ((causewaylaw20_rules.f (⟨#[97, 108, 108, 111, 119, 32, 49, 32, 62, 32, 49, 32, 53, 47, 97, 108, 108, 111, 119, 32, 49, 32, 62, 32, 49, 32, 54, 45, 55, 47, 97, 108, 108, 111, 119, 32, 49, 32, 62, 32, 49, 32, 57]⟩ : ByteArray)).bind fun t272 => ((acl_Spans.f kj102 t272 1 1).bind fun t275 => ((causewayref20_SameSpans.f kj102 t275 (([(⟨5, 7⟩ : S42), (⟨9, 9⟩ : S42)] : List (S42)))).bind fun t281 => ((causewaylaw20_works.f kj102).bind fun t282 => (if t282 = true then (if x39_102 = true then (some t281) else (some false)) else (some false)))))) else ((causewaylaw20_works.f kj102).bind fun t283 => (if t283 = true then (if x39_102 = true then (some false) else (some false)) else (some false))))) else ((causewaylaw20_works.f kj102).bind fun t284 => (if t284 = true then (if x39_102 = true then (some false) else (some false)) else (some false))))))))) else ((causewaylaw20_works.f kj102).bind fun t285 => (if t285 = true then (if x39_102 = true then (some false) else (some false)) else (some false))))) else ((causewaylaw20_works.f kj102).bind fun t286 => (if t286 = true then (if x39_102 = true then (some false) else (some false)) else (some false))))) else ((causewaylaw20_works.f kj102).bind fun t287 => (if t287 = true then (if x39_102 = true then (some false) else (some false)) else (some false))))) else ((causewaylaw20_works.f kj102).bind fun t288 => (if t288 = true then (if x39_102 = true then (some false) else (some false)) else (some false)))))) = some r := H
                              have A121 := Aside0.mk A1210
                              clear A1210
                              replace H := Option.bind_eq_some_iff.mp H
                              obtain ⟨t250, A1220, H⟩ := H
                              replace H : ((causewayref20_SameSpans.f kj102 t250 (([(⟨0, 99⟩ : S42), (⟨201, 65535⟩ : S42)] : List (S42)))).bind fun t256 => (if t256 = true then ((acl_Spans.f kj102 t247 2 1).bind fun t257 => (if (t257.length : Int) = 0 then ((acl_Spans.f kj102 t247 0 2).bind fun t260 => (if (t260.length : Int) = 0 then ((acl_Spans.f kj102 t247 1 9).bind fun t263 => (if (t263.length : Int) = 0 then ((acl_Allows.f kj102 t247 1 2 (-1)).bind fun t266 => (if t266 = true then ((causewaylaw20_works.f kj102).bind fun t267 => (if t267 = true then (if x39_102 = true then (some false) else (some false)) else (some false))) else ((acl_Allows.f kj102 t247 1 2 65536).bind fun t268 => (if t268 = true then ((causewaylaw20_works.f kj102).bind fun t269 => (if t269 = true then (if x39_102 = true then (some false) else (some false)) else (some false))) else ((acl_Allows.f kj102 t247 1 2 0).bind fun t270 => (if t270 = true then ((acl_Allows.f kj102 t247 1 2 65535).bind fun t271 => (if t271 = true then ((causewaylaw20_rules.f (⟨#[97, 108, 108, 111, 119, 32, 49, 32, 62, 32, 49, 32, 53, 47, 97, 108, 108, 111, 119, 32, 49, 32, 62, 32, 49, 32, 54, 45, 55, 47, 97, 108, 108, 111, 119, 32, 49, 32, 62, 32, 49, 32, 57]⟩ : ByteArray)).bind fun t272 => ((acl_Spans.f kj102 t272 1 1).bind fun t275 => ((causewayref20_SameSpans.f kj102 t275 (([(⟨5, 7⟩ : S42), (⟨9, 9⟩ : S42)] : List (S42)))).bind fun t281 => ((causewaylaw20_works.f kj102).bind fun t282 => (if t282 = true then (if x39_102 = true then (some t281) else (some false)) else (some false)))))) else ((causewaylaw20_works.f kj102).bind fun t283 => (if t283 = true then (if x39_102 = true then (some false) else (some false)) else (some false))))) else ((causewaylaw20_works.f kj102).bind fun t284 => (if t284 = true then (if x39_102 = true then (some false) else (some false)) else (some false))))))))) else ((causewaylaw20_works.f kj102).bind fun t285 => (if t285 = true then (if x39_102 = true then (some false) else (some false)) else (some false))))) else ((causewaylaw20_works.f kj102).bind fun t286 => (if t286 = true then (if x39_102 = true then (some false) else (some false)) else (some false))))) else ((causewaylaw20_works.f kj102).bind fun t287 => (if t287 = true then (if x39_102 = true then (some false) else (some false)) else (some false))))) else ((causewaylaw20_works.f kj102).bind fun t288 => (if t288 = true then (if x39_102 = true then (some false) else (some false)) else (some false))))) = some r := H
                              have A122 := Aside0.mk A1220
                              clear A1220
                              obtain ⟨y253, hy253⟩ : ∃ y_ : List (S42), y_ = (([(⟨0, 99⟩ : S42), (⟨201, 65535⟩ : S42)] : List (S42))) := ⟨_, rfl⟩
                              replace H : ((causewayref20_SameSpans.f kj102 t250 y253).bind fun t256 => (if t256 = true then ((acl_Spans.f kj102 t247 2 1).bind fun t257 => (if (t257.length : Int) = 0 then ((acl_Spans.f kj102 t247 0 2).bind fun t260 => (if (t260.length : Int) = 0 then ((acl_Spans.f kj102 t247 1 9).bind fun t263 => (if (t263.length : Int) = 0 then ((acl_Allows.f kj102 t247 1 2 (-1)).bind fun t266 => (if t266 = true then ((causewaylaw20_works.f kj102).bind fun t267 => (if t267 = true then (if x39_102 = true then (some false) else (some false)) else (some false))) else ((acl_Allows.f kj102 t247 1 2 65536).bind fun t268 => (if t268 = true then ((causewaylaw20_works.f kj102).bind fun t269 => (if t269 = true then (if x39_102 = true then (some false) else (some false)) else (some false))) else ((acl_Allows.f kj102 t247 1 2 0).bind fun t270 => (if t270 = true then ((acl_Allows.f kj102 t247 1 2 65535).bind fun t271 => (if t271 = true then ((causewaylaw20_rules.f (⟨#[97, 108, 108, 111, 119, 32, 49, 32, 62, 32, 49, 32, 53, 47, 97, 108, 108, 111, 119, 32, 49, 32, 62, 32, 49, 32, 54, 45, 55, 47, 97, 108, 108, 111, 119, 32, 49, 32, 62, 32, 49, 32, 57]⟩ : ByteArray)).bind fun t272 => ((acl_Spans.f kj102 t272 1 1).bind fun t275 => ((causewayref20_SameSpans.f kj102 t275 (([(⟨5, 7⟩ : S42), (⟨9, 9⟩ : S42)] : List (S42)))).bind fun t281 => ((causewaylaw20_works.f kj102).bind fun t282 => (if t282 = true then (if x39_102 = true then (some t281) else (some false)) else (some false)))))) else ((causewaylaw20_works.f kj102).bind fun t283 => (if t283 = true then (if x39_102 = true then (some false) else (some false)) else (some false))))) else ((causewaylaw20_works.f kj102).bind fun t284 => (if t284 = true then (if x39_102 = true then (some false) else (some false)) else (some false))))))))) else ((causewaylaw20_works.f kj102).bind fun t285 => (if t285 = true then (if x39_102 = true then (some false) else (some false)) else (some false))))) else ((causewaylaw20_works.f kj102).bind fun t286 => (if t286 = true then (if x39_102 = true then (some false) else (some false)) else (some false))))) else ((causewaylaw20_works.f kj102).bind fun t287 => (if t287 = true then (if x39_102 = true then (some false) else (some false)) else (some false))))) else ((causewaylaw20_works.f kj102).bind fun t288 => (if t288 = true then (if x39_102 = true then (some false) else (some false)) else (some false))))) = some r := by first | (rw [hy253]; with_reducible exact H) | (have H2_ := (Option.bind_some _ _).symm.trans H; rw [hy253]; with_reducible exact H2_) | (have H2_ := (Option.bind_some _ _).symm.trans H; with_reducible exact H2_) | with_reducible exact H | (rw [hy253]; exact H) | exact H
                              have Ny253 := Aside0.mk hy253
                              clear hy253
                              replace H := Option.bind_eq_some_iff.mp H
                              obtain ⟨t256, A1230, H⟩ := H
                              replace H : (if t256 = true then ((acl_Spans.f kj102 t247 2 1).bind fun t257 => (if (t257.length : Int) = 0 then ((acl_Spans.f kj102 t247 0 2).bind fun t260 => (if (t260.length : Int) = 0 then ((acl_Spans.f kj102 t247 1 9).bind fun t263 => (if (t263.length : Int) = 0 then ((acl_Allows.f kj102 t247 1 2 (-1)).bind fun t266 => (if t266 = true then ((causewaylaw20_works.f kj102).bind fun t267 => (if t267 = true then (if x39_102 = true then (some false) else (some false)) else (some false))) else ((acl_Allows.f kj102 t247 1 2 65536).bind fun t268 => (if t268 = true then ((causewaylaw20_works.f kj102).bind fun t269 => (if t269 = true then (if x39_102 = true then (some false) else (some false)) else (some false))) else ((acl_Allows.f kj102 t247 1 2 0).bind fun t270 => (if t270 = true then ((acl_Allows.f kj102 t247 1 2 65535).bind fun t271 => (if t271 = true then ((causewaylaw20_rules.f (⟨#[97, 108, 108, 111, 119, 32, 49, 32, 62, 32, 49, 32, 53, 47, 97, 108, 108, 111, 119, 32, 49, 32, 62, 32, 49, 32, 54, 45, 55, 47, 97, 108, 108, 111, 119, 32, 49, 32, 62, 32, 49, 32, 57]⟩ : ByteArray)).bind fun t272 => ((acl_Spans.f kj102 t272 1 1).bind fun t275 => ((causewayref20_SameSpans.f kj102 t275 (([(⟨5, 7⟩ : S42), (⟨9, 9⟩ : S42)] : List (S42)))).bind fun t281 => ((causewaylaw20_works.f kj102).bind fun t282 => (if t282 = true then (if x39_102 = true then (some t281) else (some false)) else (some false)))))) else ((causewaylaw20_works.f kj102).bind fun t283 => (if t283 = true then (if x39_102 = true then (some false) else (some false)) else (some false))))) else ((causewaylaw20_works.f kj102).bind fun t284 => (if t284 = true then (if x39_102 = true then (some false) else (some false)) else (some false))))))))) else ((causewaylaw20_works.f kj102).bind fun t285 => (if t285 = true then (if x39_102 = true then (some false) else (some false)) else (some false))))) else ((causewaylaw20_works.f kj102).bind fun t286 => (if t286 = true then (if x39_102 = true then (some false) else (some false)) else (some false))))) else ((causewaylaw20_works.f kj102).bind fun t287 => (if t287 = true then (if x39_102 = true then (some false) else (some false)) else (some false))))) else ((causewaylaw20_works.f kj102).bind fun t288 => (if t288 = true then (if x39_102 = true then (some false) else (some false)) else (some false)))) = some r := H
                              have A123 := Aside0.mk A1230
                              clear A1230
                              by_cases c124 : t256 = true
                              · subst c124
                                have H1 : ((acl_Spans.f kj102 t247 2 1).bind fun t257 => (if (t257.length : Int) = 0 then ((acl_Spans.f kj102 t247 0 2).bind fun t260 => (if (t260.length : Int) = 0 then ((acl_Spans.f kj102 t247 1 9).bind fun t263 => (if (t263.length : Int) = 0 then ((acl_Allows.f kj102 t247 1 2 (-1)).bind fun t266 => (if t266 = true then ((causewaylaw20_works.f kj102).bind fun t267 => (if t267 = true then (if x39_102 = true then (some false) else (some false)) else (some false))) else ((acl_Allows.f kj102 t247 1 2 65536).bind fun t268 => (if t268 = true then ((causewaylaw20_works.f kj102).bind fun t269 => (if t269 = true then (if x39_102 = true then (some false) else (some false)) else (some false))) else ((acl_Allows.f kj102 t247 1 2 0).bind fun t270 => (if t270 = true then ((acl_Allows.f kj102 t247 1 2 65535).bind fun t271 => (if t271 = true then ((causewaylaw20_rules.f (⟨#[97, 108, 108, 111, 119, 32, 49, 32, 62, 32, 49, 32, 53, 47, 97, 108, 108, 111, 119, 32, 49, 32, 62, 32, 49, 32, 54, 45, 55, 47, 97, 108, 108, 111, 119, 32, 49, 32, 62, 32, 49, 32, 57]⟩ : ByteArray)).bind fun t272 => ((acl_Spans.f kj102 t272 1 1).bind fun t275 => ((causewayref20_SameSpans.f kj102 t275 (([(⟨5, 7⟩ : S42), (⟨9, 9⟩ : S42)] : List (S42)))).bind fun t281 => ((causewaylaw20_works.f kj102).bind fun t282 => (if t282 = true then (if x39_102 = true then (some t281) else (some false)) else (some false)))))) else ((causewaylaw20_works.f kj102).bind fun t283 => (if t283 = true then (if x39_102 = true then (some false) else (some false)) else (some false))))) else ((causewaylaw20_works.f kj102).bind fun t284 => (if t284 = true then (if x39_102 = true then (some false) else (some false)) else (some false))))))))) else ((causewaylaw20_works.f kj102).bind fun t285 => (if t285 = true then (if x39_102 = true then (some false) else (some false)) else (some false))))) else ((causewaylaw20_works.f kj102).bind fun t286 => (if t286 = true then (if x39_102 = true then (some false) else (some false)) else (some false))))) else ((causewaylaw20_works.f kj102).bind fun t287 => (if t287 = true then (if x39_102 = true then (some false) else (some false)) else (some false))))) = some r := by rw [if_pos rfl] at H; exact H
                                clear H
                                have H := H1
                                clear H1
                                replace H := Option.bind_eq_some_iff.mp H
                                obtain ⟨t257, A1250, H⟩ := H
                                replace H : (if (t257.length : Int) = 0 then ((acl_Spans.f kj102 t247 0 2).bind fun t260 => (if (t260.length : Int) = 0 then ((acl_Spans.f kj102 t247 1 9).bind fun t263 => (if (t263.length : Int) = 0 then ((acl_Allows.f kj102 t247 1 2 (-1)).bind fun t266 => (if t266 = true then ((causewaylaw20_works.f kj102).bind fun t267 => (if t267 = true then (if x39_102 = true then (some false) else (some false)) else (some false))) else ((acl_Allows.f kj102 t247 1 2 65536).bind fun t268 => (if t268 = true then ((causewaylaw20_works.f kj102).bind fun t269 => (if t269 = true then (if x39_102 = true then (some false) else (some false)) else (some false))) else ((acl_Allows.f kj102 t247 1 2 0).bind fun t270 => (if t270 = true then ((acl_Allows.f kj102 t247 1 2 65535).bind fun t271 => (if t271 = true then ((causewaylaw20_rules.f (⟨#[97, 108, 108, 111, 119, 32, 49, 32, 62, 32, 49, 32, 53, 47, 97, 108, 108, 111, 119, 32, 49, 32, 62, 32, 49, 32, 54, 45, 55, 47, 97, 108, 108, 111, 119, 32, 49, 32, 62, 32, 49, 32, 57]⟩ : ByteArray)).bind fun t272 => ((acl_Spans.f kj102 t272 1 1).bind fun t275 => ((causewayref20_SameSpans.f kj102 t275 (([(⟨5, 7⟩ : S42), (⟨9, 9⟩ : S42)] : List (S42)))).bind fun t281 => ((causewaylaw20_works.f kj102).bind fun t282 => (if t282 = true then (if x39_102 = true then (some t281) else (some false)) else (some false)))))) else ((causewaylaw20_works.f kj102).bind fun t283 => (if t283 = true then (if x39_102 = true then (some false) else (some false)) else (some false))))) else ((causewaylaw20_works.f kj102).bind fun t284 => (if t284 = true then (if x39_102 = true then (some false) else (some false)) else (some false))))))))) else ((causewaylaw20_works.f kj102).bind fun t285 => (if t285 = true then (if x39_102 = true then (some false) else (some false)) else (some false))))) else ((causewaylaw20_works.f kj102).bind fun t286 => (if t286 = true then (if x39_102 = true then (some false) else (some false)) else (some false))))) else ((causewaylaw20_works.f kj102).bind fun t287 => (if t287 = true then (if x39_102 = true then (some false) else (some false)) else (some false)))) = some r := H
                                have A125 := Aside0.mk A1250
                                clear A1250
                                by_cases c126 : (t257.length : Int) = 0
                                · rw [if_pos c126] at H
                                  have c126b0 : ((t257.length : Int) == 0) = true := beq_iff_eq.mpr c126
                                  have c126b1 : ((t257.length : Int) != 0) = false := bne_eq_false_iff_eq.mpr c126
                                  clear c126
                                  replace H := Option.bind_eq_some_iff.mp H
                                  obtain ⟨t260, A1270, H⟩ := H
                                  replace H : (if (t260.length : Int) = 0 then ((acl_Spans.f kj102 t247 1 9).bind fun t263 => (if (t263.length : Int) = 0 then ((acl_Allows.f kj102 t247 1 2 (-1)).bind fun t266 => (if t266 = true then ((causewaylaw20_works.f kj102).bind fun t267 => (if t267 = true then (if x39_102 = true then (some false) else (some false)) else (some false))) else ((acl_Allows.f kj102 t247 1 2 65536).bind fun t268 => (if t268 = true then ((causewaylaw20_works.f kj102).bind fun t269 => (if t269 = true then (if x39_102 = true then (some false) else (some false)) else (some false))) else ((acl_Allows.f kj102 t247 1 2 0).bind fun t270 => (if t270 = true then ((acl_Allows.f kj102 t247 1 2 65535).bind fun t271 => (if t271 = true then ((causewaylaw20_rules.f (⟨#[97, 108, 108, 111, 119, 32, 49, 32, 62, 32, 49, 32, 53, 47, 97, 108, 108, 111, 119, 32, 49, 32, 62, 32, 49, 32, 54, 45, 55, 47, 97, 108, 108, 111, 119, 32, 49, 32, 62, 32, 49, 32, 57]⟩ : ByteArray)).bind fun t272 => ((acl_Spans.f kj102 t272 1 1).bind fun t275 => ((causewayref20_SameSpans.f kj102 t275 (([(⟨5, 7⟩ : S42), (⟨9, 9⟩ : S42)] : List (S42)))).bind fun t281 => ((causewaylaw20_works.f kj102).bind fun t282 => (if t282 = true then (if x39_102 = true then (some t281) else (some false)) else (some false)))))) else ((causewaylaw20_works.f kj102).bind fun t283 => (if t283 = true then (if x39_102 = true then (some false) else (some false)) else (some false))))) else ((causewaylaw20_works.f kj102).bind fun t284 => (if t284 = true then (if x39_102 = true then (some false) else (some false)) else (some false))))))))) else ((causewaylaw20_works.f kj102).bind fun t285 => (if t285 = true then (if x39_102 = true then (some false) else (some false)) else (some false))))) else ((causewaylaw20_works.f kj102).bind fun t286 => (if t286 = true then (if x39_102 = true then (some false) else (some false)) else (some false)))) = some r := H
                                  have A127 := Aside0.mk A1270
                                  clear A1270
                                  by_cases c128 : (t260.length : Int) = 0
                                  · rw [if_pos c128] at H
                                    have c128b0 : ((t260.length : Int) == 0) = true := beq_iff_eq.mpr c128
                                    have c128b1 : ((t260.length : Int) != 0) = false := bne_eq_false_iff_eq.mpr c128
                                    clear c128
                                    replace H := Option.bind_eq_some_iff.mp H
                                    obtain ⟨t263, A1290, H⟩ := H
                                    replace H : (if (t263.length : Int) = 0 then ((acl_Allows.f kj102 t247 1 2 (-1)).bind fun t266 => (if t266 = true then ((causewaylaw20_works.f kj102).bind fun t267 => (if t267 = true then (if x39_102 = true then (some false) else (some false)) else (some false))) else ((acl_Allows.f kj102 t247 1 2 65536).bind fun t268 => (if t268 = true then ((causewaylaw20_works.f kj102).bind fun t269 => (if t269 = true then (if x39_102 = true then (some false) else (some false)) else (some false))) else ((acl_Allows.f kj102 t247 1 2 0).bind fun t270 => (if t270 = true then ((acl_Allows.f kj102 t247 1 2 65535).bind fun t271 => (if t271 = true then ((causewaylaw20_rules.f (⟨#[97, 108, 108, 111, 119, 32, 49, 32, 62, 32, 49, 32, 53, 47, 97, 108, 108, 111, 119, 32, 49, 32, 62, 32, 49, 32, 54, 45, 55, 47, 97, 108, 108, 111, 119, 32, 49, 32, 62, 32, 49, 32, 57]⟩ : ByteArray)).bind fun t272 => ((acl_Spans.f kj102 t272 1 1).bind fun t275 => ((causewayref20_SameSpans.f kj102 t275 (([(⟨5, 7⟩ : S42), (⟨9, 9⟩ : S42)] : List (S42)))).bind fun t281 => ((causewaylaw20_works.f kj102).bind fun t282 => (if t282 = true then (if x39_102 = true then (some t281) else (some false)) else (some false)))))) else ((causewaylaw20_works.f kj102).bind fun t283 => (if t283 = true then (if x39_102 = true then (some false) else (some false)) else (some false))))) else ((causewaylaw20_works.f kj102).bind fun t284 => (if t284 = true then (if x39_102 = true then (some false) else (some false)) else (some false))))))))) else ((causewaylaw20_works.f kj102).bind fun t285 => (if t285 = true then (if x39_102 = true then (some false) else (some false)) else (some false)))) = some r := H
                                    have A129 := Aside0.mk A1290
                                    clear A1290
                                    by_cases c130 : (t263.length : Int) = 0
                                    · rw [if_pos c130] at H
                                      have c130b0 : ((t263.length : Int) == 0) = true := beq_iff_eq.mpr c130
                                      have c130b1 : ((t263.length : Int) != 0) = false := bne_eq_false_iff_eq.mpr c130
                                      clear c130
                                      replace H := Option.bind_eq_some_iff.mp H
                                      obtain ⟨t266, A1310, H⟩ := H
                                      replace H : (if t266 = true then ((causewaylaw20_works.f kj102).bind fun t267 => (if t267 = true then (if x39_102 = true then (some false) else (some false)) else (some false))) else ((acl_Allows.f kj102 t247 1 2 65536).bind fun t268 => (if t268 = true then ((causewaylaw20_works.f kj102).bind fun t269 => (if t269 = true then (if x39_102 = true then (some false) else (some false)) else (some false))) else ((acl_Allows.f kj102 t247 1 2 0).bind fun t270 => (if t270 = true then ((acl_Allows.f kj102 t247 1 2 65535).bind fun t271 => (if t271 = true then ((causewaylaw20_rules.f (⟨#[97, 108, 108, 111, 119, 32, 49, 32, 62, 32, 49, 32, 53, 47, 97, 108, 108, 111, 119, 32, 49, 32, 62, 32, 49, 32, 54, 45, 55, 47, 97, 108, 108, 111, 119, 32, 49, 32, 62, 32, 49, 32, 57]⟩ : ByteArray)).bind fun t272 => ((acl_Spans.f kj102 t272 1 1).bind fun t275 => ((causewayref20_SameSpans.f kj102 t275 (([(⟨5, 7⟩ : S42), (⟨9, 9⟩ : S42)] : List (S42)))).bind fun t281 => ((causewaylaw20_works.f kj102).bind fun t282 => (if t282 = true then (if x39_102 = true then (some t281) else (some false)) else (some false)))))) else ((causewaylaw20_works.f kj102).bind fun t283 => (if t283 = true then (if x39_102 = true then (some false) else (some false)) else (some false))))) else ((causewaylaw20_works.f kj102).bind fun t284 => (if t284 = true then (if x39_102 = true then (some false) else (some false)) else (some false)))))))) = some r := H
                                      have A131 := Aside0.mk A1310
                                      clear A1310
                                      by_cases c132 : t266 = true
                                      · subst c132
                                        have H1 : ((causewaylaw20_works.f kj102).bind fun t267 => (if t267 = true then (if x39_102 = true then (some false) else (some false)) else (some false))) = some r := by rw [if_pos rfl] at H; exact H
                                        clear H
                                        have H := H1
                                        clear H1
                                        replace H := Option.bind_eq_some_iff.mp H
                                        obtain ⟨t267, A1330, H⟩ := H
                                        replace H : (if t267 = true then (if x39_102 = true then (some false) else (some false)) else (some false)) = some r := H
                                        have A133 := Aside0.mk A1330
                                        clear A1330
                                        by_cases c134 : t267 = true
                                        · subst c134
                                          have H1 : (if x39_102 = true then (some false) else (some false)) = some r := by rw [if_pos rfl] at H; exact H
                                          clear H
                                          have H := H1
                                          clear H1
                                          by_cases c135 : x39_102 = true
                                          · subst c135
                                            have H1 : (some false) = some r := by rw [if_pos rfl] at H; exact H
                                            clear H
                                            have H := H1
                                            clear H1
                                            exact absurd ((Option.some.inj H).trans HRT.out) (by decide)
                                          · replace c135 := Bool.eq_false_iff.mpr c135
                                            subst c135
                                            have H1 : (some false) = some r := by rw [if_neg (show ¬ (false = true) by decide)] at H; exact H
                                            clear H
                                            have H := H1
                                            clear H1
                                            exact absurd ((Option.some.inj H).trans HRT.out) (by decide)
                                        · replace c134 := Bool.eq_false_iff.mpr c134
                                          subst c134
                                          have H1 : (some false) = some r := by rw [if_neg (show ¬ (false = true) by decide)] at H; exact H
                                          clear H
                                          have H := H1
                                          clear H1
                                          exact absurd ((Option.some.inj H).trans HRT.out) (by decide)
                                      · replace c132 := Bool.eq_false_iff.mpr c132
                                        subst c132
                                        have H1 : ((acl_Allows.f kj102 t247 1 2 65536).bind fun t268 => (if t268 = true then ((causewaylaw20_works.f kj102).bind fun t269 => (if t269 = true then (if x39_102 = true then (some false) else (some false)) else (some false))) else ((acl_Allows.f kj102 t247 1 2 0).bind fun t270 => (if t270 = true then ((acl_Allows.f kj102 t247 1 2 65535).bind fun t271 => (if t271 = true then ((causewaylaw20_rules.f (⟨#[97, 108, 108, 111, 119, 32, 49, 32, 62, 32, 49, 32, 53, 47, 97, 108, 108, 111, 119, 32, 49, 32, 62, 32, 49, 32, 54, 45, 55, 47, 97, 108, 108, 111, 119, 32, 49, 32, 62, 32, 49, 32, 57]⟩ : ByteArray)).bind fun t272 => ((acl_Spans.f kj102 t272 1 1).bind fun t275 => ((causewayref20_SameSpans.f kj102 t275 (([(⟨5, 7⟩ : S42), (⟨9, 9⟩ : S42)] : List (S42)))).bind fun t281 => ((causewaylaw20_works.f kj102).bind fun t282 => (if t282 = true then (if x39_102 = true then (some t281) else (some false)) else (some false)))))) else ((causewaylaw20_works.f kj102).bind fun t283 => (if t283 = true then (if x39_102 = true then (some false) else (some false)) else (some false))))) else ((causewaylaw20_works.f kj102).bind fun t284 => (if t284 = true then (if x39_102 = true then (some false) else (some false)) else (some false))))))) = some r := by rw [if_neg (show ¬ (false = true) by decide)] at H; exact H
                                        clear H
                                        have H := H1
                                        clear H1
                                        replace H := Option.bind_eq_some_iff.mp H
                                        obtain ⟨t268, A1810, H⟩ := H
                                        replace H : (if t268 = true then ((causewaylaw20_works.f kj102).bind fun t269 => (if t269 = true then (if x39_102 = true then (some false) else (some false)) else (some false))) else ((acl_Allows.f kj102 t247 1 2 0).bind fun t270 => (if t270 = true then ((acl_Allows.f kj102 t247 1 2 65535).bind fun t271 => (if t271 = true then ((causewaylaw20_rules.f (⟨#[97, 108, 108, 111, 119, 32, 49, 32, 62, 32, 49, 32, 53, 47, 97, 108, 108, 111, 119, 32, 49, 32, 62, 32, 49, 32, 54, 45, 55, 47, 97, 108, 108, 111, 119, 32, 49, 32, 62, 32, 49, 32, 57]⟩ : ByteArray)).bind fun t272 => ((acl_Spans.f kj102 t272 1 1).bind fun t275 => ((causewayref20_SameSpans.f kj102 t275 (([(⟨5, 7⟩ : S42), (⟨9, 9⟩ : S42)] : List (S42)))).bind fun t281 => ((causewaylaw20_works.f kj102).bind fun t282 => (if t282 = true then (if x39_102 = true then (some t281) else (some false)) else (some false)))))) else ((causewaylaw20_works.f kj102).bind fun t283 => (if t283 = true then (if x39_102 = true then (some false) else (some false)) else (some false))))) else ((causewaylaw20_works.f kj102).bind fun t284 => (if t284 = true then (if x39_102 = true then (some false) else (some false)) else (some false)))))) = some r := H
                                        have A181 := Aside0.mk A1810
                                        clear A1810
                                        by_cases c182 : t268 = true
                                        · subst c182
                                          have H1 : ((causewaylaw20_works.f kj102).bind fun t269 => (if t269 = true then (if x39_102 = true then (some false) else (some false)) else (some false))) = some r := by rw [if_pos rfl] at H; exact H
                                          clear H
                                          have H := H1
                                          clear H1
                                          replace H := Option.bind_eq_some_iff.mp H
                                          obtain ⟨t269, A1830, H⟩ := H
                                          replace H : (if t269 = true then (if x39_102 = true then (some false) else (some false)) else (some false)) = some r := H
                                          have A183 := Aside0.mk A1830
                                          clear A1830
                                          by_cases c184 : t269 = true
                                          · subst c184
                                            have H1 : (if x39_102 = true then (some false) else (some false)) = some r := by rw [if_pos rfl] at H; exact H
                                            clear H
                                            have H := H1
                                            clear H1
                                            by_cases c185 : x39_102 = true
                                            · subst c185
                                              have H1 : (some false) = some r := by rw [if_pos rfl] at H; exact H
                                              clear H
                                              have H := H1
                                              clear H1
                                              exact absurd ((Option.some.inj H).trans HRT.out) (by decide)
                                            · replace c185 := Bool.eq_false_iff.mpr c185
                                              subst c185
                                              have H1 : (some false) = some r := by rw [if_neg (show ¬ (false = true) by decide)] at H; exact H
                                              clear H
                                              have H := H1
                                              clear H1
                                              exact absurd ((Option.some.inj H).trans HRT.out) (by decide)
                                          · replace c184 := Bool.eq_false_iff.mpr c184
                                            subst c184
                                            have H1 : (some false) = some r := by rw [if_neg (show ¬ (false = true) by decide)] at H; exact H
                                            clear H
                                            have H := H1
                                            clear H1
                                            exact absurd ((Option.some.inj H).trans HRT.out) (by decide)
                                        · replace c182 := Bool.eq_false_iff.mpr c182
                                          subst c182
                                          have H1 : ((acl_Allows.f kj102 t247 1 2 0).bind fun t270 => (if t270 = true then ((acl_Allows.f kj102 t247 1 2 65535).bind fun t271 => (if t271 = true then ((causewaylaw20_rules.f (⟨#[97, 108, 108, 111, 119, 32, 49, 32, 62, 32, 49, 32, 53, 47, 97, 108, 108, 111, 119, 32, 49, 32, 62, 32, 49, 32, 54, 45, 55, 47, 97, 108, 108, 111, 119, 32, 49, 32, 62, 32, 49, 32, 57]⟩ : ByteArray)).bind fun t272 => ((acl_Spans.f kj102 t272 1 1).bind fun t275 => ((causewayref20_SameSpans.f kj102 t275 (([(⟨5, 7⟩ : S42), (⟨9, 9⟩ : S42)] : List (S42)))).bind fun t281 => ((causewaylaw20_works.f kj102).bind fun t282 => (if t282 = true then (if x39_102 = true then (some t281) else (some false)) else (some false)))))) else ((causewaylaw20_works.f kj102).bind fun t283 => (if t283 = true then (if x39_102 = true then (some false) else (some false)) else (some false))))) else ((causewaylaw20_works.f kj102).bind fun t284 => (if t284 = true then (if x39_102 = true then (some false) else (some false)) else (some false))))) = some r := by rw [if_neg (show ¬ (false = true) by decide)] at H; exact H
                                          clear H
                                          have H := H1
                                          clear H1
                                          replace H := Option.bind_eq_some_iff.mp H
                                          obtain ⟨t270, A2340, H⟩ := H
                                          replace H : (if t270 = true then ((acl_Allows.f kj102 t247 1 2 65535).bind fun t271 => (if t271 = true then ((causewaylaw20_rules.f (⟨#[97, 108, 108, 111, 119, 32, 49, 32, 62, 32, 49, 32, 53, 47, 97, 108, 108, 111, 119, 32, 49, 32, 62, 32, 49, 32, 54, 45, 55, 47, 97, 108, 108, 111, 119, 32, 49, 32, 62, 32, 49, 32, 57]⟩ : ByteArray)).bind fun t272 => ((acl_Spans.f kj102 t272 1 1).bind fun t275 => ((causewayref20_SameSpans.f kj102 t275 (([(⟨5, 7⟩ : S42), (⟨9, 9⟩ : S42)] : List (S42)))).bind fun t281 => ((causewaylaw20_works.f kj102).bind fun t282 => (if t282 = true then (if x39_102 = true then (some t281) else (some false)) else (some false)))))) else ((causewaylaw20_works.f kj102).bind fun t283 => (if t283 = true then (if x39_102 = true then (some false) else (some false)) else (some false))))) else ((causewaylaw20_works.f kj102).bind fun t284 => (if t284 = true then (if x39_102 = true then (some false) else (some false)) else (some false)))) = some r := H
                                          have A234 := Aside0.mk A2340
                                          clear A2340
                                          by_cases c235 : t270 = true
                                          · subst c235
                                            have H1 : ((acl_Allows.f kj102 t247 1 2 65535).bind fun t271 => (if t271 = true then ((causewaylaw20_rules.f (⟨#[97, 108, 108, 111, 119, 32, 49, 32, 62, 32, 49, 32, 53, 47, 97, 108, 108, 111, 119, 32, 49, 32, 62, 32, 49, 32, 54, 45, 55, 47, 97, 108, 108, 111, 119, 32, 49, 32, 62, 32, 49, 32, 57]⟩ : ByteArray)).bind fun t272 => ((acl_Spans.f kj102 t272 1 1).bind fun t275 => ((causewayref20_SameSpans.f kj102 t275 (([(⟨5, 7⟩ : S42), (⟨9, 9⟩ : S42)] : List (S42)))).bind fun t281 => ((causewaylaw20_works.f kj102).bind fun t282 => (if t282 = true then (if x39_102 = true then (some t281) else (some false)) else (some false)))))) else ((causewaylaw20_works.f kj102).bind fun t283 => (if t283 = true then (if x39_102 = true then (some false) else (some false)) else (some false))))) = some r := by rw [if_pos rfl] at H; exact H
                                            clear H
                                            have H := H1
                                            clear H1
                                            replace H := Option.bind_eq_some_iff.mp H
                                            obtain ⟨t271, A2360, H⟩ := H
                                            replace H : (if t271 = true then ((causewaylaw20_rules.f (⟨#[97, 108, 108, 111, 119, 32, 49, 32, 62, 32, 49, 32, 53, 47, 97, 108, 108, 111, 119, 32, 49, 32, 62, 32, 49, 32, 54, 45, 55, 47, 97, 108, 108, 111, 119, 32, 49, 32, 62, 32, 49, 32, 57]⟩ : ByteArray)).bind fun t272 => ((acl_Spans.f kj102 t272 1 1).bind fun t275 => ((causewayref20_SameSpans.f kj102 t275 (([(⟨5, 7⟩ : S42), (⟨9, 9⟩ : S42)] : List (S42)))).bind fun t281 => ((causewaylaw20_works.f kj102).bind fun t282 => (if t282 = true then (if x39_102 = true then (some t281) else (some false)) else (some false)))))) else ((causewaylaw20_works.f kj102).bind fun t283 => (if t283 = true then (if x39_102 = true then (some false) else (some false)) else (some false)))) = some r := H
                                            have A236 := Aside0.mk A2360
                                            clear A2360
                                            by_cases c237 : t271 = true
                                            · subst c237
                                              have H1 : ((causewaylaw20_rules.f (⟨#[97, 108, 108, 111, 119, 32, 49, 32, 62, 32, 49, 32, 53, 47, 97, 108, 108, 111, 119, 32, 49, 32, 62, 32, 49, 32, 54, 45, 55, 47, 97, 108, 108, 111, 119, 32, 49, 32, 62, 32, 49, 32, 57]⟩ : ByteArray)).bind fun t272 => ((acl_Spans.f kj102 t272 1 1).bind fun t275 => ((causewayref20_SameSpans.f kj102 t275 (([(⟨5, 7⟩ : S42), (⟨9, 9⟩ : S42)] : List (S42)))).bind fun t281 => ((causewaylaw20_works.f kj102).bind fun t282 => (if t282 = true then (if x39_102 = true then (some t281) else (some false)) else (some false)))))) = some r := by rw [if_pos rfl] at H; exact H
                                              clear H
                                              have H := H1
                                              clear H1
                                              replace H := Option.bind_eq_some_iff.mp H
                                              obtain ⟨t272, A2380, H⟩ := H
                                              replace H : ((acl_Spans.f kj102 t272 1 1).bind fun t275 => ((causewayref20_SameSpans.f kj102 t275 (([(⟨5, 7⟩ : S42), (⟨9, 9⟩ : S42)] : List (S42)))).bind fun t281 => ((causewaylaw20_works.f kj102).bind fun t282 => (if t282 = true then (if x39_102 = true then (some t281) else (some false)) else (some false))))) = some r := H
                                              have A238 := Aside0.mk A2380
                                              clear A2380
                                              replace H := Option.bind_eq_some_iff.mp H
                                              obtain ⟨t275, A2390, H⟩ := H
                                              replace H : ((causewayref20_SameSpans.f kj102 t275 (([(⟨5, 7⟩ : S42), (⟨9, 9⟩ : S42)] : List (S42)))).bind fun t281 => ((causewaylaw20_works.f kj102).bind fun t282 => (if t282 = true then (if x39_102 = true then (some t281) else (some false)) else (some false)))) = some r := H
                                              have A239 := Aside0.mk A2390
                                              clear A2390
                                              obtain ⟨y278, hy278⟩ : ∃ y_ : List (S42), y_ = (([(⟨5, 7⟩ : S42), (⟨9, 9⟩ : S42)] : List (S42))) := ⟨_, rfl⟩
                                              replace H : ((causewayref20_SameSpans.f kj102 t275 y278).bind fun t281 => ((causewaylaw20_works.f kj102).bind fun t282 => (if t282 = true then (if x39_102 = true then (some t281) else (some false)) else (some false)))) = some r := by first | (rw [hy278]; with_reducible exact H) | (have H2_ := (Option.bind_some _ _).symm.trans H; rw [hy278]; with_reducible exact H2_) | (have H2_ := (Option.bind_some _ _).symm.trans H; with_reducible exact H2_) | with_reducible exact H | (rw [hy278]; exact H) | exact H
                                              have Ny278 := Aside0.mk hy278
                                              clear hy278
                                              replace H := Option.bind_eq_some_iff.mp H
                                              obtain ⟨t281, A2400, H⟩ := H
                                              replace H : ((causewaylaw20_works.f kj102).bind fun t282 => (if t282 = true then (if x39_102 = true then (some t281) else (some false)) else (some false))) = some r := H
                                              have A240 := Aside0.mk A2400
                                              clear A2400
                                              replace H := Option.bind_eq_some_iff.mp H
                                              obtain ⟨t282, A2410, H⟩ := H
                                              replace H : (if t282 = true then (if x39_102 = true then (some t281) else (some false)) else (some false)) = some r := H
                                              have A241 := Aside0.mk A2410
                                              clear A2410
                                              by_cases c242 : t282 = true
                                              · subst c242
                                                have H1 : (if x39_102 = true then (some t281) else (some false)) = some r := by rw [if_pos rfl] at H; exact H
                                                clear H
                                                have H := H1
                                                clear H1
                                                by_cases c243 : x39_102 = true
                                                · subst c243
                                                  have H1 : (some t281) = some r := by rw [if_pos rfl] at H; exact H
                                                  clear H
                                                  have H := H1
                                                  clear H1
                                                  obtain rfl := Option.some.inj H
                                                  go_wp2_with (first | ((with_reducible refine gate_callee (f := 15) rfl ?_); refine goesL_ (some 235) rfl rfl Tryz.func15 (by kernel_rfl) rfl #[.string (⟨#[100, 101, 110, 121, 32, 49, 32, 62, 32, 50, 32, 49, 48, 48, 45, 50, 48, 48, 47, 97, 108, 108, 111, 119, 32, 49, 32, 62, 32, 50, 32, 42]⟩ : ByteArray)] rfl (by (try simp only [List.map_toArray, List.map_cons, List.map_nil]); first | done | rfl | (simp only [List.length_drop, List.length_take]; rfl)) ?_; (with_reducible refine (causewaylaw20_rules.calls (⟨#[100, 101, 110, 121, 32, 49, 32, 62, 32, 50, 32, 49, 48, 48, 45, 50, 48, 48, 47, 97, 108, 108, 111, 119, 32, 49, 32, 62, 32, 50, 32, 42]⟩ : ByteArray) t247 _ ?side1 A121.out).mono ?_); (case side1 => exact LaidW.below HX.out (by repeat (first | (with_reducible first | exact HB.out | apply below_alloc | apply pw_below_drewN | apply below_drew1) | exact HB.out))); rintro e w244 ⟨v248, rfl, ho0, hb⟩; refine ⟨_, rfl, ?_⟩; have n0_ := Aside0.mk (Kd.R_lower ho0 (below_size (by repeat (first | (with_reducible first | exact HB.out | apply below_alloc | apply pw_below_drewN | apply below_drew1) | exact HB.out)))); have n1_ := Aside0.mk (below_step (by repeat (first | (with_reducible first | exact HB.out | apply below_alloc | apply pw_below_drewN | apply below_drew1) | exact HB.out)) hb); clear HB; have HO249 := n0_; have HB := n1_; clear n0_ n1_; (try clear hb); (try clear hb2); (try clear hk); (try clear hi); (try clear ho0); obtain ⟨Ao245, co245, eo245⟩ := Kd.R_slice HO249.out; subst eo245) | ((with_reducible refine gate_callee (f := 17) rfl ?_); refine goesL_ (some 237) rfl rfl Tryz.func17 (by kernel_rfl) rfl #[.slice Ao245 t247.length co245, .int .i64 1, .int .i64 2] rfl (by (try simp only [List.map_toArray, List.map_cons, List.map_nil]); first | done | rfl | (simp only [List.length_drop, List.length_take]; rfl)) ?_; (with_reducible refine (acl_Spans.calls kj102 _ _ t247 1 2 t250 _ ?side1 ?side2 A122.out).mono ?_); (case side1 => repeat (first | exact (Kd.R_reads' HO249.out).2.2 | (with_reducible refine Kd.C_alloc ?_ _) | (with_reducible refine Kd.C_drewN ?_ _) | (with_reducible refine Kd.C_drew ?_))); (case side2 => exact (Kd.R_reads' HO249.out).2.1); rintro e w246 ⟨v251, rfl, ho0, hb⟩; refine ⟨_, rfl, ?_⟩; have n0_ := Aside0.mk (Kd.R_below (by (with_reducible repeat (first | apply Kd.R_alloc | apply Kd.R_drewN | apply Kd.R_drew)); exact HO249.out) hb); have n1_ := Aside0.mk (Kd.R_lower ho0 (below_size (by repeat (first | (with_reducible first | exact HB.out | apply below_alloc | apply pw_below_drewN | apply below_drew1) | exact HB.out)))); have n2_ := Aside0.mk (below_step (by repeat (first | (with_reducible first | exact HB.out | apply below_alloc | apply pw_below_drewN | apply below_drew1) | exact HB.out)) hb); clear HO249; clear HB; have HO249 := n0_; have HO252 := n1_; have HB := n2_; clear n0_ n1_ n2_; (try clear hb); (try clear hb2); (try clear hk); (try clear hi); (try clear ho0)) | ((with_reducible refine gate_dst (N := 240) rfl ?_); (try (refine gate_guard (by rfl) ?_; dsimp only)); refine Kd.R_lit k42 _ 42 ?hg (N := 240) ?hd (xs := ([(⟨0, 99⟩ : S42), (⟨201, 65535⟩ : S42)] : List (S42))) (inner := [.int .i64 0, .int .i64 99, .int .i64 201, .int .i64 65535]) (ok := fun _ => True) (okp := fun _ => True) ?hr ?hp (fun _ hk => hk) trivial (Below.refl _ _) (Nat.le_refl _) (by simp) ?_; (case hd => rfl); (case hg => rfl); (case hr => first | (go_simp; done) | (go_simp; rfl)); (case hp => exact (Reps.c2 (show Kd.M k42 _ _ _ (⟨0, 99⟩ : S42) [.int .i64 0, .int .i64 99] from (k42_mkM _ _ _ (⟨0, 99⟩ : S42) )) (Reps.c2 (show Kd.M k42 _ _ _ (⟨201, 65535⟩ : S42) [.int .i64 201, .int .i64 65535] from (k42_mkM _ _ _ (⟨201, 65535⟩ : S42) )) (Reps.none _ _)))); intro v254 w247 ho248 hb hg_ hnew_; clear hg_ hnew_; (first | rw [← Ny253.out] at ho248 | (simp only [Int.reduceToNat] at ho248; rw [← Ny253.out] at ho248)); have n0_ := Aside0.mk (Kd.R_below (by (with_reducible repeat (first | apply Kd.R_alloc | apply Kd.R_drewN | apply Kd.R_drew)); exact HO249.out) hb); have n1_ := Aside0.mk (Kd.R_below (by (with_reducible repeat (first | apply Kd.R_alloc | apply Kd.R_drewN | apply Kd.R_drew)); exact HO252.out) hb); have n2_ := Aside0.mk (Kd.R_lower (ho248) (below_size (by repeat (first | (with_reducible first | exact HB.out | apply below_alloc | apply pw_below_drewN | apply below_drew1) | exact HB.out)))); have n3_ := Aside0.mk (below_step (by repeat (first | (with_reducible first | exact HB.out | apply below_alloc | apply pw_below_drewN | apply below_drew1) | exact HB.out)) hb); clear HO249; clear HO252; clear HB; have HO249 := n0_; have HO252 := n1_; have HO255 := n2_; have HB := n3_; clear n0_ n1_ n2_ n3_; clear hb ho248; obtain ⟨Ao249, co249, eo249⟩ := Kd.R_slice HO252.out; subst eo249; obtain ⟨Ao250, co250, eo250⟩ := Kd.R_slice HO255.out; subst eo250) | ((with_reducible refine gate_callee (f := 16) rfl ?_); refine goesL_ (some 241) rfl rfl Tryz.func16 (by kernel_rfl) rfl #[.slice Ao249 t250.length co249, .slice Ao250 y253.length co250] rfl (by (try simp only [List.map_toArray, List.map_cons, List.map_nil]); first | done | rfl | (simp only [List.length_drop, List.length_take]; rfl)) ?_; (with_reducible refine (causewayref20_SameSpans.calls kj102 _ _ t250 _ _ y253 true _ ?side1 ?side2 ?side3 ?side4 A123.out).mono ?_); (case side1 => repeat (first | exact (Kd.R_reads' HO252.out).2.2 | (with_reducible refine Kd.C_alloc ?_ _) | (with_reducible refine Kd.C_drewN ?_ _) | (with_reducible refine Kd.C_drew ?_))); (case side2 => exact (Kd.R_reads' HO252.out).2.1); (case side3 => repeat (first | exact (Kd.R_reads' HO255.out).2.2 | (with_reducible refine Kd.C_alloc ?_ _) | (with_reducible refine Kd.C_drewN ?_ _) | (with_reducible refine Kd.C_drew ?_))); (case side4 => exact (Kd.R_reads' HO255.out).2.1); rintro e w' ⟨rfl, ⟨nd, rfl⟩⟩; refine ⟨_, rfl, ?_⟩) | (go_at_call 17; (with_reducible refine (acl_Spans.calls kj102 _ _ t247 2 1 t257 _ ?side1 ?side2 A125.out).mono ?_); (case side1 => repeat (first | exact (Kd.R_reads' HO249.out).2.2 | (with_reducible refine Kd.C_alloc ?_ _) | (with_reducible refine Kd.C_drewN ?_ _) | (with_reducible refine Kd.C_drew ?_))); (case side2 => exact (Kd.R_reads' HO249.out).2.1); rintro e w251 ⟨v258, rfl, ho0, hb⟩; have n0_ := Aside0.mk (Kd.R_below (by (with_reducible repeat (first | apply Kd.R_alloc | apply Kd.R_drewN | apply Kd.R_drew)); exact HO249.out) hb); have n3_ := Aside0.mk (Kd.R_lower ((ho0)) (below_size (by repeat (first | (with_reducible first | exact HB.out | apply below_alloc | apply pw_below_drewN | apply below_drew1) | exact HB.out)))); have n4_ := Aside0.mk (below_step (by repeat (first | (with_reducible first | exact HB.out | apply below_alloc | apply pw_below_drewN | apply below_drew1) | exact HB.out)) hb); clear HO249; clear HB; have HO249 := n0_; have HO259 := n3_; have HB := n4_; clear n0_ n3_ n4_; (try clear hb); (try clear hb2); (try clear hk); (try clear hi); (try clear ho0); obtain ⟨Ao252, co252, eo252⟩ := Kd.R_slice HO259.out; subst eo252) | (go_at_call 17; (with_reducible refine (acl_Spans.calls kj102 _ _ t247 0 2 t260 _ ?side1 ?side2 A127.out).mono ?_); (case side1 => repeat (first | exact (Kd.R_reads' HO249.out).2.2 | (with_reducible refine Kd.C_alloc ?_ _) | (with_reducible refine Kd.C_drewN ?_ _) | (with_reducible refine Kd.C_drew ?_))); (case side2 => exact (Kd.R_reads' HO249.out).2.1); rintro e w253 ⟨v261, rfl, ho0, hb⟩; have n0_ := Aside0.mk (Kd.R_below (by (with_reducible repeat (first | apply Kd.R_alloc | apply Kd.R_drewN | apply Kd.R_drew)); exact HO249.out) hb); have n4_ := Aside0.mk (Kd.R_lower (((ho0))) (below_size (by repeat (first | (with_reducible first | exact HB.out | apply below_alloc | apply pw_below_drewN | apply below_drew1) | exact HB.out)))); have n5_ := Aside0.mk (below_step (by repeat (first | (with_reducible first | exact HB.out | apply below_alloc | apply pw_below_drewN | apply below_drew1) | exact HB.out)) hb); clear HO249; clear HB; have HO249 := n0_; have HO262 := n4_; have HB := n5_; clear n0_ n4_ n5_; (try clear hb); (try clear hb2); (try clear hk); (try clear hi); (try clear ho0); obtain ⟨Ao254, co254, eo254⟩ := Kd.R_slice HO262.out; subst eo254) | (go_at_call 17; (with_reducible refine (acl_Spans.calls kj102 _ _ t247 1 9 t263 _ ?side1 ?side2 A129.out).mono ?_); (case side1 => repeat (first | exact (Kd.R_reads' HO249.out).2.2 | (with_reducible refine Kd.C_alloc ?_ _) | (with_reducible refine Kd.C_drewN ?_ _) | (with_reducible refine Kd.C_drew ?_))); (case side2 => exact (Kd.R_reads' HO249.out).2.1); rintro e w255 ⟨v264, rfl, ho0, hb⟩; have n0_ := Aside0.mk (Kd.R_below (by (with_reducible repeat (first | apply Kd.R_alloc | apply Kd.R_drewN | apply Kd.R_drew)); exact HO249.out) hb); have n5_ := Aside0.mk (Kd.R_lower ((((ho0)))) (below_size (by repeat (first | (with_reducible first | exact HB.out | apply below_alloc | apply pw_below_drewN | apply below_drew1) | exact HB.out)))); have n6_ := Aside0.mk (below_step (by repeat (first | (with_reducible first | exact HB.out | apply below_alloc | apply pw_below_drewN | apply below_drew1) | exact HB.out)) hb); clear HO249; clear HB; have HO249 := n0_; have HO265 := n5_; have HB := n6_; clear n0_ n5_ n6_; (try clear hb); (try clear hb2); (try clear hk); (try clear hi); (try clear ho0); obtain ⟨Ao256, co256, eo256⟩ := Kd.R_slice HO265.out; subst eo256) | (go_at_call 18; (with_reducible refine (acl_Allows.calls kj102 _ _ t247 1 2 (-1) false _ ?side1 ?side2 A131.out).mono ?_); (case side1 => repeat (first | exact (Kd.R_reads' HO249.out).2.2 | (with_reducible refine Kd.C_alloc ?_ _) | (with_reducible refine Kd.C_drewN ?_ _) | (with_reducible refine Kd.C_drew ?_))); (case side2 => exact (Kd.R_reads' HO249.out).2.1); rintro e w257 ⟨rfl, hb⟩; have n0_ := Aside0.mk (Kd.R_below (by (with_reducible repeat (first | apply Kd.R_alloc | apply Kd.R_drewN | apply Kd.R_drew)); exact HO249.out) hb); have n6_ := Aside0.mk (below_step (by repeat (first | (with_reducible first | exact HB.out | apply below_alloc | apply pw_below_drewN | apply below_drew1) | exact HB.out)) hb); clear HO249; clear HB; have HO249 := n0_; have HB := n6_; clear n0_ n6_; (try clear hb); (try clear hb2); (try clear hk); (try clear hi)) | (go_at_call 18; (with_reducible refine (acl_Allows.calls kj102 _ _ t247 1 2 65536 false _ ?side1 ?side2 A181.out).mono ?_); (case side1 => repeat (first | exact (Kd.R_reads' HO249.out).2.2 | (with_reducible refine Kd.C_alloc ?_ _) | (with_reducible refine Kd.C_drewN ?_ _) | (with_reducible refine Kd.C_drew ?_))); (case side2 => exact (Kd.R_reads' HO249.out).2.1); rintro e w258 ⟨rfl, hb⟩; have n0_ := Aside0.mk (Kd.R_below (by (with_reducible repeat (first | apply Kd.R_alloc | apply Kd.R_drewN | apply Kd.R_drew)); exact HO249.out) hb); have n6_ := Aside0.mk (below_step (by repeat (first | (with_reducible first | exact HB.out | apply below_alloc | apply pw_below_drewN | apply below_drew1) | exact HB.out)) hb); clear HO249; clear HB; have HO249 := n0_; have HB := n6_; clear n0_ n6_; (try clear hb); (try clear hb2); (try clear hk); (try clear hi)) | (go_at_call 18; (with_reducible refine (acl_Allows.calls kj102 _ _ t247 1 2 0 true _ ?side1 ?side2 A234.out).mono ?_); (case side1 => repeat (first | exact (Kd.R_reads' HO249.out).2.2 | (with_reducible refine Kd.C_alloc ?_ _) | (with_reducible refine Kd.C_drewN ?_ _) | (with_reducible refine Kd.C_drew ?_))); (case side2 => exact (Kd.R_reads' HO249.out).2.1); rintro e w259 ⟨rfl, hb⟩; have n0_ := Aside0.mk (Kd.R_below (by (with_reducible repeat (first | apply Kd.R_alloc | apply Kd.R_drewN | apply Kd.R_drew)); exact HO249.out) hb); have n6_ := Aside0.mk (below_step (by repeat (first | (with_reducible first | exact HB.out | apply below_alloc | apply pw_below_drewN | apply below_drew1) | exact HB.out)) hb); clear HO249; clear HB; have HO249 := n0_; have HB := n6_; clear n0_ n6_; (try clear hb); (try clear hb2); (try clear hk); (try clear hi)) | (go_at_call 18; (with_reducible refine (acl_Allows.calls kj102 _ _ t247 1 2 65535 true _ ?side1 ?side2 A236.out).mono ?_); (case side1 => repeat (first | exact (Kd.R_reads' HO249.out).2.2 | (with_reducible refine Kd.C_alloc ?_ _) | (with_reducible refine Kd.C_drewN ?_ _) | (with_reducible refine Kd.C_drew ?_))); (case side2 => exact (Kd.R_reads' HO249.out).2.1); rintro e w260 ⟨rfl, hb⟩; have n6_ := Aside0.mk (below_step (by repeat (first | (with_reducible first | exact HB.out | apply below_alloc | apply pw_below_drewN | apply below_drew1) | exact HB.out)) hb); clear HB; have HB := n6_; clear n6_; (try clear hb); (try clear hb2); (try clear hk); (try clear hi)) | (go_at_call 15; (with_reducible refine (causewaylaw20_rules.calls (⟨#[97, 108, 108, 111, 119, 32, 49, 32, 62, 32, 49, 32, 53, 47, 97, 108, 108, 111, 119, 32, 49, 32, 62, 32, 49, 32, 54, 45, 55, 47, 97, 108, 108, 111, 119, 32, 49, 32, 62, 32, 49, 32, 57]⟩ : ByteArray) t272 _ ?side1 A238.out).mono ?_); (case side1 => exact LaidW.below HX.out (by repeat (first | (with_reducible first | exact HB.out | apply below_alloc | apply pw_below_drewN | apply below_drew1) | exact HB.out))); rintro e w261 ⟨v273, rfl, ho0, hb⟩; have n6_ := Aside0.mk (Kd.R_lower (ho0) (below_size (by repeat (first | (with_reducible first | exact HB.out | apply below_alloc | apply pw_below_drewN | apply below_drew1) | exact HB.out)))); have n7_ := Aside0.mk (below_step (by repeat (first | (with_reducible first | exact HB.out | apply below_alloc | apply pw_below_drewN | apply below_drew1) | exact HB.out)) hb); clear HB; have HO274 := n6_; have HB := n7_; clear n6_ n7_; (try clear hb); (try clear hb2); (try clear hk); (try clear hi); (try clear ho0); obtain ⟨Ao262, co262, eo262⟩ := Kd.R_slice HO274.out; subst eo262) | (go_at_call 17; (with_reducible refine (acl_Spans.calls kj102 _ _ t272 1 1 t275 _ ?side1 ?side2 A239.out).mono ?_); (case side1 => repeat (first | exact (Kd.R_reads' HO274.out).2.2 | (with_reducible refine Kd.C_alloc ?_ _) | (with_reducible refine Kd.C_drewN ?_ _) | (with_reducible refine Kd.C_drew ?_))); (case side2 => exact (Kd.R_reads' HO274.out).2.1); rintro e w263 ⟨v276, rfl, ho0, hb⟩; have n7_ := Aside0.mk (Kd.R_lower (((((ho0))))) (below_size (by repeat (first | (with_reducible first | exact HB.out | apply below_alloc | apply pw_below_drewN | apply below_drew1) | exact HB.out)))); have n8_ := Aside0.mk (below_step (by repeat (first | (with_reducible first | exact HB.out | apply below_alloc | apply pw_below_drewN | apply below_drew1) | exact HB.out)) hb); clear HB; have HO277 := n7_; have HB := n8_; clear n7_ n8_; (try clear hb); (try clear hb2); (try clear hk); (try clear hi); (try clear ho0)) | ((with_reducible refine gate_dst (N := 283) rfl ?_); (try (refine gate_guard (by rfl) ?_; dsimp only)); refine Kd.R_lit k42 _ 42 ?hg (N := 283) ?hd (xs := ([(⟨5, 7⟩ : S42), (⟨9, 9⟩ : S42)] : List (S42))) (inner := [.int .i64 5, .int .i64 7, .int .i64 9, .int .i64 9]) (ok := fun _ => True) (okp := fun _ => True) ?hr ?hp (fun _ hk => hk) trivial (Below.refl _ _) (Nat.le_refl _) (by simp) ?_; (case hd => rfl); (case hg => rfl); (case hr => first | (go_simp; done) | (go_simp; rfl)); (case hp => exact (Reps.c2 (show Kd.M k42 _ _ _ (⟨5, 7⟩ : S42) [.int .i64 5, .int .i64 7] from (k42_mkM _ _ _ (⟨5, 7⟩ : S42) )) (Reps.c2 (show Kd.M k42 _ _ _ (⟨9, 9⟩ : S42) [.int .i64 9, .int .i64 9] from (k42_mkM _ _ _ (⟨9, 9⟩ : S42) )) (Reps.none _ _)))); intro v279 w264 ho265 hb hg_ hnew_; clear hg_ hnew_; (first | rw [← Ny278.out] at ho265 | (simp only [Int.reduceToNat] at ho265; rw [← Ny278.out] at ho265)); have n7_ := Aside0.mk (Kd.R_below (by (with_reducible repeat (first | apply Kd.R_alloc | apply Kd.R_drewN | apply Kd.R_drew)); exact HO277.out) hb); have n8_ := Aside0.mk (Kd.R_lower ((((((ho265)))))) (below_size (by repeat (first | (with_reducible first | exact HB.out | apply below_alloc | apply pw_below_drewN | apply below_drew1) | exact HB.out)))); have n9_ := Aside0.mk (below_step (by repeat (first | (with_reducible first | exact HB.out | apply below_alloc | apply pw_below_drewN | apply below_drew1) | exact HB.out)) hb); clear HO277; clear HB; have HO277 := n7_; have HO280 := n8_; have HB := n9_; clear n7_ n8_ n9_; clear hb ho265; obtain ⟨Ao266, co266, eo266⟩ := Kd.R_slice HO277.out; subst eo266; obtain ⟨Ao267, co267, eo267⟩ := Kd.R_slice HO280.out; subst eo267) | (go_at_call 16; (with_reducible refine (causewayref20_SameSpans.calls kj102 _ _ t275 _ _ y278 t281 _ ?side1 ?side2 ?side3 ?side4 A240.out).mono ?_); (case side1 => repeat (first | exact (Kd.R_reads' HO277.out).2.2 | (with_reducible refine Kd.C_alloc ?_ _) | (with_reducible refine Kd.C_drewN ?_ _) | (with_reducible refine Kd.C_drew ?_))); (case side2 => exact (Kd.R_reads' HO277.out).2.1); (case side3 => repeat (first | exact (Kd.R_reads' HO280.out).2.2 | (with_reducible refine Kd.C_alloc ?_ _) | (with_reducible refine Kd.C_drewN ?_ _) | (with_reducible refine Kd.C_drew ?_))); (case side4 => exact (Kd.R_reads' HO280.out).2.1); rintro e w' ⟨rfl, ⟨nd, rfl⟩⟩) | (go_at_call 11; (with_reducible refine (causewaylaw20_works.calls kj102  true _ ?side1 A241.out).mono ?_); (case side1 => exact LaidW.below HX.out (by repeat (first | (with_reducible first | exact HB.out | apply below_alloc | apply pw_below_drewN | apply below_drew1) | exact HB.out))); rintro e w268 ⟨rfl, hb⟩; have n9_ := Aside0.mk (below_step (by repeat (first | (with_reducible first | exact HB.out | apply below_alloc | apply pw_below_drewN | apply below_drew1) | exact HB.out)) hb); clear HB; have HB := n9_; clear n9_; (try clear hb); (try clear hb2); (try clear hk); (try clear hi)))
                                                  go_ret
                                                  exact ⟨by first | rfl | (simp [errW_none, errW_some] <;> rfl) | (simp [*, errW_none, errW_some] <;> rfl), by repeat (first | (with_reducible first | exact HB.out | apply below_alloc | apply pw_below_drewN | apply below_drew1) | exact HB.out)⟩
                                                · replace c243 := Bool.eq_false_iff.mpr c243
                                                  subst c243
                                                  have H1 : (some false) = some r := by rw [if_neg (show ¬ (false = true) by decide)] at H; exact H
                                                  clear H
                                                  have H := H1
                                                  clear H1
                                                  exact absurd ((Option.some.inj H).trans HRT.out) (by decide)
                                              · replace c242 := Bool.eq_false_iff.mpr c242
                                                subst c242
                                                have H1 : (some false) = some r := by rw [if_neg (show ¬ (false = true) by decide)] at H; exact H
                                                clear H
                                                have H := H1
                                                clear H1
                                                exact absurd ((Option.some.inj H).trans HRT.out) (by decide)
                                            · replace c237 := Bool.eq_false_iff.mpr c237
                                              subst c237
                                              have H1 : ((causewaylaw20_works.f kj102).bind fun t283 => (if t283 = true then (if x39_102 = true then (some false) else (some false)) else (some false))) = some r := by rw [if_neg (show ¬ (false = true) by decide)] at H; exact H
                                              clear H
                                              have H := H1
                                              clear H1
                                              replace H := Option.bind_eq_some_iff.mp H
                                              obtain ⟨t283, A3190, H⟩ := H
                                              replace H : (if t283 = true then (if x39_102 = true then (some false) else (some false)) else (some false)) = some r := H
                                              have A319 := Aside0.mk A3190
                                              clear A3190
                                              by_cases c320 : t283 = true
                                              · subst c320
                                                have H1 : (if x39_102 = true then (some false) else (some false)) = some r := by rw [if_pos rfl] at H; exact H
                                                clear H
                                                have H := H1
                                                clear H1
                                                by_cases c321 : x39_102 = true
                                                · subst c321
                                                  have H1 : (some false) = some r := by rw [if_pos rfl] at H; exact H
                                                  clear H
                                                  have H := H1
                                                  clear H1
                                                  exact absurd ((Option.some.inj H).trans HRT.out) (by decide)
                                                · replace c321 := Bool.eq_false_iff.mpr c321
                                                  subst c321
                                                  have H1 : (some false) = some r := by rw [if_neg (show ¬ (false = true) by decide)] at H; exact H
                                                  clear H
                                                  have H := H1
                                                  clear H1
                                                  exact absurd ((Option.some.inj H).trans HRT.out) (by decide)
                                              · replace c320 := Bool.eq_false_iff.mpr c320
                                                subst c320
                                                have H1 : (some false) = some r := by rw [if_neg (show ¬ (false = true) by decide)] at H; exact H
                                                clear H
                                                have H := H1
                                                clear H1
                                                exact absurd ((Option.some.inj H).trans HRT.out) (by decide)
                                          · replace c235 := Bool.eq_false_iff.mpr c235
                                            subst c235
                                            have H1 : ((causewaylaw20_works.f kj102).bind fun t284 => (if t284 = true then (if x39_102 = true then (some false) else (some false)) else (some false))) = some r := by rw [if_neg (show ¬ (false = true) by decide)] at H; exact H
                                            clear H
                                            have H := H1
                                            clear H1
                                            replace H := Option.bind_eq_some_iff.mp H
                                            obtain ⟨t284, A3760, H⟩ := H
                                            replace H : (if t284 = true then (if x39_102 = true then (some false) else (some false)) else (some false)) = some r := H
                                            have A376 := Aside0.mk A3760
                                            clear A3760
                                            by_cases c377 : t284 = true
                                            · subst c377
                                              have H1 : (if x39_102 = true then (some false) else (some false)) = some r := by rw [if_pos rfl] at H; exact H
                                              clear H
                                              have H := H1
                                              clear H1
                                              by_cases c378 : x39_102 = true
                                              · subst c378
                                                have H1 : (some false) = some r := by rw [if_pos rfl] at H; exact H
                                                clear H
                                                have H := H1
                                                clear H1
                                                exact absurd ((Option.some.inj H).trans HRT.out) (by decide)
                                              · replace c378 := Bool.eq_false_iff.mpr c378
                                                subst c378
                                                have H1 : (some false) = some r := by rw [if_neg (show ¬ (false = true) by decide)] at H; exact H
                                                clear H
                                                have H := H1
                                                clear H1
                                                exact absurd ((Option.some.inj H).trans HRT.out) (by decide)
                                            · replace c377 := Bool.eq_false_iff.mpr c377
                                              subst c377
                                              have H1 : (some false) = some r := by rw [if_neg (show ¬ (false = true) by decide)] at H; exact H
                                              clear H
                                              have H := H1
                                              clear H1
                                              exact absurd ((Option.some.inj H).trans HRT.out) (by decide)
                                    · rw [if_neg c130] at H
                                      have c130b0 : ((t263.length : Int) == 0) = false := beq_eq_false_iff_ne.mpr c130
                                      have c130b1 : ((t263.length : Int) != 0) = true := bne_iff_ne.mpr c130
                                      have c130b2 : ¬ (t263 = []) := fun h_ => c130 (by rw [h_]; rfl)
                                      replace H := Option.bind_eq_some_iff.mp H
                                      obtain ⟨t285, A4300, H⟩ := H
                                      replace H : (if t285 = true then (if x39_102 = true then (some false) else (some false)) else (some false)) = some r := H
                                      have A430 := Aside0.mk A4300
                                      clear A4300
                                      by_cases c431 : t285 = true
                                      · subst c431
                                        have H1 : (if x39_102 = true then (some false) else (some false)) = some r := by rw [if_pos rfl] at H; exact H
                                        clear H
                                        have H := H1
                                        clear H1
                                        by_cases c432 : x39_102 = true
                                        · subst c432
                                          have H1 : (some false) = some r := by rw [if_pos rfl] at H; exact H
                                          clear H
                                          have H := H1
                                          clear H1
                                          exact absurd ((Option.some.inj H).trans HRT.out) (by decide)
                                        · replace c432 := Bool.eq_false_iff.mpr c432
                                          subst c432
                                          have H1 : (some false) = some r := by rw [if_neg (show ¬ (false = true) by decide)] at H; exact H
                                          clear H
                                          have H := H1
                                          clear H1
                                          exact absurd ((Option.some.inj H).trans HRT.out) (by decide)
                                      · replace c431 := Bool.eq_false_iff.mpr c431
                                        subst c431
                                        have H1 : (some false) = some r := by rw [if_neg (show ¬ (false = true) by decide)] at H; exact H
                                        clear H
                                        have H := H1
                                        clear H1
                                        exact absurd ((Option.some.inj H).trans HRT.out) (by decide)
                                  · rw [if_neg c128] at H
                                    have c128b0 : ((t260.length : Int) == 0) = false := beq_eq_false_iff_ne.mpr c128
                                    have c128b1 : ((t260.length : Int) != 0) = true := bne_iff_ne.mpr c128
                                    have c128b2 : ¬ (t260 = []) := fun h_ => c128 (by rw [h_]; rfl)
                                    replace H := Option.bind_eq_some_iff.mp H
                                    obtain ⟨t286, A4750, H⟩ := H
                                    replace H : (if t286 = true then (if x39_102 = true then (some false) else (some false)) else (some false)) = some r := H
                                    have A475 := Aside0.mk A4750
                                    clear A4750
                                    by_cases c476 : t286 = true
                                    · subst c476
                                      have H1 : (if x39_102 = true then (some false) else (some false)) = some r := by rw [if_pos rfl] at H; exact H
                                      clear H
                                      have H := H1
                                      clear H1
                                      by_cases c477 : x39_102 = true
                                      · subst c477
                                        have H1 : (some false) = some r := by rw [if_pos rfl] at H; exact H
                                        clear H
                                        have H := H1
                                        clear H1
                                        exact absurd ((Option.some.inj H).trans HRT.out) (by decide)
                                      · replace c477 := Bool.eq_false_iff.mpr c477
                                        subst c477
                                        have H1 : (some false) = some r := by rw [if_neg (show ¬ (false = true) by decide)] at H; exact H
                                        clear H
                                        have H := H1
                                        clear H1
                                        exact absurd ((Option.some.inj H).trans HRT.out) (by decide)
                                    · replace c476 := Bool.eq_false_iff.mpr c476
                                      subst c476
                                      have H1 : (some false) = some r := by rw [if_neg (show ¬ (false = true) by decide)] at H; exact H
                                      clear H
                                      have H := H1
                                      clear H1
                                      exact absurd ((Option.some.inj H).trans HRT.out) (by decide)
                                · rw [if_neg c126] at H
                                  have c126b0 : ((t257.length : Int) == 0) = false := beq_eq_false_iff_ne.mpr c126
                                  have c126b1 : ((t257.length : Int) != 0) = true := bne_iff_ne.mpr c126
                                  have c126b2 : ¬ (t257 = []) := fun h_ => c126 (by rw [h_]; rfl)
                                  replace H := Option.bind_eq_some_iff.mp H
                                  obtain ⟨t287, A5140, H⟩ := H
                                  replace H : (if t287 = true then (if x39_102 = true then (some false) else (some false)) else (some false)) = some r := H
                                  have A514 := Aside0.mk A5140
                                  clear A5140
                                  by_cases c515 : t287 = true
                                  · subst c515
                                    have H1 : (if x39_102 = true then (some false) else (some false)) = some r := by rw [if_pos rfl] at H; exact H
                                    clear H
                                    have H := H1
                                    clear H1
                                    by_cases c516 : x39_102 = true
                                    · subst c516
                                      have H1 : (some false) = some r := by rw [if_pos rfl] at H; exact H
                                      clear H
                                      have H := H1
                                      clear H1
                                      exact absurd ((Option.some.inj H).trans HRT.out) (by decide)
                                    · replace c516 := Bool.eq_false_iff.mpr c516
                                      subst c516
                                      have H1 : (some false) = some r := by rw [if_neg (show ¬ (false = true) by decide)] at H; exact H
                                      clear H
                                      have H := H1
                                      clear H1
                                      exact absurd ((Option.some.inj H).trans HRT.out) (by decide)
                                  · replace c515 := Bool.eq_false_iff.mpr c515
                                    subst c515
                                    have H1 : (some false) = some r := by rw [if_neg (show ¬ (false = true) by decide)] at H; exact H
                                    clear H
                                    have H := H1
                                    clear H1
                                    exact absurd ((Option.some.inj H).trans HRT.out) (by decide)
                              · replace c124 := Bool.eq_false_iff.mpr c124
                                subst c124
                                have H1 : ((causewaylaw20_works.f kj102).bind fun t288 => (if t288 = true then (if x39_102 = true then (some false) else (some false)) else (some false))) = some r := by rw [if_neg (show ¬ (false = true) by decide)] at H; exact H
                                clear H
                                have H := H1
                                clear H1
                                replace H := Option.bind_eq_some_iff.mp H
                                obtain ⟨t288, A5470, H⟩ := H
                                replace H : (if t288 = true then (if x39_102 = true then (some false) else (some false)) else (some false)) = some r := H
                                have A547 := Aside0.mk A5470
                                clear A5470
                                by_cases c548 : t288 = true
                                · subst c548
                                  have H1 : (if x39_102 = true then (some false) else (some false)) = some r := by rw [if_pos rfl] at H; exact H
                                  clear H
                                  have H := H1
                                  clear H1
                                  by_cases c549 : x39_102 = true
                                  · subst c549
                                    have H1 : (some false) = some r := by rw [if_pos rfl] at H; exact H
                                    clear H
                                    have H := H1
                                    clear H1
                                    exact absurd ((Option.some.inj H).trans HRT.out) (by decide)
                                  · replace c549 := Bool.eq_false_iff.mpr c549
                                    subst c549
                                    have H1 : (some false) = some r := by rw [if_neg (show ¬ (false = true) by decide)] at H; exact H
                                    clear H
                                    have H := H1
                                    clear H1
                                    exact absurd ((Option.some.inj H).trans HRT.out) (by decide)
                                · replace c548 := Bool.eq_false_iff.mpr c548
                                  subst c548
                                  have H1 : (some false) = some r := by rw [if_neg (show ¬ (false = true) by decide)] at H; exact H
                                  clear H
                                  have H := H1
                                  clear H1
                                  exact absurd ((Option.some.inj H).trans HRT.out) (by decide)
                  · rw [if_neg c57] at H
                    exact absurd H (by simp)
                · rw [if_neg c51] at H
                  exact absurd H (by simp)
              · rw [if_neg c44] at H
                exact absurd H (by simp)

end Go.Proofs.YtglnnlpkhjijhaaGreatDoor.PA
