/- acl.port and acl.ports: the numbers of a word, or the package's own panic, for every word. -/
import Derived.Test.YthnpiimiimiijaaGreatDoorAclMust
import Derived.Test.YthnpiimiimiijaaGreatDoorExtX
import Derived.WideLaws
import Derived.Lib.Hide
import Derived.Lib.AppendIntMem
namespace Go.Proofs.YthnpiimiimiijaaGreatDoor.Acl
open Go.RowKit Go.Sort Go.Proofs Go.Proofs.YthnpiimiimiijaaGreatDoor.PA

def portOf (s : List UInt8) : Option Int :=
  match Lib.atoiAll s with
  | .ok v => if 0 ≤ v ∧ v ≤ 65535 ∧ Lib.itoa v = s then some v else none
  | _ => none
def PortEnd (s : List UInt8) (e : Ending) : Prop :=
  match portOf s with
  | some b => e = .returned (.int .i64 b)
  | none => e = .panicked [{ v := wrongV, recovered := false }]

theorem cell_of_var {w : World} {g : Nat} {n : String} {v : Value} (hg : Tryz.prog.globalNamed n = some g) (h : w.var? Tryz.prog n = some #[v]) : w.cell? ⟨g, 0, none⟩ = some v := by
  unfold World.var? at h
  rw [hg] at h
  simp only [Option.bind_some] at h
  unfold World.cell?
  cases hh : w.heap[g]? with
  | none => rw [hh] at h; cases h
  | some o =>
    rw [hh] at h
    cases o <;> simp at h ⊢
    rw [h]; rfl
theorem synCell {w : World} (h : LaidW w) : ∃ tp p, w.cell? ⟨3, 0, none⟩ = some (.iface tp p) := by
  obtain ⟨tp, p, h⟩ := h.syn
  exact ⟨tp, p, cell_of_var (by kernel_rfl) h⟩
theorem ranCell {w : World} (h : LaidW w) : ∃ tp p, w.cell? ⟨4, 0, none⟩ = some (.iface tp p) := by
  obtain ⟨tp, p, h⟩ := h.ran
  exact ⟨tp, p, cell_of_var (by kernel_rfl) h⟩

/-- strconv.Atoi, every text: its number, or an error that is not nil. -/
def AtoiEnd (s : List UInt8) (e : Ending) : Prop :=
  match Lib.atoiAll s with
  | .ok v => e = .returned (.tuple #[.int .i64 v, .nilIface])
  | _ => ∃ v p, e = .returned (.tuple #[.int .i64 v, .iface 241 p])
theorem atoi_any (s : List UInt8) (hs : s.length ≤ 140737488355328) (w : World) (hx : LaidW w) :
    Calls Tryz.prog 173 #[.string ⟨s.toArray⟩] w fun e w' => Below w.heap.size w w' ∧ AtoiEnd s e := by
  have hsz : (⟨s.toArray⟩ : ByteArray).size = s.length := by simp [ByteArray.size]
  unfold AtoiEnd
  cases h : Lib.atoiAll s with
  | ok v =>
    refine (Tryz.strconv_Atoi_ok ⟨s.toArray⟩ (by omega) v h w).mono ?_
    rintro e w' ⟨rfl, hw⟩
    refine ⟨?_, rfl⟩
    rcases hw with rfl | ⟨t, rfl⟩
    · exact Below.refl _ _
    · exact Lib.bytesWorld_below _ _ _
  | range =>
    obtain ⟨tp, p, hc⟩ := ranCell hx
    refine (Tryz.strconv_Atoi_range ⟨s.toArray⟩ (by omega) h _ w hc (.inr ⟨_, _, rfl⟩)).mono ?_
    rintro e w' ⟨N, rfl, _, _, hb⟩
    exact ⟨hb, _, _, rfl⟩
  | _ =>
    obtain ⟨tp, p, hc⟩ := synCell hx
    refine (Tryz.strconv_Atoi_syntax ⟨s.toArray⟩ (by omega) h _ w hc (.inr ⟨_, _, rfl⟩)).mono ?_
    rintro e w' ⟨N, rfl, _, _, hb⟩
    exact ⟨hb, _, _, rfl⟩
theorem itoa_any (v : Int) (h0 : 0 ≤ v) (h1 : v ≤ 65535) (w : World) (hx : LaidW w) :
    Calls Tryz.prog 174 #[.int .i64 v] w fun e w' => e = .returned (.string ⟨(Lib.itoa v).toArray⟩) ∧ Below w.heap.size w w' := by
  refine (Tryz.strconv_Itoa v (by omega) (by omega) w hx.tab).mono ?_
  rintro e w' ⟨rfl, k, os, rfl⟩
  exact ⟨rfl, Lib.below_grow _ _ (Nat.le_refl _) _ _⟩

theorem below_step {w w1 w2 : World} (h : Below w.heap.size w w1) (k : Below w1.heap.size w1 w2) : Below w.heap.size w w2 := h.trans (k.mono h.size)

set_option maxHeartbeats 2000000 in
set_option maxRecDepth 100000 in
theorem port_any (s : List UInt8) (hs : s.length ≤ 140737488355328) (w : World) (hx : LaidW w) :
    Calls Tryz.prog 162 #[.string ⟨s.toArray⟩] w fun e w' => Below w.heap.size w w' ∧ PortEnd s e := by
  have HA := Lib.hid (atoi_any s hs w hx)
  go_enter Tryz.func162, Tryz.ntmps162
  go_wp2_with fail
  refine HA.out.mono ?_
  rintro e w1 ⟨hb1, he⟩
  cases h : Lib.atoiAll s with
  | ok v =>
    have hp : portOf s = if 0 ≤ v ∧ v ≤ 65535 ∧ Lib.itoa v = s then some v else none := by unfold portOf; rw [h]
    have HP := Lib.hid hp
    unfold AtoiEnd at he
    rw [h] at he
    subst he
    have HB1 := Lib.hid hb1
    clear hp h hb1
    by_cases h0 : 0 ≤ v
    · by_cases h1 : v ≤ 65535
      · have hx1 := hx.below HB1.out
        have HI := Lib.hid (itoa_any v h0 h1 w1 hx1)
        by_cases h2 : Lib.itoa v = s
        · have hb2 : (Lib.itoa v == s) = true := beq_iff_eq.2 h2
          have H2 := Lib.hid h2
          clear h2
          go_wp2_with fail
          refine HI.out.mono ?_
          rintro e w2 ⟨rfl, hbi⟩
          have HB2 := Lib.hid hbi
          clear hbi
          go_wp2_with fail
          refine (must_yes _).mono ?_
          rintro e w3 ⟨rfl, rfl⟩
          go_wp2
          go_ret
          exact ⟨below_step HB1.out HB2.out, by unfold PortEnd; rw [HP.out, if_pos ⟨h0, h1, H2.out⟩]; rfl⟩
        · have hb2 : (Lib.itoa v == s) = false := beq_eq_false_iff_ne.2 h2
          have H2 := Lib.hid h2
          clear h2
          go_wp2_with fail
          refine HI.out.mono ?_
          rintro e w2 ⟨rfl, hbi⟩
          have HB2 := Lib.hid hbi
          clear hbi
          go_wp2_with fail
          refine (must_no _).mono ?_
          rintro e w3 ⟨rfl, rfl⟩
          go_wp2
          exact ⟨rfl, below_step HB1.out HB2.out, by unfold PortEnd; rw [HP.out, if_neg (fun h => H2.out h.2.2)]⟩
      · go_wp2_with fail
        refine (must_no _).mono ?_
        rintro e w3 ⟨rfl, rfl⟩
        go_wp2
        exact ⟨rfl, HB1.out, by unfold PortEnd; rw [HP.out, if_neg (fun h => absurd h.2.1 (by omega))]⟩
    · go_wp2_with fail
      refine (must_no _).mono ?_
      rintro e w3 ⟨rfl, rfl⟩
      go_wp2
      exact ⟨rfl, HB1.out, by unfold PortEnd; rw [HP.out, if_neg (fun h => absurd h.1 (by omega))]⟩
  | range =>
    have hp : portOf s = none := by unfold portOf; rw [h]
    have HP := Lib.hid hp
    unfold AtoiEnd at he
    rw [h] at he
    obtain ⟨v, p, rfl⟩ := he
    have HB1 := Lib.hid hb1
    clear hp h hb1
    go_wp2_with fail
    refine (must_no _).mono ?_
    rintro e w3 ⟨rfl, rfl⟩
    go_wp2
    exact ⟨rfl, HB1.out, by unfold PortEnd; rw [HP.out]⟩

  | _ =>
    have hp : portOf s = none := by unfold portOf; rw [h]
    have HP := Lib.hid hp
    unfold AtoiEnd at he
    rw [h] at he
    obtain ⟨v, p, rfl⟩ := he
    have HB1 := Lib.hid hb1
    clear hp h hb1
    go_wp2_with fail
    refine (must_no _).mono ?_
    rintro e w3 ⟨rfl, rfl⟩
    go_wp2
    exact ⟨rfl, HB1.out, by unfold PortEnd; rw [HP.out]⟩
/-- acl.ports. -/
def portsOf (s : List UInt8) : Option (Int × Int) :=
  if s = [42] then some (0, 65535) else
  match portOf (Lib.cut s [45]).1 with
  | none => none
  | some a => if (Lib.cut s [45]).2.2 = true then (match portOf (Lib.cut s [45]).2.1 with | none => none | some b => if a ≤ b then some (a, b) else none) else some (a, a)
def PortsEnd (s : List UInt8) (e : Ending) : Prop :=
  match portsOf s with
  | some (a, b) => e = .returned (.tuple #[.int .i64 a, .int .i64 b])
  | none => e = .panicked [{ v := wrongV, recovered := false }]

theorem portOf_range {s : List UInt8} {a : Int} (h : portOf s = some a) : 0 ≤ a ∧ a ≤ 65535 := by
  unfold portOf at h
  cases hq : Lib.atoiAll s with
  | ok v =>
    rw [hq] at h
    simp only at h
    by_cases hc : 0 ≤ v ∧ v ≤ 65535 ∧ Lib.itoa v = s
    · rw [if_pos hc] at h; cases h; exact ⟨hc.1, hc.2.1⟩
    · rw [if_neg hc] at h; cases h
  | range => rw [hq] at h; cases h
  | _ => rw [hq] at h; cases h
theorem cut_le (s t : List UInt8) : (Lib.cut s t).1.length ≤ s.length ∧ (Lib.cut s t).2.1.length ≤ s.length := by
  unfold Lib.cut
  split
  · simp; omega
  · simp

set_option maxHeartbeats 2000000 in
set_option maxRecDepth 100000 in
theorem ports_any (s : List UInt8) (hs : s.length ≤ 4294967280) (w : World) (hx : LaidW w) :
    Calls Tryz.prog 136 #[.string ⟨s.toArray⟩] w fun e w' => Below w.heap.size w w' ∧ PortsEnd s e := by
  by_cases h42 : s = [42]
  · have hb : (s == [42]) = true := by simpa using h42
    have hp : portsOf s = some (0, 65535) := by unfold portsOf; rw [if_pos h42]
    have HP := Lib.hid hp
    clear hp h42
    go_enter Tryz.func136, Tryz.ntmps136
    go_wp2
    go_ret2
    exact ⟨Below.refl _ _, by unfold PortsEnd; rw [HP.out]; rfl⟩
  have hb : (s == [42]) = false := by simpa using h42
  have hsz : (⟨s.toArray⟩ : ByteArray).size < 4294967281 := by simp [ByteArray.size]; omega
  have hcut := Tryz.strings_Cut_shaped ⟨s.toArray⟩ ⟨#[45]⟩ w hx.shaped hsz
  have hle := cut_le s [45]
  have hps : portsOf s = match portOf (Lib.cut s [45]).1 with | none => none | some a => if (Lib.cut s [45]).2.2 = true then (match portOf (Lib.cut s [45]).2.1 with | none => none | some b => if a ≤ b then some (a, b) else none) else some (a, a) := by
    unfold portsOf; rw [if_neg h42]
  simp only at hcut
  generalize hq : Lib.cut s [45] = q at hcut hle hps
  obtain ⟨f, g, two⟩ := q
  simp only at hcut hle hps
  have HCUT := Lib.hid hcut; have HPS := Lib.hid hps; have HX := Lib.hid hx
  have hf := hle.1; have hg := hle.2
  clear hcut hps hq h42 hsz hle hx
  go_enter Tryz.func136, Tryz.ntmps136
  go_wp2_with fail
  refine HCUT.out.mono ?_
  rintro e w1 ⟨rfl, n, rfl⟩
  have hb1 : Below w.heap.size w (w.drewN n) := ⟨rfl, rfl, rfl, Nat.le_refl _, fun _ _ => rfl⟩
  have HB1 := Lib.hid hb1
  have HX1 := Lib.hid (HX.out.below hb1)
  clear hb1
  go_wp2_with fail
  refine (port_any f (by omega) _ HX1.out).mono ?_
  rintro e w2 ⟨hb2, he⟩
  have HB2 := Lib.hid (below_step HB1.out hb2)
  have HX2 := Lib.hid (HX1.out.below hb2)
  clear hb2
  unfold PortEnd at he
  cases hpf : portOf f with
  | none =>
    rw [hpf] at he
    simp only at he
    subst he
    have HP := Lib.hid (show portsOf s = none by rw [HPS.out, hpf])
    clear hpf
    go_wp2
    exact ⟨rfl, HB2.out, by unfold PortsEnd; rw [HP.out]⟩
  | some a =>
    rw [hpf] at he
    simp only at he
    subst he
    obtain ⟨ha0, ha1⟩ := portOf_range hpf
    cases two with
    | false =>
      have HP := Lib.hid (show portsOf s = some (a, a) by rw [HPS.out, hpf]; rfl)
      clear hpf
      go_wp2_with fail
      refine (must_yes _).mono ?_
      rintro e w3 ⟨rfl, rfl⟩
      go_wp2
      go_ret2
      exact ⟨HB2.out, by unfold PortsEnd; rw [HP.out]; rfl⟩
    | true =>
      have HPF := Lib.hid hpf
      clear hpf
      go_wp2_with fail
      refine (port_any g (by omega) _ HX2.out).mono ?_
      rintro e w3 ⟨hb3, he⟩
      have HB3 := Lib.hid (below_step HB2.out hb3)
      clear hb3
      unfold PortEnd at he
      cases hpg : portOf g with
      | none =>
        rw [hpg] at he
        simp only at he
        subst he
        have HP := Lib.hid (show portsOf s = none by rw [HPS.out, HPF.out]; simp [hpg])
        clear hpg
        go_wp2
        exact ⟨rfl, HB3.out, by unfold PortsEnd; rw [HP.out]⟩
      | some b =>
        rw [hpg] at he
        simp only at he
        subst he
        obtain ⟨hb0, hb1⟩ := portOf_range hpg
        by_cases hab : a ≤ b
        · have HP := Lib.hid (show portsOf s = some (a, b) by rw [HPS.out, HPF.out]; simp [hpg, hab])
          clear hpg
          have hd : decide (a ≤ b) = true := decide_eq_true hab
          go_wp2_with fail
          refine (must_yes _).mono ?_
          rintro e w4 ⟨rfl, rfl⟩
          go_wp2
          go_ret2
          exact ⟨HB3.out, by unfold PortsEnd; rw [HP.out]; rfl⟩
        · have HP := Lib.hid (show portsOf s = none by rw [HPS.out, HPF.out]; simp [hpg, hab])
          clear hpg
          have hd : decide (a ≤ b) = false := decide_eq_false hab
          go_wp2_with fail
          refine (must_no _).mono ?_
          rintro e w4 ⟨rfl, rfl⟩
          go_wp2
          exact ⟨rfl, HB3.out, by unfold PortsEnd; rw [HP.out]⟩
end Go.Proofs.YthnpiimiimiijaaGreatDoor.Acl
