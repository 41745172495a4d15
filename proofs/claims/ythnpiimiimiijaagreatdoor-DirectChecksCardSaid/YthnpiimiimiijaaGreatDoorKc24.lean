/- What the rows' arguments read as: rows of asks; the listed variables; the wrap. What arguments read as: books, and rows of ops. What arguments read as: keys by value, rows of bytes. -/
import Derived.Test.YthnpiimiimiijaaGreatDoorTie
import Derived.Test.YthnpiimiimiijaaGreatDoorKc9
import Derived.Test.YthnpiimiimiijaaGreatDoorKc14
import Derived.ProofKit
import Derived.OpenShut
import Derived.LaidMore
import Derived.Lay
import Derived.SevenTiedAt
import Derived.Stop.Joined
import Derived.WalkKit
import Derived.ChangeOld
import Derived.SizedLaws
import Derived.Deep.SlicePairs
import Derived.WideKeyArr2
import Derived.HandedShaped
import Derived.Test.YthnpiimiimiijaaGreatDoorKc20
section
namespace Go.Proofs.YthnpiimiimiijaaGreatDoor.PA
open Go.ChangeShapes Go.WideShapes Go.ChangeAt Go.RowKit Go.Deep
open Go.Proofs.YthnpiimiimiijaaGreatDoorW.PrintWords Go.Proofs.YthnpiimiimiijaaGreatDoorW.PrintLast Go.Proofs.YthnpiimiimiijaaGreatDoorW.PrintMore
set_option linter.unusedVariables false
set_option maxRecDepth 100000
instance : Inhabited Dir.AskV := ⟨⟨0, 0, 0, 0⟩⟩
theorem own : ownKnob Tryz.prog.godebug = none := by kernel_rfl
theorem laidOut : laidOutB Tryz.prog = true := by kernel_rfl
theorem cells3 : Tryz.prog.cellsOf 3 = 1 := by kernel_rfl
theorem cells4 : Tryz.prog.cellsOf 4 = 1 := by kernel_rfl
section
variable {H : Type} {enc : TypeId × Value → H} {W : World} {base : Nat} {sp : Nat → Bool} {held : Bool}
end
/-! #### the listed variables -/
theorem iface_of_trod {W : World} {base fuel : Nat} {sp : Nat → Bool} {t : TypeId} {ms : Array (String × TypeId)} {cs : List Value} {nm : String} {d : DataW Unit} {p : List MemPlace} (ht : Tryz.prog.underlying t = some (.interface ms))
  (h : DataW.trod (fun _ => ()) Tryz.prog W base sp false fuel t cs = some (.iface nm d, p)) : ∃ tp v, cs = [.iface tp v] := by
 cases fuel with
 | zero => simp [DataW.trod] at h
 | succ n =>
  unfold DataW.trod at h
  rw [ht] at h
  split at h <;> simp_all
theorem laidW_of {W : World} (hs : W.ShapedOpen Tryz.prog) (h : laidMetH Tryz.prog Rows.directLaterRow.laid W) : LaidW W := by
 rw [MakeChecks.laidMetH_plain _ _ _ (by kernel_rfl)] at h
 obtain ⟨ps, ⟨_, _, _, _, _, _, _, _, _, _, ⟨_, _, _, _, _, _, _, _, _, _, ⟨g3, t3, cs3, fu3, p3, q3, hg3, ht3, hv3, hd3, ⟨_, _, _, _, _, _, _, _, _, _, ⟨g5, t5, cs5, fu5, p5, q5, hg5, ht5, hv5, hd5, ⟨g6, t6, cs6, fu6, p6, q6, hg6, ht6, hv6, hd6, _⟩, _⟩, _⟩, _⟩, _⟩, _⟩, _, _⟩ := h
 have ty : ∀ (nm : String) (T g t : Nat), ((Tryz.prog.globalNamed nm).bind fun g => (Tryz.prog.globals[g]?).map (·.type)) = some T → Tryz.prog.globalNamed nm = some g → (Tryz.prog.globals[g]?).map (·.type) = some t → t = T := by
  intro nm T g t h1 h2 h3
  rw [h2, Option.bind_some, h3] at h1
  exact Option.some.inj h1
 obtain rfl := ty _ 261 _ _ (by kernel_rfl) hg3 ht3
 obtain rfl := ty _ 224 _ _ (by kernel_rfl) hg5 ht5
 obtain rfl := ty _ 224 _ _ (by kernel_rfl) hg6 ht6
 refine ⟨hs, ?_, ?_, ?_⟩
 ·have e : Rows.laid_internal_strconv_uint64pow10 = Lib.tabData (H := Unit) .u64 Lib.pow10Tab := by kernel_rfl
  rw [e] at hd3
  have := Lib.cells_of_tab Tryz.underlying261 (e := 183) (by kernel_rfl) (by kernel_rfl) (by kernel_rfl) hd3
  rw [hv3, ← this]
 ·obtain ⟨tp, v, e⟩ := iface_of_trod Tryz.underlying224 hd6
  refine ⟨tp, v, ?_⟩
  rw [hv6]
  congr 1
  rw [← e]
 ·obtain ⟨tp, v, e⟩ := iface_of_trod Tryz.underlying224 hd5
  refine ⟨tp, v, ?_⟩
  rw [hv5]
  congr 1
  rw [← e]
/-! #### the wrap -/
theorem returnsInHanded_both {H : Type} {enc : TypeId × Value → H} {a : Assume} {C : Checked} {os : Os} {f : FuncId} {fn : Func} {s : ChangeSpec} {conds : List PathCond} {apart fresh handsOn again : Bool} {X : World → Array Value → Prop}
  (hX : ∀ (w w' : World) (args : Array Value), w.heap = w'.heap → X w args → X w' args)
  (own : ownKnob C.prog.godebug = none) (started : os.Started) (noInit : C.prog.inits.idxOf? f = none) (hfn : C.prog.funcs[f]? = some fn)
  (witness : ∃ (w : World) (tape : Tape) (i : Input), w.os = os ∧ (w.forCall tape i).Shaped C.prog ∧ i.vars = [] ∧ Input.okWide C.prog (w.forCall tape i) .any w.heap.size f i ∧
   ((s.pre enc C.prog fn conds apart (w.forCall tape i).memory i.args ∧ X (w.forCall tape i).memory i.args) ∧ sizedMet enc C.prog fn (OpenSpec.ofChange s) apart (w.forCall tape i).memory i.args) ∧ a.holds C.prog (lone (Frame.enter C.prog f i.args .normal) [] (w.forCall tape i)))
  (contract : ∀ (W : World) (base : Nat) (args : Array Value) (ds gs : List (DataW H)) (before : List MemPlace),
   (∀ (j : Nat) t v, fn.params[j]? = some t → args[j]? = some v → Value.okWide C.prog W .any base t v) →
   DataW.Whole enc C.prog fn.params.toList s.vars apart W args.toList ds gs before →
   (DataW.weightsEach C.prog (fn.params.toList ++ s.plain.varTypes C.prog) (ds ++ gs)).all (· ≤ reachBytes) = true → X W args →
   W.ShapedOpen C.prog →
   Calls C.prog f args W fun e W' => ∃ v, e = .returned v ∧ s.post enc C.prog fn apart fresh handsOn again W args v W') :
  ReturnsInHanded a C os f .any (fun w args => (s.pre enc C.prog fn conds apart w args ∧ X w args) ∧ sizedMet enc C.prog fn (OpenSpec.ofChange s) apart w args) (s.post enc C.prog fn apart fresh handsOn again) := by
 refine returnsInHanded_of_calls own started noInit witness ?_
 intro w tape i _ hsh _ hok hpre hholds
 obtain ⟨_, _, _, fn', hfn', _, _, _, _, hval⟩ := hok
 have e : fn' = fn := Option.some.inj (hfn'.symm.trans hfn)
 subst e
 obtain ⟨⟨⟨ds, gs, before, hw, hc⟩, hx⟩, hz⟩ := hpre
 have hw' := DataW.Whole.of_heap (w' := w.forCall tape i) (by rfl) hw
 refine (contract (w.forCall tape i) w.heap.size i.args ds gs before hval hw' (hz.weights hw) (hX _ _ _ (by rfl) hx) hsh).mono fun e W' ⟨v, he, hp⟩ => ?_
 subst he
 exact ChangeSpec.post_blind hp
end Go.Proofs.YthnpiimiimiijaaGreatDoor.PA
end
section
namespace Go.Proofs.YthnpiimiimiijaaGreatDoor.PA
open Go.ChangeShapes Go.WideShapes Go.ChangeAt Go.RowKit Go.Deep
open Go.Proofs.YthnpiimiimiijaaGreatDoorW.PrintWords Go.Proofs.YthnpiimiimiijaaGreatDoorW.PrintLast Go.Proofs.YthnpiimiimiijaaGreatDoorW.PrintMore
set_option linter.unusedVariables false
set_option maxRecDepth 100000
theorem cells34 : Tryz.prog.cellsOf 34 = 32 := by kernel_rfl
theorem cells5 : Tryz.prog.cellsOf 5 = 1 := by kernel_rfl
theorem cells46 : Tryz.prog.cellsOf 46 = 35 := by kernel_rfl
theorem cells43 : Tryz.prog.cellsOf 43 = 5 := by kernel_rfl
theorem cells9 : Tryz.prog.cellsOf 9 = 1 := by kernel_rfl
theorem cells40 : Tryz.prog.cellsOf 40 = 1 := by kernel_rfl
theorem cells41 : Tryz.prog.cellsOf 41 = 1 := by kernel_rfl
theorem bytes46 : Tryz.prog.bytesOf 46 = 56 := by kernel_rfl
theorem bytes34 : Tryz.prog.bytesOf 34 = 32 := by kernel_rfl
instance : Inhabited Dir.Key := ⟨Dir.key0⟩
section
variable {H : Type} {enc : TypeId × Value → H} {W : World} {base : Nat} {sp : Nat → Bool} {held : Bool}
theorem list_one (cs : List Value) (i : Nat) {u : Value} (h : (cs.drop i).take 1 = [u]) : cs[i]? = some u := by
 have := congrArg (fun l => l[0]?) h
 simpa using this
theorem key_of_trod {n : Nat} {cs : List Value} {x : DataW H × List MemPlace} (h : DataW.trod enc Tryz.prog W base sp held n 34 cs = some x) : ∃ k : Dir.Key, cs = Dir.encK k := by
 obtain ⟨xs, m, _, _, hl, hxl, hf⟩ := DataW.trod_array Tryz.underlying34 h
 rw [cells34] at hl
 have hb : ∀ i, i < 32 → ∃ b : UInt8, cs[i]? = some (Dir.byteV b) := fun i hi => by
  have g := hf i hi
  rw [cells5, List.getElem?_eq_getElem (by rw [hxl]; exact hi)] at g
  obtain ⟨z, e, _, f⟩ := DataW.trod_int Tryz.underlying5 g
  have hz := bounds_u8 f
  have hu := list_one cs _ e
  rw [Nat.mul_one] at hu
  refine ⟨UInt8.ofNat z.toNat, ?_⟩
  rw [hu]
  unfold Dir.byteV
  rw [UInt8.toNat_ofNat_of_lt' (by show z.toNat < 256; omega), Int.toNat_of_nonneg hz.1]
 obtain ⟨f, hf2⟩ := choose_lt (α := UInt8) (n := 32) hb
 refine ⟨⟨(List.range 32).map f, by simp⟩, ?_⟩
 refine List.ext_getElem? fun i => ?_
 show cs[i]? = (((List.range 32).map f).map Dir.byteV)[i]?
 by_cases hi : i < 32
 ·rw [hf2 i hi]
  simp [hi]
 ·rw [List.getElem?_eq_none (by omega), List.getElem?_eq_none (by simp; omega)]
theorem dev_of_trod {n : Nat} {cs : List Value} {x : DataW H × List MemPlace} (h : DataW.trod enc Tryz.prog W base sp held n 46 cs = some x) : ∃ d : Dir.Dev, cs = Dir.encD d := by
 obtain ⟨xs, m, _, _, hl, hxl, hf⟩ := DataW.trod_struct Tryz.underlying46 h
 rw [cells46] at hl
 have hs : ∀ i, i < 4 → xs[i]? = some (xs.getD i (.nil, [])) := fun i hi => by
  rw [List.getElem?_eq_getElem (by rw [hxl]; exact hi), List.getD_eq_getElem?_getD, List.getElem?_eq_getElem (by rw [hxl]; exact hi)]; rfl
 have g0 : DataW.trod enc Tryz.prog W base sp held m 3 ((cs.drop 0).take (Tryz.prog.cellsOf 3)) = some (xs.getD 0 (.nil, [])) := (hf 0 _ rfl).trans (hs 0 (by omega))
 have g1 : DataW.trod enc Tryz.prog W base sp held m 34 ((cs.drop 1).take (Tryz.prog.cellsOf 34)) = some (xs.getD 1 (.nil, [])) := (hf 1 _ rfl).trans (hs 1 (by omega))
 have g2 : DataW.trod enc Tryz.prog W base sp held m 3 ((cs.drop 33).take (Tryz.prog.cellsOf 3)) = some (xs.getD 2 (.nil, [])) := (hf 2 _ rfl).trans (hs 2 (by omega))
 have g3 : DataW.trod enc Tryz.prog W base sp held m 4 ((cs.drop 34).take (Tryz.prog.cellsOf 4)) = some (xs.getD 3 (.nil, [])) := (hf 3 _ rfl).trans (hs 3 (by omega))
 rw [cells3] at g0 g2
 rw [cells4] at g3
 rw [cells34] at g1
 obtain ⟨z0, e0, _, _⟩ := DataW.trod_int Tryz.underlying3 g0
 obtain ⟨k, e1⟩ := key_of_trod g1
 obtain ⟨z2, e2, _, _⟩ := DataW.trod_int Tryz.underlying3 g2
 obtain ⟨b3, e3, _⟩ := DataW.trod_bool Tryz.underlying4 g3
 refine ⟨⟨z0, k, z2, b3⟩, ?_⟩
 have hc : cs = (cs.drop 0).take 1 ++ (cs.drop 1).take 32 ++ (cs.drop 33).take 1 ++ (cs.drop 34).take 1 := by
  refine List.ext_getElem? fun i => ?_
  simp only [List.drop_zero]
  rw [List.append_assoc, List.append_assoc]
  have hdrop : (cs.drop 34).take 1 = cs.drop 34 := List.take_of_length_le (by rw [List.length_drop]; omega)
  rw [hdrop, ← List.drop_drop (i := 1) (j := 33), List.take_append_drop, ← List.drop_drop (i := 32) (j := 1), List.take_append_drop, List.take_append_drop]
 rw [hc, e0, e1, e2, e3]
 show _ = Value.int .i64 z0 :: (Dir.encK k ++ [Value.int .i64 z2, Value.bool b3])
 simp
/-- A row of things, whose cells are known. -/
def RowOf {α : Type} (f : α → List Value) (Pr : α → Prop) (ts k by_ : Nat) (W : World) (cs : List Value) (x : DataW H × List MemPlace) : Prop :=
 ∃ (a : Option Addr) (len cap : Nat) (l : List α), cs = [.slice a len cap] ∧ l.length = len ∧ Dir.SrcAt W a len k (l.flatMap f) ∧ (∀ d ∈ l, Pr d) ∧ len ≤ maxLen ∧ ((∀ n ∈ x.1.weights Tryz.prog ts, n ≤ reachBytes) → len * by_ ≤ 140737488351232)
/-- A slice whose elements are cells that are known. -/
theorem rows_of_trod {α : Type} [Inhabited α] (f : α → List Value) (Pr : α → Prop) {ts te k by_ : Nat} (hk : ∀ x, (f x).length = k) (ht : Tryz.prog.underlying ts = some (.slice te)) (hc : Tryz.prog.cellsOf te = k) (hby : Tryz.prog.bytesOf te = by_)
  (hel : ∀ {n : Nat} {cs : List Value} {x : DataW H × List MemPlace}, DataW.trod enc Tryz.prog W base sp held n te cs = some x → ∃ d : α, cs = f d ∧ Pr d)
  {n : Nat} {cs : List Value} {x : DataW H × List MemPlace} (h : DataW.trod enc Tryz.prog W base sp held n ts cs = some x) :
  RowOf f Pr ts k by_ W cs x := by
 rcases DataW.trod_slice ht h with ⟨hcs, _⟩ | ⟨ad, len, cap, elems, rest, m, _, hcs, hxe, _, hlc, hcm, hle, hx, _, _⟩
 ·exact ⟨none, 0, 0, [], hcs, rfl, ⟨by simp, fun _ => rfl, fun a ha => (by cases ha)⟩, by simp, Nat.zero_le _, fun _ => by simp⟩
 ·obtain ⟨S, hS⟩ := choose_lt (α := α) (n := len) (p := fun i d => (∀ j u, (f d)[j]? = some u → W.cell? (ad.add (i * k + j)) = some u) ∧ Pr d) (fun i hi => by
   have hxi := hx i hi
   rw [List.getElem?_eq_getElem (by rw [hle]; exact hi), hc] at hxi
   obtain ⟨cs', h1, h2⟩ := Option.bind_eq_some_iff.1 hxi
   obtain ⟨d, rfl, hp⟩ := hel h2
   obtain ⟨_, _, hcell⟩ := World.cells?_some h1
   refine ⟨d, fun j u hj => ?_, hp⟩
   have hj5 : j < k := by rw [← hk d]; exact (List.getElem?_eq_some_iff.1 hj).1
   have := hcell j hj5
   rw [Deep.add_add] at this
   exact this.trans hj)
  have hlen : ((List.range len).map S).length = len := by simp
  have hflat : ∀ l : List α, (l.flatMap f).length = l.length * k := fun l => by
   induction l with
   | nil => simp
   | cons a l ih => rw [List.flatMap_cons, List.length_append, hk, ih, List.length_cons, Nat.add_mul]; omega
  refine ⟨some ad, len, cap, (List.range len).map S, hcs, hlen, ⟨by rw [hflat, hlen], fun e => (by cases e), fun a ha j u hj => ?_⟩, fun d hd => ?_, by omega, fun hw => ?_⟩
  ·cases ha
   have hjl : j < len * k := by have := (List.getElem?_eq_some_iff.1 hj).1; rwa [hflat, hlen] at this
   have hkp : 0 < k := by rcases Nat.eq_zero_or_pos k with e | e; (subst e; omega); exact e
   have hq : j / k < len := Nat.div_lt_of_lt_mul (by rw [Nat.mul_comm]; exact hjl)
   have hr : j % k < k := Nat.mod_lt _ hkp
   have e1 := (hS (j / k) hq).1 (j % k) ((f (S (j / k)))[j % k]'(by rw [hk]; exact hr)) (List.getElem?_eq_getElem _)
   have e2 : ((List.range len).map S)[j / k]? = some (S (j / k)) := by simp [hq]
   have e3 := Dir.flatMap_at f k hk _ (j / k) (S (j / k)) e2 (j % k) _ (List.getElem?_eq_getElem (by rw [hk]; exact hr))
   rw [Nat.div_add_mod' j k] at e1 e3
   rw [e1]
   rw [e3] at hj
   exact hj
  ·obtain ⟨i, hi, rfl⟩ := List.mem_map.1 hd
   exact (hS i (by simpa using hi)).2
  ·have h1 := hw ((elems.length + rest.length) * by_) (by rw [hxe]; simp [DataW.weights, ht, hby])
   have h2 : len * by_ ≤ (elems.length + rest.length) * by_ := Nat.mul_le_mul_right _ (by omega)
   exact Nat.le_trans h2 h1
theorem devs_of_trod {n : Nat} {cs : List Value} {x : DataW H × List MemPlace} (h : DataW.trod enc Tryz.prog W base sp held n 40 cs = some x) : RowOf Dir.encD (fun _ => True) 40 35 56 W cs x :=
 rows_of_trod (α := Dir.Dev) Dir.encD (fun _ => True) (by_ := 56) Dir.encD_len Tryz.underlying40 cells46 bytes46 (fun h => by obtain ⟨d, hd⟩ := dev_of_trod h; exact ⟨d, hd, trivial⟩) h
theorem keys_of_trod {n : Nat} {cs : List Value} {x : DataW H × List MemPlace} (h : DataW.trod enc Tryz.prog W base sp held n 41 cs = some x) : RowOf Dir.encK (fun _ => True) 41 32 32 W cs x :=
 rows_of_trod (α := Dir.Key) Dir.encK (fun _ => True) (by_ := 32) Dir.encK_len Tryz.underlying41 cells34 bytes34 (fun h => by obtain ⟨d, hd⟩ := key_of_trod h; exact ⟨d, hd, trivial⟩) h
/-- A book, out of an argument. -/
theorem book_of_trod {n : Nat} {cs : List Value} {x : DataW H × List MemPlace} (h : DataW.trod enc Tryz.prog W base sp held n 43 cs = some x) (hw : ∀ n ∈ x.1.weights Tryz.prog 43, n ≤ reachBytes) :
  ∃ (B : Dir.Book) (A1 : Option Addr) (c1 : Nat) (A2 : Option Addr) (c2 : Nat), cs = Dir.bookCells B A1 c1 A2 c2 ∧ Dir.SrcB W B A1 A2 ∧ B.devs.length * 56 ≤ 140737488351232 ∧ B.spent.length * 32 ≤ 140737488351232 := by
 obtain ⟨xs, m, _, hxe, hl, hxl, hf⟩ := DataW.trod_struct Tryz.underlying43 h
 rw [cells43] at hl
 have hs : ∀ i, i < 5 → xs[i]? = some (xs.getD i (.nil, [])) := fun i hi => by
  rw [List.getElem?_eq_getElem (by rw [hxl]; exact hi), List.getD_eq_getElem?_getD, List.getElem?_eq_getElem (by rw [hxl]; exact hi)]; rfl
 have g0 : DataW.trod enc Tryz.prog W base sp held m 3 ((cs.drop 0).take (Tryz.prog.cellsOf 3)) = some (xs.getD 0 (.nil, [])) := (hf 0 _ rfl).trans (hs 0 (by omega))
 have g1 : DataW.trod enc Tryz.prog W base sp held m 3 ((cs.drop 1).take (Tryz.prog.cellsOf 3)) = some (xs.getD 1 (.nil, [])) := (hf 1 _ rfl).trans (hs 1 (by omega))
 have g2 : DataW.trod enc Tryz.prog W base sp held m 40 ((cs.drop 2).take (Tryz.prog.cellsOf 40)) = some (xs.getD 2 (.nil, [])) := (hf 2 _ rfl).trans (hs 2 (by omega))
 have g3 : DataW.trod enc Tryz.prog W base sp held m 41 ((cs.drop 3).take (Tryz.prog.cellsOf 41)) = some (xs.getD 3 (.nil, [])) := (hf 3 _ rfl).trans (hs 3 (by omega))
 have g4 : DataW.trod enc Tryz.prog W base sp held m 9 ((cs.drop 4).take (Tryz.prog.cellsOf 9)) = some (xs.getD 4 (.nil, [])) := (hf 4 _ rfl).trans (hs 4 (by omega))
 rw [cells3] at g0 g1
 rw [cells40] at g2
 rw [cells41] at g3
 rw [cells9] at g4
 obtain ⟨z0, e0, _, _⟩ := DataW.trod_int Tryz.underlying3 g0
 obtain ⟨z1, e1, _, _⟩ := DataW.trod_int Tryz.underlying3 g1
 obtain ⟨A1, n1, c1, l1, e2, hn1, hs1, _, hm1, hz1⟩ := devs_of_trod g2
 obtain ⟨A2, n2, c2, l2, e3, hn2, hs2, _, hm2, hz2⟩ := keys_of_trod g3
 obtain ⟨s4, e4, _, _⟩ := DataW.trod_string Tryz.underlying9 g4
 subst hn1
 subst hn2
 have hwe : ∀ i T, (([3, 3, 40, 41, 9] : List TypeId)[i]? = some T) → i < 5 → ∀ n ∈ (xs.getD i (.nil, [])).1.weights Tryz.prog T, n ≤ reachBytes := fun i T hT hi n hn => by
  refine hw n ?_
  have hmem := DataW.weights_mem_each (P := Tryz.prog) (ts := [3, 3, 40, 41, 9]) (ds := xs.map (·.1)) (j := i) hT (by rw [List.getElem?_map, hs i hi]; rfl) n hn
  rw [hxe]
  simp only [DataW.weights, Tryz.underlying43]
  exact hmem
 have f1 := hz1 (hwe 2 40 rfl (by omega))
 have f2 := hz2 (hwe 3 41 rfl (by omega))
 refine ⟨⟨z0, z1, l1, l2, s4.data.toList⟩, A1, c1, A2, c2, ?_, ⟨hs1, hs2, by show l1.length ≤ _; omega, by show l2.length ≤ _; omega⟩, f1, f2⟩
 match cs, hl with
 | [a, b, c, d, e], _ =>
  simp at e0 e1 e2 e3 e4
  subst e0 e1 e2 e3 e4
  rfl
end
end Go.Proofs.YthnpiimiimiijaaGreatDoor.PA
end
section
namespace Go.Proofs.YthnpiimiimiijaaGreatDoor.PA
open Go.ChangeShapes Go.WideShapes Go.ChangeAt Go.RowKit Go.Deep
open Go.Proofs.YthnpiimiimiijaaGreatDoorW.PrintWords Go.Proofs.YthnpiimiimiijaaGreatDoorW.PrintLast Go.Proofs.YthnpiimiimiijaaGreatDoorW.PrintMore
set_option linter.unusedVariables false
set_option maxRecDepth 100000
theorem okWide_arr {P : Program} {w : World} {r : Reach} {base : Nat} {t e : TypeId} {n : Nat} {v : Value} (ht : P.underlying t = some (.array n e)) (h : Value.okWide P w r base t v) : ∃ cs, v = .agg cs ∧ cs.size = P.cellsOf t := by
 simp only [Value.okWide, ht] at h
 obtain ⟨cs, h1, h2, _⟩ := h
 exact ⟨cs, h1, h2⟩
section
variable {H : Type} {enc : TypeId × Value → H} {W : World} {base : Nat} {sp : Nat → Bool} {held : Bool}
theorem open_key {r : Reach} {w : World} {b0 : Nat} {v : Value} {d : DataW H} {q : List MemPlace} (hw : Value.okWide Tryz.prog w r b0 34 v) (h : DataW.Trod enc Tryz.prog W base sp held 34 v d q) : ∃ k : Dir.Key, v = .agg (Dir.encK k).toArray := by
 obtain ⟨cs, rfl, _⟩ := okWide_arr Tryz.underlying34 hw
 obtain ⟨n, hn⟩ := h
 obtain ⟨k, hk⟩ := key_of_trod hn
 refine ⟨k, ?_⟩
 have : cs.toList = Dir.encK k := by simpa [Value.cells] using hk
 rw [← this]
end
end Go.Proofs.YthnpiimiimiijaaGreatDoor.PA
end
