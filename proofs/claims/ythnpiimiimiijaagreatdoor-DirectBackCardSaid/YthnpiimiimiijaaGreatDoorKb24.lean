/- What arguments read as: books, and rows of ops. What arguments read as: keys by value, rows of bytes. -/
import Derived.Test.YthnpiimiimiijaaGreatDoorKb23
import Derived.Test.YthnpiimiimiijaaGreatDoorKb18
section
namespace Go.Proofs.YthnpiimiimiijaaGreatDoor.PA
open Go.ChangeShapes Go.WideShapes Go.ChangeAt Go.RowKit Go.Deep
open Go.Proofs.YthnpiimiimiijaaGreatDoorW.PrintWords Go.Proofs.YthnpiimiimiijaaGreatDoorW.PrintLast Go.Proofs.YthnpiimiimiijaaGreatDoorW.PrintMore
set_option linter.unusedVariables false
set_option maxRecDepth 100000
theorem cells34 : Tryz.prog.cellsOf 34 = 32 := by kernel_rfl
theorem cells5 : Tryz.prog.cellsOf 5 = 1 := by kernel_rfl
theorem cells46 : Tryz.prog.cellsOf 46 = 35 := by kernel_rfl
theorem cells43 : Tryz.prog.cellsOf 43 = 5 := by kernel_rfl
theorem cells9 : Tryz.prog.cellsOf 9 = 1 := by kernel_rfl
theorem cells40 : Tryz.prog.cellsOf 40 = 1 := by kernel_rfl
theorem cells41 : Tryz.prog.cellsOf 41 = 1 := by kernel_rfl
theorem bytes46 : Tryz.prog.bytesOf 46 = 56 := by kernel_rfl
theorem bytes34 : Tryz.prog.bytesOf 34 = 32 := by kernel_rfl
instance : Inhabited Dir.Key := ⟨Dir.key0⟩
section
variable {H : Type} {enc : TypeId × Value → H} {W : World} {base : Nat} {sp : Nat → Bool} {held : Bool}
theorem list_one (cs : List Value) (i : Nat) {u : Value} (h : (cs.drop i).take 1 = [u]) : cs[i]? = some u := by
 have := congrArg (fun l => l[0]?) h
 simpa using this
theorem key_of_trod {n : Nat} {cs : List Value} {x : DataW H × List MemPlace} (h : DataW.trod enc Tryz.prog W base sp held n 34 cs = some x) : ∃ k : Dir.Key, cs = Dir.encK k := by
 obtain ⟨xs, m, _, _, hl, hxl, hf⟩ := DataW.trod_array Tryz.underlying34 h
 rw [cells34] at hl
 have hb : ∀ i, i < 32 → ∃ b : UInt8, cs[i]? = some (Dir.byteV b) := fun i hi => by
  have g := hf i hi
  rw [cells5, List.getElem?_eq_getElem (by rw [hxl]; exact hi)] at g
  obtain ⟨z, e, _, f⟩ := DataW.trod_int Tryz.underlying5 g
  have hz := bounds_u8 f
  have hu := list_one cs _ e
  rw [Nat.mul_one] at hu
  refine ⟨UInt8.ofNat z.toNat, ?_⟩
  rw [hu]
  unfold Dir.byteV
  rw [UInt8.toNat_ofNat_of_lt' (by show z.toNat < 256; omega), Int.toNat_of_nonneg hz.1]
 obtain ⟨f, hf2⟩ := choose_lt (α := UInt8) (n := 32) hb
 refine ⟨⟨(List.range 32).map f, by simp⟩, ?_⟩
 refine List.ext_getElem? fun i => ?_
 show cs[i]? = (((List.range 32).map f).map Dir.byteV)[i]?
 by_cases hi : i < 32
 ·rw [hf2 i hi]
  simp [hi]
 ·rw [List.getElem?_eq_none (by omega), List.getElem?_eq_none (by simp; omega)]
theorem dev_of_trod {n : Nat} {cs : List Value} {x : DataW H × List MemPlace} (h : DataW.trod enc Tryz.prog W base sp held n 46 cs = some x) : ∃ d : Dir.Dev, cs = Dir.encD d := by
 obtain ⟨xs, m, _, _, hl, hxl, hf⟩ := DataW.trod_struct Tryz.underlying46 h
 rw [cells46] at hl
 have hs : ∀ i, i < 4 → xs[i]? = some (xs.getD i (.nil, [])) := fun i hi => by
  rw [List.getElem?_eq_getElem (by rw [hxl]; exact hi), List.getD_eq_getElem?_getD, List.getElem?_eq_getElem (by rw [hxl]; exact hi)]; rfl
 have g0 : DataW.trod enc Tryz.prog W base sp held m 3 ((cs.drop 0).take (Tryz.prog.cellsOf 3)) = some (xs.getD 0 (.nil, [])) := (hf 0 _ rfl).trans (hs 0 (by omega))
 have g1 : DataW.trod enc Tryz.prog W base sp held m 34 ((cs.drop 1).take (Tryz.prog.cellsOf 34)) = some (xs.getD 1 (.nil, [])) := (hf 1 _ rfl).trans (hs 1 (by omega))
 have g2 : DataW.trod enc Tryz.prog W base sp held m 3 ((cs.drop 33).take (Tryz.prog.cellsOf 3)) = some (xs.getD 2 (.nil, [])) := (hf 2 _ rfl).trans (hs 2 (by omega))
 have g3 : DataW.trod enc Tryz.prog W base sp held m 4 ((cs.drop 34).take (Tryz.prog.cellsOf 4)) = some (xs.getD 3 (.nil, [])) := (hf 3 _ rfl).trans (hs 3 (by omega))
 rw [cells3] at g0 g2
 rw [cells4] at g3
 rw [cells34] at g1
 obtain ⟨z0, e0, _, _⟩ := DataW.trod_int Tryz.underlying3 g0
 obtain ⟨k, e1⟩ := key_of_trod g1
 obtain ⟨z2, e2, _, _⟩ := DataW.trod_int Tryz.underlying3 g2
 obtain ⟨b3, e3, _⟩ := DataW.trod_bool Tryz.underlying4 g3
 refine ⟨⟨z0, k, z2, b3⟩, ?_⟩
 have hc : cs = (cs.drop 0).take 1 ++ (cs.drop 1).take 32 ++ (cs.drop 33).take 1 ++ (cs.drop 34).take 1 := by
  refine List.ext_getElem? fun i => ?_
  simp only [List.drop_zero]
  rw [List.append_assoc, List.append_assoc]
  have hdrop : (cs.drop 34).take 1 = cs.drop 34 := List.take_of_length_le (by rw [List.length_drop]; omega)
  rw [hdrop, ← List.drop_drop (i := 1) (j := 33), List.take_append_drop, ← List.drop_drop (i := 32) (j := 1), List.take_append_drop, List.take_append_drop]
 rw [hc, e0, e1, e2, e3]
 show _ = Value.int .i64 z0 :: (Dir.encK k ++ [Value.int .i64 z2, Value.bool b3])
 simp
/-- A row of things, whose cells are known. -/
def RowOf {α : Type} (f : α → List Value) (Pr : α → Prop) (ts k by_ : Nat) (W : World) (cs : List Value) (x : DataW H × List MemPlace) : Prop :=
 ∃ (a : Option Addr) (len cap : Nat) (l : List α), cs = [.slice a len cap] ∧ l.length = len ∧ Dir.SrcAt W a len k (l.flatMap f) ∧ (∀ d ∈ l, Pr d) ∧ len ≤ maxLen ∧ ((∀ n ∈ x.1.weights Tryz.prog ts, n ≤ reachBytes) → len * by_ ≤ 140737488351232)
/-- A slice whose elements are cells that are known. -/
theorem rows_of_trod {α : Type} [Inhabited α] (f : α → List Value) (Pr : α → Prop) {ts te k by_ : Nat} (hk : ∀ x, (f x).length = k) (ht : Tryz.prog.underlying ts = some (.slice te)) (hc : Tryz.prog.cellsOf te = k) (hby : Tryz.prog.bytesOf te = by_)
  (hel : ∀ {n : Nat} {cs : List Value} {x : DataW H × List MemPlace}, DataW.trod enc Tryz.prog W base sp held n te cs = some x → ∃ d : α, cs = f d ∧ Pr d)
  {n : Nat} {cs : List Value} {x : DataW H × List MemPlace} (h : DataW.trod enc Tryz.prog W base sp held n ts cs = some x) :
  RowOf f Pr ts k by_ W cs x := by
 rcases DataW.trod_slice ht h with ⟨hcs, _⟩ | ⟨ad, len, cap, elems, rest, m, _, hcs, hxe, _, hlc, hcm, hle, hx, _, _⟩
 ·exact ⟨none, 0, 0, [], hcs, rfl, ⟨by simp, fun _ => rfl, fun a ha => (by cases ha)⟩, by simp, Nat.zero_le _, fun _ => by simp⟩
 ·obtain ⟨S, hS⟩ := choose_lt (α := α) (n := len) (p := fun i d => (∀ j u, (f d)[j]? = some u → W.cell? (ad.add (i * k + j)) = some u) ∧ Pr d) (fun i hi => by
   have hxi := hx i hi
   rw [List.getElem?_eq_getElem (by rw [hle]; exact hi), hc] at hxi
   obtain ⟨cs', h1, h2⟩ := Option.bind_eq_some_iff.1 hxi
   obtain ⟨d, rfl, hp⟩ := hel h2
   obtain ⟨_, _, hcell⟩ := World.cells?_some h1
   refine ⟨d, fun j u hj => ?_, hp⟩
   have hj5 : j < k := by rw [← hk d]; exact (List.getElem?_eq_some_iff.1 hj).1
   have := hcell j hj5
   rw [Deep.add_add] at this
   exact this.trans hj)
  have hlen : ((List.range len).map S).length = len := by simp
  have hflat : ∀ l : List α, (l.flatMap f).length = l.length * k := fun l => by
   induction l with
   | nil => simp
   | cons a l ih => rw [List.flatMap_cons, List.length_append, hk, ih, List.length_cons, Nat.add_mul]; omega
  refine ⟨some ad, len, cap, (List.range len).map S, hcs, hlen, ⟨by rw [hflat, hlen], fun e => (by cases e), fun a ha j u hj => ?_⟩, fun d hd => ?_, by omega, fun hw => ?_⟩
  ·cases ha
   have hjl : j < len * k := by have := (List.getElem?_eq_some_iff.1 hj).1; rwa [hflat, hlen] at this
   have hkp : 0 < k := by rcases Nat.eq_zero_or_pos k with e | e; (subst e; omega); exact e
   have hq : j / k < len := Nat.div_lt_of_lt_mul (by rw [Nat.mul_comm]; exact hjl)
   have hr : j % k < k := Nat.mod_lt _ hkp
   have e1 := (hS (j / k) hq).1 (j % k) ((f (S (j / k)))[j % k]'(by rw [hk]; exact hr)) (List.getElem?_eq_getElem _)
   have e2 : ((List.range len).map S)[j / k]? = some (S (j / k)) := by simp [hq]
   have e3 := Dir.flatMap_at f k hk _ (j / k) (S (j / k)) e2 (j % k) _ (List.getElem?_eq_getElem (by rw [hk]; exact hr))
   rw [Nat.div_add_mod' j k] at e1 e3
   rw [e1]
   rw [e3] at hj
   exact hj
  ·obtain ⟨i, hi, rfl⟩ := List.mem_map.1 hd
   exact (hS i (by simpa using hi)).2
  ·have h1 := hw ((elems.length + rest.length) * by_) (by rw [hxe]; simp [DataW.weights, ht, hby])
   have h2 : len * by_ ≤ (elems.length + rest.length) * by_ := Nat.mul_le_mul_right _ (by omega)
   exact Nat.le_trans h2 h1
theorem devs_of_trod {n : Nat} {cs : List Value} {x : DataW H × List MemPlace} (h : DataW.trod enc Tryz.prog W base sp held n 40 cs = some x) : RowOf Dir.encD (fun _ => True) 40 35 56 W cs x :=
 rows_of_trod (α := Dir.Dev) Dir.encD (fun _ => True) (by_ := 56) Dir.encD_len Tryz.underlying40 cells46 bytes46 (fun h => by obtain ⟨d, hd⟩ := dev_of_trod h; exact ⟨d, hd, trivial⟩) h
theorem keys_of_trod {n : Nat} {cs : List Value} {x : DataW H × List MemPlace} (h : DataW.trod enc Tryz.prog W base sp held n 41 cs = some x) : RowOf Dir.encK (fun _ => True) 41 32 32 W cs x :=
 rows_of_trod (α := Dir.Key) Dir.encK (fun _ => True) (by_ := 32) Dir.encK_len Tryz.underlying41 cells34 bytes34 (fun h => by obtain ⟨d, hd⟩ := key_of_trod h; exact ⟨d, hd, trivial⟩) h
/-- A book, out of an argument. -/
theorem book_of_trod {n : Nat} {cs : List Value} {x : DataW H × List MemPlace} (h : DataW.trod enc Tryz.prog W base sp held n 43 cs = some x) (hw : ∀ n ∈ x.1.weights Tryz.prog 43, n ≤ reachBytes) :
  ∃ (B : Dir.Book) (A1 : Option Addr) (c1 : Nat) (A2 : Option Addr) (c2 : Nat), cs = Dir.bookCells B A1 c1 A2 c2 ∧ Dir.SrcB W B A1 A2 ∧ B.devs.length * 56 ≤ 140737488351232 ∧ B.spent.length * 32 ≤ 140737488351232 := by
 obtain ⟨xs, m, _, hxe, hl, hxl, hf⟩ := DataW.trod_struct Tryz.underlying43 h
 rw [cells43] at hl
 have hs : ∀ i, i < 5 → xs[i]? = some (xs.getD i (.nil, [])) := fun i hi => by
  rw [List.getElem?_eq_getElem (by rw [hxl]; exact hi), List.getD_eq_getElem?_getD, List.getElem?_eq_getElem (by rw [hxl]; exact hi)]; rfl
 have g0 : DataW.trod enc Tryz.prog W base sp held m 3 ((cs.drop 0).take (Tryz.prog.cellsOf 3)) = some (xs.getD 0 (.nil, [])) := (hf 0 _ rfl).trans (hs 0 (by omega))
 have g1 : DataW.trod enc Tryz.prog W base sp held m 3 ((cs.drop 1).take (Tryz.prog.cellsOf 3)) = some (xs.getD 1 (.nil, [])) := (hf 1 _ rfl).trans (hs 1 (by omega))
 have g2 : DataW.trod enc Tryz.prog W base sp held m 40 ((cs.drop 2).take (Tryz.prog.cellsOf 40)) = some (xs.getD 2 (.nil, [])) := (hf 2 _ rfl).trans (hs 2 (by omega))
 have g3 : DataW.trod enc Tryz.prog W base sp held m 41 ((cs.drop 3).take (Tryz.prog.cellsOf 41)) = some (xs.getD 3 (.nil, [])) := (hf 3 _ rfl).trans (hs 3 (by omega))
 have g4 : DataW.trod enc Tryz.prog W base sp held m 9 ((cs.drop 4).take (Tryz.prog.cellsOf 9)) = some (xs.getD 4 (.nil, [])) := (hf 4 _ rfl).trans (hs 4 (by omega))
 rw [cells3] at g0 g1
 rw [cells40] at g2
 rw [cells41] at g3
 rw [cells9] at g4
 obtain ⟨z0, e0, _, _⟩ := DataW.trod_int Tryz.underlying3 g0
 obtain ⟨z1, e1, _, _⟩ := DataW.trod_int Tryz.underlying3 g1
 obtain ⟨A1, n1, c1, l1, e2, hn1, hs1, _, hm1, hz1⟩ := devs_of_trod g2
 obtain ⟨A2, n2, c2, l2, e3, hn2, hs2, _, hm2, hz2⟩ := keys_of_trod g3
 obtain ⟨s4, e4, _, _⟩ := DataW.trod_string Tryz.underlying9 g4
 subst hn1
 subst hn2
 have hwe : ∀ i T, (([3, 3, 40, 41, 9] : List TypeId)[i]? = some T) → i < 5 → ∀ n ∈ (xs.getD i (.nil, [])).1.weights Tryz.prog T, n ≤ reachBytes := fun i T hT hi n hn => by
  refine hw n ?_
  have hmem := DataW.weights_mem_each (P := Tryz.prog) (ts := [3, 3, 40, 41, 9]) (ds := xs.map (·.1)) (j := i) hT (by rw [List.getElem?_map, hs i hi]; rfl) n hn
  rw [hxe]
  simp only [DataW.weights, Tryz.underlying43]
  exact hmem
 have f1 := hz1 (hwe 2 40 rfl (by omega))
 have f2 := hz2 (hwe 3 41 rfl (by omega))
 refine ⟨⟨z0, z1, l1, l2, s4.data.toList⟩, A1, c1, A2, c2, ?_, ⟨hs1, hs2, by show l1.length ≤ _; omega, by show l2.length ≤ _; omega⟩, f1, f2⟩
 match cs, hl with
 | [a, b, c, d, e], _ =>
  simp at e0 e1 e2 e3 e4
  subst e0 e1 e2 e3 e4
  rfl
end
end Go.Proofs.YthnpiimiimiijaaGreatDoor.PA
end
section
namespace Go.Proofs.YthnpiimiimiijaaGreatDoor.PA
open Go.ChangeShapes Go.WideShapes Go.ChangeAt Go.RowKit Go.Deep
open Go.Proofs.YthnpiimiimiijaaGreatDoorW.PrintWords Go.Proofs.YthnpiimiimiijaaGreatDoorW.PrintLast Go.Proofs.YthnpiimiimiijaaGreatDoorW.PrintMore
set_option linter.unusedVariables false
set_option maxRecDepth 100000
theorem bytes5 : Tryz.prog.bytesOf 5 = 1 := by kernel_rfl
section
variable {H : Type} {enc : TypeId × Value → H} {W : World} {base : Nat} {sp : Nat → Bool} {held : Bool}
theorem byte_of_trod {n : Nat} {cs : List Value} {x : DataW H × List MemPlace} (h : DataW.trod enc Tryz.prog W base sp held n 5 cs = some x) : ∃ b : UInt8, cs = [Dir.byteV b] := by
 obtain ⟨z, e, _, f⟩ := DataW.trod_int Tryz.underlying5 h
 have hz := bounds_u8 f
 refine ⟨UInt8.ofNat z.toNat, ?_⟩
 rw [e]
 unfold Dir.byteV
 rw [UInt8.toNat_ofNat_of_lt' (by show z.toNat < 256; omega), Int.toNat_of_nonneg hz.1]
theorem flat_byte (l : List UInt8) : l.flatMap (fun b => [Dir.byteV b]) = l.map Dir.byteV := by
 induction l with
 | nil => rfl
 | cons b l ih => rw [List.flatMap_cons, ih]; rfl
theorem bytes_of_trod {n : Nat} {cs : List Value} {x : DataW H × List MemPlace} (h : DataW.trod enc Tryz.prog W base sp held n 67 cs = some x) :
  ∃ (a : Option Addr) (len cap : Nat) (l : List UInt8), cs = [.slice a len cap] ∧ l.length = len ∧ Dir.SrcAt W a len 1 (l.map Dir.byteV) ∧ len ≤ maxLen ∧ ((∀ n ∈ x.1.weights Tryz.prog 67, n ≤ reachBytes) → len * 1 ≤ 140737488351232) := by
 obtain ⟨a, len, cap, l, h1, h2, h3, -, h4, h5⟩ := rows_of_trod (α := UInt8) (fun b => [Dir.byteV b]) (fun _ => True) (k := 1) (by_ := 1) (fun _ => rfl) Tryz.underlying67 cells5 bytes5 (fun h => by obtain ⟨d, hd⟩ := byte_of_trod h; exact ⟨d, hd, trivial⟩) h
 refine ⟨a, len, cap, l, h1, h2, ?_, h4, h5⟩
 rw [← flat_byte l]
 exact h3
end
end Go.Proofs.YthnpiimiimiijaaGreatDoor.PA
end
