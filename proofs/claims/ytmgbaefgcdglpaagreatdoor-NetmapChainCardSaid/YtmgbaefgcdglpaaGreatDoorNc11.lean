/- The directory in plain words: keys, devices, books, ops; what Apply and Valid do. The directory's small functions: number, compare, the two literals. Books in memory: the clones of their lists, a book of the call's own, and where a directory's book lies. What an op does to a book keeps what holds of all books. Where a directory lies; New and Book. slices.BinarySearchFunc at devices and at keys; at -/
import Derived.Lib.Bytealg
import Derived.WalkKit
import Derived.Laws.CopyOwn
import Derived.Lib.AppendZerosOnto
import Derived.Lib.Overlaps
import Derived.Laws.AppendOwn
import Derived.Below
import Derived.Test.YtmgbaefgcdglpaaGreatDoorProg
import Derived.ChangeKeysEq
import Derived.Shelf.SlicesE.Kit
import Derived.KernelRfl
import Derived.Deep.WholeRow
import Derived.Laws.Externs
import Derived.Test.YtmgbaefgcdglpaaGreatDoorNc2
import Derived.Test.YtmgbaefgcdglpaaGreatDoorNc0
import Derived.Test.YtmgbaefgcdglpaaGreatDoorNc5
import Derived.Test.YtmgbaefgcdglpaaGreatDoorNc6
import Derived.Test.YtmgbaefgcdglpaaGreatDoorNc1
import Derived.Test.YtmgbaefgcdglpaaGreatDoorNc7
import Derived.Test.YtmgbaefgcdglpaaGreatDoorNc3
import Derived.Test.YtmgbaefgcdglpaaGreatDoorNc9
import Derived.Test.YtmgbaefgcdglpaaGreatDoorNc8
import Derived.Test.YtmgbaefgcdglpaaGreatDoorNc10
import Derived.Test.YtmgbaefgcdglpaaGreatDoorNc4
import Derived.SizedLaws
import Derived.ChangeSlices
import Derived.WalkLawsBesides
import Derived.BigQuiet
import Derived.Lib.Hide
import Derived.Lib.SliceRun
import Derived.OwnWalk
import Derived.Laws.OwnMore
import Derived.WideLaws
import Derived.Deep.LoopGhost
import Derived.Deep.RegionLaw
import Derived.BigRegion
section
namespace Go.Proofs.YtmgbaefgcdglpaaGreatDoor.Dir
abbrev Key := { l : List UInt8 // l.length = 32 }
def key0 : Key := ⟨List.replicate 32 0, by simp⟩
instance : Inhabited Key := ⟨key0⟩
def cmpK (a b : Key) : Int := Lib.compareBytes a.1 b.1
def ltK (a b : Key) : Bool := decide (cmpK a b < 0)
def byteV (b : UInt8) : Value := .int .u8 (b.toNat : Int)
def encK (k : Key) : List Value := k.1.map byteV
theorem encK_len (k : Key) : (encK k).length = 32 := by simp [encK, k.2]
theorem encK_one (k : Key) : ∀ v ∈ encK k, v.oneCell' = true := by
 intro v hv
 obtain ⟨b, -, rfl⟩ := List.mem_map.1 hv
 rfl
theorem cmpB_self : ∀ (a : List UInt8), Lib.compareBytes a a = 0
 | [] => rfl
 | x :: a => by unfold Lib.compareBytes; simp [cmpB_self a]
theorem cmpB_eq : ∀ (a b : List UInt8), Lib.compareBytes a b = 0 → a = b
 | [], [], _ => rfl
 | [], _ :: _, h => by simp [Lib.compareBytes] at h
 | _ :: _, [], h => by simp [Lib.compareBytes] at h
 | x :: a, y :: b, h => by
  unfold Lib.compareBytes at h
  split at h
  ·simp at h
  ·split at h
   ·simp at h
   ·rename_i h1 h2
    have : x = y := UInt8.le_antisymm (UInt8.not_lt.1 h2) (UInt8.not_lt.1 h1)
    rw [this, cmpB_eq a b h]
theorem cmpB_swap : ∀ (a b : List UInt8), Lib.compareBytes b a = - Lib.compareBytes a b
 | [], [] => rfl
 | [], _ :: _ => by simp [Lib.compareBytes]
 | _ :: _, [] => by simp [Lib.compareBytes]
 | x :: a, y :: b => by
  unfold Lib.compareBytes
  by_cases h1 : x < y
  ·have h2 : ¬ y < x := fun h => by
    have := UInt8.lt_trans h1 h
    exact absurd this (UInt8.lt_irrefl _)
   simp [h1, h2]
  ·by_cases h2 : y < x
   ·simp [h1, h2]
   ·simp [h1, h2, cmpB_swap a b]
theorem cmpB_trans : ∀ (a b c : List UInt8), Lib.compareBytes a b < 0 → Lib.compareBytes b c < 0 → Lib.compareBytes a c < 0
 | [], [], _, h, _ => by simp [Lib.compareBytes] at h
 | [], _ :: _, [], _, h => by simp [Lib.compareBytes] at h
 | [], _ :: _, _ :: _, _, _ => by simp [Lib.compareBytes]
 | _ :: _, [], _, h, _ => by simp [Lib.compareBytes] at h
 | _ :: _, _ :: _, [], _, h => by simp [Lib.compareBytes] at h
 | x :: a, y :: b, z :: c, h1, h2 => by
  unfold Lib.compareBytes at h1 h2 ⊢
  split at h1
  ·rename_i xy
   split at h2
   ·rename_i yz
    rw [if_pos (UInt8.lt_trans xy yz)]; decide
   ·split at h2
    ·exact absurd h2 (by decide)
    ·rename_i n1 n2
     have : y = z := UInt8.le_antisymm (UInt8.not_lt.1 n2) (UInt8.not_lt.1 n1)
     rw [← this, if_pos xy]; decide
  ·split at h1
   ·exact absurd h1 (by decide)
   ·rename_i n1 n2
    have exy : x = y := UInt8.le_antisymm (UInt8.not_lt.1 n2) (UInt8.not_lt.1 n1)
    split at h2
    ·rename_i yz
     rw [exy, if_pos yz]; decide
    ·split at h2
     ·exact absurd h2 (by decide)
     ·rename_i m1 m2
      have eyz : y = z := UInt8.le_antisymm (UInt8.not_lt.1 m2) (UInt8.not_lt.1 m1)
      rw [exy, eyz, if_neg (UInt8.lt_irrefl _), if_neg (UInt8.lt_irrefl _)]
      exact cmpB_trans a b c h1 h2
theorem cmpK_zero {a b : Key} : cmpK a b = 0 ↔ a = b := ⟨fun h => Subtype.ext (cmpB_eq _ _ h), fun h => by subst h; exact cmpB_self _⟩
theorem ltK_irrefl (a : Key) : ltK a a = false := by unfold ltK cmpK; rw [cmpB_self]; rfl
theorem ltK_trans {a b c : Key} (h1 : ltK a b = true) (h2 : ltK b c = true) : ltK a c = true := decide_eq_true (cmpB_trans _ _ _ (of_decide_eq_true h1) (of_decide_eq_true h2))
theorem ltK_tri (a b : Key) : ltK a b = true ∨ a = b ∨ ltK b a = true := by
 have hs := cmpB_swap a.1 b.1
 by_cases h : cmpK a b < 0
 ·exact .inl (decide_eq_true h)
 ·by_cases h0 : cmpK a b = 0
  ·exact .inr (.inl (cmpK_zero.1 h0))
  ·refine .inr (.inr (decide_eq_true ?_))
   unfold cmpK at h h0 ⊢
   omega
theorem ltK_asymm {a b : Key} (h : ltK a b = true) : ltK b a = false := by
 cases h2 : ltK b a
 ·rfl
 ·have := ltK_trans h h2
  rw [ltK_irrefl] at this; cases this
structure Dev where
 node : Int
 key : Key
 exp : Int
 rev : Bool
 deriving DecidableEq, Inhabited
def encD (d : Dev) : List Value := .int .i64 d.node :: (encK d.key ++ [.int .i64 d.exp, .bool d.rev])
theorem encD_len (d : Dev) : (encD d).length = 35 := by simp [encD, encK_len]
theorem encD_one (d : Dev) : ∀ v ∈ encD d, v.oneCell' = true := by
 intro v hv
 simp only [encD, List.mem_cons, List.mem_append, List.not_mem_nil, or_false] at hv
 rcases hv with rfl | hv | rfl | rfl
 ·rfl
 ·exact encK_one _ _ hv
 ·rfl
 ·rfl
def flatD (l : List Dev) : List Value := l.flatMap encD
def flatK (l : List Key) : List Value := l.flatMap encK
theorem flatK_len (l : List Key) : (flatK l).length = l.length * 32 := by
 induction l with
 | nil => rfl
 | cons d l ih => rw [flatK, List.flatMap_cons, List.length_append, encK_len, ← flatK, ih, List.length_cons]; omega
structure Book where
 ver : Int
 clock : Int
 devs : List Dev
 spent : List Key
 acl : List UInt8
 deriving DecidableEq, Inhabited
def book0 : Book := ⟨0, 0, [], [], []⟩
structure Op where
 kind : Int
 node : Int
 key : Key
 exp : Int
 text : List UInt8
 at_ : Int
 deriving DecidableEq, Inhabited
def maxN : Int := 9007199254740991
def number (n : Int) : Bool := decide (0 ≤ n ∧ n ≤ maxN)
def posD (l : List Dev) (node : Int) : Nat := l.countP fun d => decide (d.node < node)
def hasD (l : List Dev) (node : Int) : Bool := l.any fun d => decide (d.node = node)
def takenB (b : Book) : List Key := b.spent ++ b.devs.map (·.key)
def freshOf (b : Book) (o : Op) (more : Bool) : Int :=
 if o.key = key0 ∨ o.key ∈ takenB b then 221
 else if o.exp < 1 ∨ number o.exp = false ∨ o.exp ≤ b.clock then 9
 else if more = true ∧ b.spent.length = 64 then 5
 else 0
def posK (l : List Key) (k : Key) : Nat := l.countP fun x => ltK x k
def insertAt {α : Type} (l : List α) (i : Nat) (x : α) : List α := l.take i ++ x :: l.drop i
def spendOf (b : Book) (k : Key) : Book := { b with spent := insertAt b.spent (posK b.spent k) k }
def devAt (b : Book) (node : Int) : Dev := b.devs.getD (posD b.devs node) default
def devOf (o : Op) : Dev := ⟨o.node, o.key, o.exp, false⟩
def registerOf (b : Book) (o : Op) : Book × Int :=
 if o.node < 1 ∨ 8 < o.node ∨ hasD b.devs o.node = true ∧ (devAt b o.node).rev = false then (b, 220)
 else if freshOf b o (hasD b.devs o.node) = 0 then
  if hasD b.devs o.node = true then ({ spendOf b (devAt b o.node).key with devs := b.devs.set (posD b.devs o.node) (devOf o) }, 0)
  else ({ b with devs := insertAt b.devs (posD b.devs o.node) (devOf o) }, 0)
 else (b, freshOf b o (hasD b.devs o.node))
def liveOf (b : Book) (node : Int) : Int := if hasD b.devs node = false then 220 else if (devAt b node).rev = true then 222 else 0
def rotateOf (b : Book) (o : Op) : Book × Int :=
 if liveOf b o.node = 0 then
  if freshOf b o true = 0 then ({ spendOf b (devAt b o.node).key with devs := b.devs.set (posD b.devs o.node) (devOf o) }, 0)
  else (b, freshOf b o true)
 else (b, liveOf b o.node)
def revokeOf (b : Book) (o : Op) : Book × Int :=
 if liveOf b o.node = 0 then ({ b with devs := b.devs.set (posD b.devs o.node) { devAt b o.node with rev := true } }, 0)
 else (b, liveOf b o.node)
def advanceOf (b : Book) (o : Op) : Book × Int := if o.at_ ≤ b.clock ∨ number o.at_ = false then (b, 9) else ({ b with clock := o.at_ }, 0)
def nextOf (rules : List UInt8 → Int) (b : Book) (o : Op) : Book × Int :=
 if o.kind = 1 then registerOf b o else if o.kind = 2 then rotateOf b o else if o.kind = 3 then revokeOf b o
 else if o.kind = 4 then ({ b with acl := o.text }, rules o.text) else if o.kind = 5 then advanceOf b o else (b, 2)
def errOf (rules : List UInt8 → Int) (b : Book) (o : Op) : Int :=
 if (nextOf rules b o).2 = 0 ∧ (nextOf rules b o).1.ver = maxN then 5 else (nextOf rules b o).2
def applyOf (rules : List UInt8 → Int) (b : Book) (o : Op) : Book :=
 if errOf rules b o = 0 then { (nextOf rules b o).1 with ver := (nextOf rules b o).1.ver + 1 } else b
def validOf (b : Book) (k : Key) (now : Int) : Option Int :=
 match b.devs.find? (fun d => decide (d.key = k)) with
 | none => none
 | some d => if d.rev = true ∨ d.exp ≤ now ∨ d.exp ≤ b.clock then none else some d.node
structure WF (b : Book) : Prop where
 ver : 0 ≤ b.ver ∧ b.ver ≤ maxN
 clock : 0 ≤ b.clock ∧ b.clock ≤ maxN
 devs : b.devs.Pairwise (·.node < ·.node)
 nodes : ∀ d ∈ b.devs, 1 ≤ d.node ∧ d.node ≤ 8
 exps : ∀ d ∈ b.devs, 1 ≤ d.exp ∧ d.exp ≤ maxN
 spent : b.spent.Pairwise (fun a b => ltK a b = true)
 len : b.spent.length ≤ 64
 keys : (takenB b).Nodup
 nonzero : key0 ∉ takenB b
end Go.Proofs.YtmgbaefgcdglpaaGreatDoor.Dir
/- copy at elements of k cells into a row that is known whole; append of zeros; no program's text in sight. -/
set_option linter.unusedVariables false
set_option linter.unusedSimpArgs false
namespace Go.Proofs.YtmgbaefgcdglpaaGreatDoor.Dir
open Go Go.RowKit
variable {P : Program}
theorem grownBy_setRow (w : World) (g : Nat) (cs : Array Value) : w.grownBy (w.setRow g cs) (some g) :=
 ⟨rfl, rfl, rfl, by simp, fun k _ hk => setRow_other w g k cs (fun e => hk (by rw [e]))⟩
theorem grownBy_trans {a b c : World} {r : Option Nat} (h1 : a.grownBy b r) (h2 : b.grownBy c r) : a.grownBy c r :=
 ⟨h2.os.trans h1.os, h2.tape.trans h1.tape, h2.output.trans h1.output, Nat.le_trans h1.size h2.size, fun k hk hr => (h2.block k (Nat.lt_of_lt_of_le hk h1.size) hr).trans (h1.block k hk hr)⟩
theorem grownBy_refl (w : World) (r : Option Nat) : w.grownBy w r := ⟨rfl, rfl, rfl, Nat.le_refl _, fun _ _ _ => rfl⟩
theorem grownBy_wide {a b : World} {r : Option Nat} (h : a.grownBy b none) : a.grownBy b r := ⟨h.os, h.tape, h.output, h.size, fun k hk _ => h.block k hk (fun e => by cases e)⟩
theorem grownBy_below {a b : World} (h : Below a.heap.size a b) : a.grownBy b none := ⟨h.os, h.tape, h.output, h.size, fun k hk _ => h.block k hk⟩
theorem owns_open {w : World} {base : Nat} {e : TypeId} {size g n cap : Nat} {xs : List Value} (h : w.ownsRow base e size (.slice (some ⟨g, 0, none⟩) n cap) n xs) :
  ∃ cur : List Value, base ≤ g ∧ w.heap[g]? = some (.cells cur.toArray e (0, 0)) ∧ n ≤ cap ∧ cap ≤ maxLen ∧ cur.length = cap * size ∧ cur.take (n * size) = xs ∧ xs.length = n * size := by
 rcases h.2 with ⟨h', _⟩ | ⟨g', cap', cur, h', hb, hg, hnc, hcm, hcs, htake⟩
 ·simp at h'
 ·simp only [Value.slice.injEq, Option.some.injEq, Addr.mk.injEq, and_true, true_and] at h'
  obtain ⟨rfl, rfl⟩ := h'
  exact ⟨cur.toList, hb, by simpa using hg, hnc, hcm, by simpa using hcs, htake, h.1⟩
theorem owns_shut {w : World} {base : Nat} {e : TypeId} {size g n cap : Nat} {cur xs : List Value} (hb : base ≤ g) (hg : w.heap[g]? = some (.cells cur.toArray e (0, 0))) (hn : n ≤ cap) (hc : cap ≤ maxLen) (hs : cur.length = cap * size) (ht : cur.take (n * size) = xs) :
  w.ownsRow base e size (.slice (some ⟨g, 0, none⟩) n cap) n xs :=
 ⟨by rw [← ht, List.length_take, hs]; exact Nat.min_eq_left (Nat.mul_le_mul_right _ hn), .inr ⟨g, cap, cur.toArray, rfl, hb, hg, hn, hc, by simpa using hs, by simpa using ht⟩⟩
theorem cell_of_heap {w : World} {g j : Nat} {cur : List Value} {e : TypeId} {fr : Nat × Nat} (hg : w.heap[g]? = some (.cells cur.toArray e fr)) : w.cell? ⟨g, j, none⟩ = cur[j]? := by
 simp [World.cell?, hg]
theorem frozen_of_heap {w : World} {g j : Nat} {cur : List Value} {e : TypeId} (hg : w.heap[g]? = some (.cells cur.toArray e (0, 0))) : w.frozen? ⟨g, j, none⟩ = false := by
 simp [World.frozen?, hg]
end Go.Proofs.YtmgbaefgcdglpaaGreatDoor.Dir
/- '==' at keys and at devices: equality. -/
namespace Go.Proofs.YtmgbaefgcdglpaaGreatDoor.Dir
open Go Go.RowKit Go.Proofs
theorem eqItems_bytes {P : Program} (hu : P.underlying 5 = some (.int .u8)) (hA : ∀ w, (isAgg 5).run P w = .ok false w) (d : Nat) (a b : List UInt8) (w : World) : ∀ is : List Nat, (∀ i ∈ is, i < a.length ∧ i < b.length) →
  (Op.eqItems (d + 1) 5 1 (a.map byteV).toArray (b.map byteV).toArray is).run P w = .ok (decide (∀ i ∈ is, a[i]? = b[i]?)) w
 | [], _ => by simp [Op.eqItems]
 | i :: is, h => by
  obtain ⟨h1, h2⟩ := h i (List.mem_cons_self ..)
  have hp : ∀ (l : List UInt8) (hl : i < l.length), (part 5 (l.map byteV).toArray (i * 1)).run P w = .ok (byteV l[i]) w := fun l hl => by
   simp [part, hA, hl]
  have he : (Op.equalIn (d + 1) 5 (byteV a[i]) (byteV b[i])).run P w = .ok (decide (a[i] = b[i])) w := by
   unfold byteV
   rw [run_equalIn_int w d 5 .u8 .u8 _ _ hu]
   congr 1
   rw [Bool.eq_iff_iff]
   simp only [beq_iff_eq, decide_eq_true_eq]
   exact ⟨fun e => UInt8.toNat_inj.1 (by omega), fun e => by rw [e]⟩
  simp only [Op.eqItems, Sem.run_bind, hp a h1, hp b h2, he, Result.andThen_ok]
  by_cases e : a[i] = b[i]
  ·have := eqItems_bytes hu hA d a b w is (fun j hj => h j (List.mem_cons_of_mem _ hj))
   simp only [e, decide_true, Bool.not_true, Bool.false_eq_true, if_false, this]
   congr 2
   simp [List.getElem?_eq_getElem h1, List.getElem?_eq_getElem h2, e]
  ·simp only [e, decide_false, Bool.not_false, if_true]
   simp only [Sem.run_pure]
   congr 1
   symm
   refine decide_eq_false fun hc => e ?_
   have := hc i (List.mem_cons_self ..)
   rw [List.getElem?_eq_getElem h1, List.getElem?_eq_getElem h2] at this
   exact Option.some.inj this
theorem equalIn_key (d : Nat) (a b : Key) (w : World) : (Op.equalIn (d + 2) 28 (.agg (encK a).toArray) (.agg (encK b).toArray)).run Tryz.prog w = .ok (decide (a = b)) w := by
 have hs : (Tryz.prog.info? 5).isSome = true := by kernel_rfl
 obtain ⟨i0, hi0⟩ := Option.isSome_iff_exists.1 hs
 rw [run_equalIn_array w (d + 1) _ _ Tryz.underlying28 hi0, show Tryz.prog.cellsOf 5 = 1 from by kernel_rfl]
 rw [show encK a = a.1.map byteV from rfl, show encK b = b.1.map byteV from rfl, eqItems_bytes Tryz.underlying5 Tryz.isAgg5 d a.1 b.1 w _ (fun i hi => by rw [a.2, b.2]; simpa using hi)]
 refine congrArg (fun q => Result.ok q w) ?_
 rw [Bool.eq_iff_iff]
 simp only [decide_eq_true_eq, List.mem_range]
 refine ⟨fun h => Subtype.ext (List.ext_getElem? fun i => ?_), fun h i _ => by rw [h]⟩
 by_cases hi : i < 32
 ·exact h i hi
 ·rw [List.getElem?_eq_none (by rw [a.2]; omega), List.getElem?_eq_none (by rw [b.2]; omega)]
theorem eqlK (a b : Key) (w : World) : (binOp .eql 28 (.agg (encK a).toArray) (.agg (encK b).toArray)).run Tryz.prog w = .ok (.bool (decide (a = b))) w := by
 rw [run_eql_struct, show (10000 : Nat) = 9998 + 2 from rfl, equalIn_key]
 rfl
theorem neqK (a b : Key) (w : World) : (binOp .neq 28 (.agg (encK a).toArray) (.agg (encK b).toArray)).run Tryz.prog w = .ok (.bool (!decide (a = b))) w := by
 rw [run_neq_struct, show (10000 : Nat) = 9998 + 2 from rfl, equalIn_key]
 rfl
theorem eqlAtK : EqlAt Tryz.prog 28 (fun k : Key => .agg (encK k).toArray) (fun a b => decide (a = b)) := ⟨fun x y w => eqlK x y w, GuardAt.agg _ (by kernel_rfl)⟩
theorem guardK (op : BinOp) (a b : Operand) (x y : Key) (w : World) : (eqGuard op 28 a b (.agg (encK x).toArray) (.agg (encK y).toArray)).run Tryz.prog w = .ok () w := eqlAtK.2 op a b x y w
end Go.Proofs.YtmgbaefgcdglpaaGreatDoor.Dir
/- Loads and stores of values of many cells, as one step of a walk: no program's text in sight. -/
set_option linter.unusedVariables false
set_option linter.unusedSimpArgs false
namespace Go.Proofs.YtmgbaefgcdglpaaGreatDoor.Dir
open Go Go.RowKit Go.Proofs.YtmgbaefgcdglpaaGreatDoorW.PrintWords Go.Proofs.YtmgbaefgcdglpaaGreatDoorW.PrintLast Go.Proofs.YtmgbaefgcdglpaaGreatDoorW.PrintMore
variable {P : Program} {w : World}
theorem add_at (b o j : Nat) : (⟨b, o, none⟩ : Addr).add j = ⟨b, o + j, none⟩ := by unfold Addr.add; split <;> simp_all
theorem run_loadAtK (P : Program) (w : World) (t : TypeId) (k : Nat) (hA : ∀ w, (isAgg t).run P w = .ok true w) (hz : ∀ w, (Go.sizeOf t).run P w = .ok k w) (b o : Nat) (cs : List Value) (hk : cs.length = k)
  (h : ∀ j v, cs[j]? = some v → w.cell? ⟨b, o + j, none⟩ = some v) : (Instr.loadAt t (.pointer (some ⟨b, o, none⟩))).run P w = .ok (.agg cs.toArray) w := by
 have := run_loadCells_list (P := P) (w := w) ⟨b, o, none⟩ cs (fun j v hj => by rw [add_at]; exact h j v hj)
 rw [hk] at this
 simp only [Instr.loadAt, Instr.sureAddr, loadVar, Sem.run_bind, Sem.run_pure, Result.andThen_ok, hA, hz, if_true, this]
theorem execOp_load (t : TypeId) (x : Operand) (o : Oper) (ho : o.op = .load t x) (a : Act) : (execOp a.eval o).run P w = ((Instr.loadAt t (a.eval x)).run P w).andThen fun v w' => .ok (.value v) w' := by
 unfold execOp
 simp only [ho, Sem.run_bind, Sem.run_pure]
theorem execOp_store (t : TypeId) (x v : Operand) (o : Oper) (ho : o.op = .store t x v) (a : Act) : (execOp a.eval o).run P w = ((Instr.storeAt t (a.eval x) (a.eval v)).run P w).andThen fun _ w' => .ok .skip w' := by
 unfold execOp
 simp only [ho, Sem.run_bind, Sem.run_pure]
theorem wp_loadK {o : Oper} {a : Act} {K : Act → World → Prop} {Q : Exit → Act → World → Prop} (t : TypeId) (x : Operand) (ho : o.op = .load t x) (p : Value) (hx : a.eval x = p) (v : Value)
  (hr : (Instr.loadAt t p).run P w = .ok v w) (h : K (a.put o.dst v) w) : o.wp P a w K Q := by
 unfold Oper.wp
 rw [execOp_load t x o ho, hx, hr]
 exact h
theorem wpList_loadK {ops : Array Oper} {rest : List Oper} {o : Oper} {a : Act} {Q : Exit → Act → World → Prop} (hgd : o.guard = none) (t : TypeId) (x : Operand) (ho : o.op = .load t x) (p : Value) (hx : a.eval x = p) (v : Value)
  (hr : (Instr.loadAt t p).run P w = .ok v w) (h : wpList P ops Q rest (a.put o.dst v) w) : wpList P ops Q (o :: rest) a w :=
 wpList_plain hgd fun K hK => wp_loadK t x ho p hx v hr (hK _ _ h)
theorem wpList_loadW {ops : Array Oper} {rest : List Oper} {o : Oper} {a : Act} {Q : Exit → Act → World → Prop} (hw : Region.wanted o (yielded ops a.tmps) = true) (t : TypeId) (x : Operand) (ho : o.op = .load t x) (p : Value) (hx : a.eval x = p) (v : Value)
  (hr : (Instr.loadAt t p).run P w = .ok v w) (h : wpList P ops Q rest (a.put o.dst v) w) : wpList P ops Q (o :: rest) a w := by
 exact wpList_step fun K hK => by rw [if_pos hw]; exact wp_loadK t x ho p hx v hr (hK _ _ h)
theorem run_storeAtK (P : Program) (w : World) (t : TypeId) (k : Nat) (hz : ∀ w, (Go.sizeOf t).run P w = .ok k w) (g off : Nat) (cs : List Value) (hk : cs.length = k) (h1 : ∀ v ∈ cs, v.oneCell' = true)
  (cur : List Value) (T : TypeId) (hg : w.heap[g]? = some (.cells cur.toArray T (0, 0))) (hfit : off + k ≤ cur.length) :
  (Instr.storeAt t (.pointer (some ⟨g, off, none⟩)) (.agg cs.toArray)).run P w = .ok () (w.setRow g (splice cur off cs).toArray) := by
 have hst := run_storeCells_at P g off T cs 0 cur.toArray w hg (by simp; omega) h1
 simp only [Instr.storeAt, Instr.sureAddr, storeVar, Sem.run_bind, Sem.run_pure, Result.andThen_ok, hz, Value.cells, List.size_toArray, hk]
 simp only [ne_eq, not_true_eq_false, if_false, Sem.run_pure, Result.andThen_ok]
 simpa [splice] using hst
theorem wp_storeK {o : Oper} {a : Act} {K : Act → World → Prop} {Q : Exit → Act → World → Prop} (t : TypeId) (x y : Operand) (ho : o.op = .store t x y) (hd : o.dst = none) (p v : Value) (hx : a.eval x = p) (hy : a.eval y = v) (w' : World)
  (hr : (Instr.storeAt t p v).run P w = .ok () w') (h : K a w') : o.wp P a w K Q := by
 unfold Oper.wp
 rw [execOp_store t x y o ho, hx, hy, hr]
 show K (a.put o.dst undef) w'
 rw [hd]
 exact h
theorem wpList_storeK {ops : Array Oper} {rest : List Oper} {o : Oper} {a : Act} {Q : Exit → Act → World → Prop} (hgd : o.guard = none) (t : TypeId) (x y : Operand) (ho : o.op = .store t x y) (hd : o.dst = none) (p v : Value) (hx : a.eval x = p) (hy : a.eval y = v) (w' : World)
  (hr : (Instr.storeAt t p v).run P w = .ok () w') (h : wpList P ops Q rest a w') : wpList P ops Q (o :: rest) a w :=
 wpList_plain hgd fun K hK => wp_storeK t x y ho hd p v hx hy w' hr (hK _ _ h)
theorem run_storeNew (P : Program) (w : World) (t : TypeId) (k : Nat) (hi : (P.info? t).map (·.size) = some k) (c c' : Array Value) (hc : c.size = k) (hc' : c'.size = k) (h1 : ∀ v ∈ c'.toList, v.oneCell' = true) :
  (Instr.storeAt t (.pointer (some ⟨w.heap.size, 0, none⟩)) (.agg c')).run P (w.alloc (.cells c t)) = .ok () (w.alloc (.cells c' t)) :=
 run_storeAt_new w t c c' (by rw [hi, hc']) (by rw [hc, hc']) (by rw [Array.all_eq_true_iff_forall_mem]; intro v hv; exact h1 v (by simpa using hv))
theorem cells_of_heap {b : Nat} {cs : List Value} {T : TypeId} {fr : Nat × Nat} (h : w.heap[b]? = some (.cells cs.toArray T fr)) : ∀ j v, cs[j]? = some v → w.cell? ⟨b, 0 + j, none⟩ = some v := fun j v hj => by
 rw [Nat.zero_add, cell_of_heap h]; exact hj
theorem yields_load (t : TypeId) (x : Operand) (o : Oper) (ho : o.op = .load t x) (a : Act) (p : Value) (hx : a.eval x = p) (v : Value) (hr : (Instr.loadAt t p).run P w = .ok v w) : (execOp a.eval o).run P w = .ok (.value v) w := by
 rw [execOp_load t x o ho, hx, hr]
 rfl
theorem runs_store (t : TypeId) (x y : Operand) (o : Oper) (ho : o.op = .store t x y) (a : Act) (p v : Value) (hx : a.eval x = p) (hy : a.eval y = v) (w' : World) (hr : (Instr.storeAt t p v).run P w = .ok () w') : (execOp a.eval o).run P w = .ok .skip w' := by
 rw [execOp_store t x y o ho, hx, hy, hr]
 rfl
theorem goesv_ {ops : Array Oper} {oi : Oper} {N : Option Tmp} {a : Act} {w : World} {K : Act → World → Prop} {Q : Exit → Act → World → Prop} {f : FuncId} {fn : Func} {oas : Array Operand} {ts : Array TypeId} {cx : Operand} (hf : P.funcs[f]? = some fn) (hname : (fn.name == "runtime.NumGoroutine") = false) (hb : fn.body.isSome = true) (args : Array Value)
  (hw : Region.wanted oi (yielded ops a.tmps) = true) (hN : oi.dst = N) (hop : oi.op = .call { callee := .value cx, args := oas, argTypes := ts }) (hcx : a.eval cx = .func (.func f) #[] #[]) (hargs : oas.map a.eval = args)
  (h : Calls P f args w fun e w' => ∃ v, e = .returned v ∧ K (a.put N v) w') : if Region.wanted oi (yielded ops a.tmps) = true then Oper.wp P oi a w K Q else K (a.put N undef) w := by
 refine call_ f args hw hN ?_ h
 have he := enters_ hf hname hb args w
 unfold execOp
 simp [hop, hcx, resolve, Deferred.ofValue, invoke, hargs, he]
end Go.Proofs.YtmgbaefgcdglpaaGreatDoor.Dir
end
section
namespace Go.Proofs.YtmgbaefgcdglpaaGreatDoor.Dir
open Go Go.RowKit Go.Proofs Go.Proofs.YtmgbaefgcdglpaaGreatDoorW.PrintWords Go.Proofs.YtmgbaefgcdglpaaGreatDoorW.PrintLast Go.Proofs.YtmgbaefgcdglpaaGreatDoorW.PrintMore
set_option linter.unusedVariables false
set_option linter.unusedSimpArgs false
theorem number_any (n : Int) (w : World) : Calls Tryz.prog 75 #[.int .i64 n] w fun e w' => e = .returned (.bool (number n)) ∧ w' = w := by
 have hn : (decide (0 ≤ n) && decide (n ≤ 9007199254740991)) = number n := by unfold number maxN; rw [Bool.decide_and]
 go_enter Tryz.func75, Tryz.ntmps75
 go_wp2
 all_goals (go_ret; refine ⟨?_, rfl⟩; rw [← hn]; first | (simp; omega) | (simp_all; done) | (simp_all; omega))
theorem run_bytesX {P : Program} (w : World) : ∀ (xs : List UInt8) (a : Addr) (acc : ByteArray), (∀ j x, xs[j]? = some x → w.cell? (a.add j) = some (byteV x)) →
  (Extern.Bytes.loadBytes a xs.length acc).run P w = .ok ⟨acc.data ++ xs.toArray⟩ w
 | [], a, acc, _ => by simp [Extern.Bytes.loadBytes]
 | x :: l, a, acc, h => by
  have h0 : w.cell? a = some (.int .u8 (x.toNat : Int)) := by
   have := h 0 x rfl
   simpa [Addr.add, byteV] using this
  have ih := run_bytesX (P := P) w l (a.add 1) (acc.push ((x.toNat : Int)).toNat.toUInt8) (fun j y hy => by
   have := h (j + 1) y (by simpa using hy)
   have e : (a.add 1).add j = a.add (j + 1) := by
    unfold Addr.add
    by_cases hj : j = 0
    ·subst hj; simp
    ·simp [hj]; omega
   rw [e]; exact this)
  simp only [List.length_cons, Extern.Bytes.loadBytes, Sem.run_bind, run_load, h0, Result.andThen]
  rw [ih]
  refine congrArg (fun q => Result.ok q w) ?_
  apply ByteArray.ext
  simp [ByteArray.push]
theorem run_bytesK {P : Program} (w : World) (b : Nat) (k : Key) (T : TypeId) (h : w.heap[b]? = some (.cells (encK k).toArray T (0, 0))) (c : Nat) :
  (Extern.Bytes.bytesOf (.slice (some ⟨b, 0, none⟩) 32 c)).run P w = .ok ⟨k.1.toArray⟩ w := by
 have := run_bytesX (P := P) w k.1 ⟨b, 0, none⟩ .empty (fun j x hj => by
  rw [add_at, Nat.zero_add, cell_of_heap h]
  show (k.1.map byteV)[j]? = _
  rw [List.getElem?_map, hj]; rfl)
 rw [k.2] at this
 simp only [Extern.Bytes.bytesOf, this]
 refine congrArg (fun q => Result.ok q w) ?_
 apply ByteArray.ext
 show (#[] : Array UInt8) ++ _ = _
 simp
theorem run_cmpK {P : Program} (w : World) (p q : Nat) (a b : Key) (T : TypeId) (h1 : w.heap[p]? = some (.cells (encK a).toArray T (0, 0))) (h2 : w.heap[q]? = some (.cells (encK b).toArray T (0, 0))) (c1 c2 : Nat) :
  (Extern.BytealgCompare.compare #[.slice (some ⟨p, 0, none⟩) 32 c1, .slice (some ⟨q, 0, none⟩) 32 c2]).run P w = .ok (.int .i64 (cmpK a b)) w := by
 change Sem.run P (do pure (goInt (Extern.BytealgCompare.cmp (← Extern.Bytes.bytesOf (.slice (some ⟨p, 0, none⟩) 32 c1)) (← Extern.Bytes.bytesOf (.slice (some ⟨q, 0, none⟩) 32 c2))))) w = _
 simp only [Sem.run_bind, Sem.run_pure, run_bytesK w p a T h1, run_bytesK w q b T h2, Result.andThen]
 rw [Lib.cmp_eq]
 rfl
theorem cmp87 (p q : Nat) (a b : Key) (c1 c2 : Nat) (w : World) (h1 : w.heap[p]? = some (.cells (encK a).toArray 28 (0, 0))) (h2 : w.heap[q]? = some (.cells (encK b).toArray 28 (0, 0))) :
  Calls Tryz.prog 127 #[.slice (some ⟨p, 0, none⟩) 32 c1, .slice (some ⟨q, 0, none⟩) 32 c2] w fun e w' => e = .returned (.int .i64 (cmpK a b)) ∧ w' = w := by
 have hr := run_cmpK (P := Tryz.prog) w p q a b 28 h1 h2 c1 c2
 have hc : ∀ w0 : World, w0 = w → (callFunc 178 #[.slice (some ⟨p, 0, none⟩) 32 c1, .slice (some ⟨q, 0, none⟩) 32 c2]).run Tryz.prog w0 = .ok (.value (.int .i64 (cmpK a b))) w := by
  rintro w0 rfl
  rw [run_callFunc_extern Tryz.func178 (by kernel_rfl) (by kernel_rfl) (by kernel_rfl) (e := Extern.BytealgCompare.compare) (by kernel_rfl), hr]
  rfl
 have hc := hc w rfl
 go_enter Tryz.func127, Tryz.ntmps127
 go_wp2
 go_ret
 exact ⟨rfl, rfl⟩
theorem compare_any (a b : Key) (W : World) : Calls Tryz.prog 78 #[.agg (encK a).toArray, .agg (encK b).toArray] W fun e w' => e = .returned (.int .i64 (cmpK a b)) ∧ ∃ n, w' = ((W.alloc (.cells (encK a).toArray 28)).alloc (.cells (encK b).toArray 28)).drewN n := by
 obtain ⟨A, hA⟩ : ∃ A, A = (encK a).toArray := ⟨_, rfl⟩
 obtain ⟨B, hB⟩ : ∃ B, B = (encK b).toArray := ⟨_, rfl⟩
 obtain ⟨W2, hW⟩ : ∃ W2, W2 = ((W.alloc (.cells A 28)).alloc (.cells B 28)) := ⟨_, rfl⟩
 have h1 : ∀ n, (W2.drewN n).heap[W.heap.size]? = some (.cells (encK a).toArray 28 (0, 0)) := fun n => by
  show W2.heap[_]? = _
  rw [hW, hA, Below.heap_alloc _ _ _ (by simp)]; exact heap_alloc_new W _
 have h2 : ∀ n, (W2.drewN n).heap[W.heap.size + 1]? = some (.cells (encK b).toArray 28 (0, 0)) := fun n => by
  show W2.heap[_]? = _
  rw [hW, hB]
  have := heap_alloc_new (W.alloc (.cells A 28)) (.cells (encK b).toArray 28)
  simpa using this
 have hcall : ∀ n, Calls Tryz.prog 127 #[.slice (some ⟨W.heap.size, 0, none⟩) 32 32, .slice (some ⟨W.heap.size + 1, 0, none⟩) 32 32] (W2.drewN n) fun e w' => e = .returned (.int .i64 (cmpK a b)) ∧ w' = W2.drewN n :=
  fun n => cmp87 _ _ a b 32 32 _ (h1 n) (h2 n)
 have HC := Aside0.mk hcall
 clear h1 h2 hcall
 rw [← hA, ← hB, ← hW]
 generalize cmpK a b = r at HC ⊢
 clear hA hB
 go_enter Tryz.func78, Tryz.ntmps78
 go_wp2
 rw [← hW]
 clear hW
 go_quiet (first | (go_at_call 127; exact Calls.quiet_of_same (HC.out _)))
 go_wp2
 go_ret
 exact ⟨rfl, nq, rfl⟩
theorem keyOfD (d : Dev) (j : Nat) (v : Value) (h : (encK d.key)[j]? = some v) : (encD d)[1 + j]? = some v := by
 have hj : j < 32 := by have := (List.getElem?_eq_some_iff.1 h).1; rw [encK_len] at this; exact this
 show (Value.int .i64 d.node :: (encK d.key ++ _))[1 + j]? = _
 rw [Nat.add_comm, List.getElem?_cons_succ, List.getElem?_append_left (by rw [encK_len]; exact hj), h]
theorem expOfD (d : Dev) : (encD d)[33]? = some (.int .i64 d.exp) := by
 show (Value.int .i64 d.node :: (encK d.key ++ _))[32 + 1]? = _
 rw [List.getElem?_cons_succ, List.getElem?_append_right (by rw [encK_len]; omega), encK_len]
 rfl
theorem revOfD (d : Dev) : (encD d)[34]? = some (.bool d.rev) := by
 show (Value.int .i64 d.node :: (encK d.key ++ _))[33 + 1]? = _
 rw [List.getElem?_cons_succ, List.getElem?_append_right (by rw [encK_len]; omega), encK_len]
 rfl
set_option maxRecDepth 100000 in
theorem same_any (d : Dev) (k : Key) (c : Nat) (W : World) (hc : W.heap[c]? = some (.cells (encK k).toArray 28 (0, 0))) :
  Calls Tryz.prog 102 #[.agg (encD d).toArray, .pointer (some ⟨c, 0, none⟩)] W fun e w' => e = .returned (.bool (decide (d.key = k))) ∧ w' = W.alloc (.cells (encD d).toArray 85) := by
 have hlt : c < W.heap.size := (Array.getElem?_eq_some_iff.1 hc).1
 obtain ⟨A, hA⟩ : ∃ A, A = (encD d).toArray := ⟨_, rfl⟩
 have hW := heap_alloc_new W (.cells A 85)
 have l1 := Aside0.mk (run_loadAtK Tryz.prog (W.alloc (.cells A 85)) 28 32 Tryz.isAgg28 Tryz.sizeOf28 W.heap.size 1 (encK d.key) (encK_len _) (fun j v hj => by rw [World.cell?_alloc_new, hA]; simpa using keyOfD d j v hj))
 have l2 := Aside0.mk (run_loadAtK Tryz.prog (W.alloc (.cells A 85)) 28 32 Tryz.isAgg28 Tryz.sizeOf28 c 0 (encK k) (encK_len _) (cells_of_heap (T := 28) (fr := (0, 0)) (by rw [Below.heap_alloc _ _ _ hlt]; exact hc)))
 have he := eqlK d.key k
 have hg := fun op x y w => guardK op x y d.key k w
 rw [← hA]
 generalize (encK d.key).toArray = X at l1 he hg
 generalize (encK k).toArray = Y at l2 he hg
 generalize decide (d.key = k) = r at he ⊢
 clear hc hW hA
 go_enter Tryz.func102, Tryz.ntmps102
 go_wp2_with (first | (refine wpList_loadK rfl 28 _ rfl _ rfl _ l1.out ?_) | (refine wpList_loadK rfl 28 _ rfl _ rfl _ l2.out ?_))
 go_ret
 exact ⟨rfl, rfl⟩
end Go.Proofs.YtmgbaefgcdglpaaGreatDoor.Dir
end
section
namespace Go.Proofs.YtmgbaefgcdglpaaGreatDoor.Dir
open Go Go.RowKit Go.Proofs Go.Proofs.YtmgbaefgcdglpaaGreatDoorW.PrintWords Go.Proofs.YtmgbaefgcdglpaaGreatDoorW.PrintLast Go.Proofs.YtmgbaefgcdglpaaGreatDoorW.PrintMore
set_option linter.unusedVariables false
set_option linter.unusedSimpArgs false
def SrcAt (w : World) (A : Option Addr) (n size : Nat) (xs : List Value) : Prop :=
 xs.length = n * size ∧ (A = none → n = 0) ∧ ∀ a, A = some a → ∀ j u, xs[j]? = some u → w.cell? (a.add j) = some u
theorem SrcAt.grown {w w' : World} {A : Option Addr} {n size : Nat} {xs : List Value} (h : SrcAt w A n size xs) (hg : Below w.heap.size w w') : SrcAt w' A n size xs :=
 ⟨h.1, h.2.1, fun a ha j u hj => by
  have hc := h.2.2 a ha j u hj
  rw [hg.cell (World.block_lt_of_cell? w _ hc)]; exact hc⟩
theorem src_owns {w : World} {base : Nat} {e : TypeId} {size n : Nat} {v : Value} {xs : List Value} (h : w.ownsRow base e size v n xs) : ∃ A c, v = .slice A n c ∧ SrcAt w A n size xs ∧ (A = none ↔ v = .slice none 0 0) := by
 rcases h.2 with ⟨rfl, rfl⟩ | ⟨g, cap, cur, rfl, _⟩
 ·exact ⟨none, 0, rfl, ⟨h.1, fun _ => rfl, fun a ha => (by cases ha)⟩, by simp⟩
 ·exact ⟨some ⟨g, 0, none⟩, cap, rfl, ⟨h.1, fun e => (by cases e), fun a ha j u hj => (by cases ha; exact h.cells (g := g) rfl j u hj)⟩, by simp⟩
theorem info34 : (Tryz.prog.info? 28).map (fun i => (i.size, i.bytes)) = some (32, 32) := by kernel_rfl
theorem zero34 : ∃ z, ((Tryz.prog.info? 28).bind (·.zero)) = some z ∧ z.cells.size = 32 := ⟨.agg #[.int .u8 0, .int .u8 0, .int .u8 0, .int .u8 0, .int .u8 0, .int .u8 0, .int .u8 0, .int .u8 0, .int .u8 0, .int .u8 0, .int .u8 0, .int .u8 0, .int .u8 0, .int .u8 0, .int .u8 0, .int .u8 0, .int .u8 0, .int .u8 0, .int .u8 0, .int .u8 0, .int .u8 0, .int .u8 0, .int .u8 0, .int .u8 0, .int .u8 0, .int .u8 0, .int .u8 0, .int .u8 0, .int .u8 0, .int .u8 0, .int .u8 0, .int .u8 0], by kernel_rfl, by kernel_rfl⟩
set_option maxRecDepth 100000 in
theorem clone54 (A : Option Addr) (n c : Nat) (xs : List Value) (w : World) (hs : SrcAt w A n 32 xs) (hb : n * 32 ≤ 140737488355328) (h1 : ∀ u ∈ xs, u.oneCell' = true) :
  Calls Tryz.prog 81 #[.slice A n c] w fun e w' => ∃ v', e = .returned v' ∧ w'.ownsRow w.heap.size 28 32 v' n xs ∧ (v' = .slice none 0 0 ↔ A = none) ∧ Below w.heap.size w w' := by
 have t22 := Tryz.underlying23
 have q22 : ∀ (w : World) (a : Option Addr) (n c n' c' : Nat), (binOp .eql 23 (.slice a n c) (.slice none n' c')).run Tryz.prog w = .ok (.bool a.isNone) w := fun w a n c n' c' => Lib.run_eql_slice_nil w _ _ a n c n' c' t22
 have hx : xs.length = n * 32 := hs.1
 cases A with
 | none =>
  obtain rfl := hs.2.1 rfl
  have : xs = [] := List.eq_nil_of_length_eq_zero (by simpa using hx)
  subst this
  clear hs hx
  go_enter Tryz.func81, Tryz.ntmps81
  go_wp2
  go_ret
  exact ⟨_, rfl, World.ownsRow_nil _ _ _ _, by simp, Below.refl _ _⟩
 | some a =>
  obtain ⟨z, hz, hzs⟩ := zero34
  have hi := info34
  obtain ⟨i0, hi0⟩ : ∃ i0, Tryz.prog.info? 28 = some i0 := by
   cases h : Tryz.prog.info? 28 with
   | some i => exact ⟨i, rfl⟩
   | none => rw [h] at hi; cases hi
  rw [hi0] at hi hz
  simp only [Option.map_some, Option.some.injEq, Prod.mk.injEq, Option.bind_some] at hi hz
  obtain ⟨hz1, hz2⟩ := hi
  obtain ⟨ab, ao, asp⟩ := a
  have S := Aside0.mk (hs.2.2 _ rfl)
  have H1 := Aside0.mk h1
  have HX := Aside0.mk hx
  have HI := Aside0.mk (show Tryz.prog.info? 28 = some i0 ∧ i0.zero = some z ∧ i0.size = 32 ∧ i0.bytes = 32 ∧ z.cells.size = 32 from ⟨hi0, hz, hz1, hz2, hzs⟩)
  clear hs h1 hx hi0 hz hz1 hz2 hzs
  go_enter Tryz.func81, Tryz.ntmps81
  go_wp2_with (at_builtin; refine wpList_append_own _ rfl _ _ 23 rfl w.heap.size 28 i0 z 32 32 t22 HI.out.1 HI.out.2.1 HI.out.2.2.1 HI.out.2.2.2.1 HI.out.2.2.2.2 (by decide) _ _ _ rfl (World.ownsRow_made w #[] 0 (Nat.le_refl _) (Nat.zero_le _) (by simp)) ⟨ab, ao, asp⟩ n c xs rfl ?qc1 ?qc2 ?qc3 ?qc4 ?qc5 ?qc6 ?_)
  case qc1 => exact HX.out
  case qc2 =>
   intro j u hj
   exact Lib.cell?_alloc_some _ (S.out j u hj)
  case qc3 => exact H1.out
  case qc4 => rw [Nat.zero_add]; unfold maxLen; omega
  case qc5 => rw [Nat.zero_add]; exact hb
  case qc6 => simp
  intro v' w1 hown hgrow hnil
  go_wp2
  go_ret
  refine ⟨v', rfl, by simpa using hown, by simpa using hnil, ?_⟩
  exact ((Below.refl _ w).alloc (Nat.le_refl _) _).grown hgrow (by simp) (by intro k hk; simp [Value.ownBlock] at hk; omega)
theorem cloned54 (A : Option Addr) (n c : Nat) (xs : List Value) (w : World) (hs : SrcAt w A n 32 xs) (hb : n * 32 ≤ 140737488355328) (h1 : ∀ u ∈ xs, u.oneCell' = true) :
  Calls Tryz.prog 81 #[.slice A n c] w fun e w' => ∃ A' c', e = .returned (.slice A' n c') ∧ w'.ownsRow w.heap.size 28 32 (.slice A' n c') n xs ∧ (A' = none ↔ A = none) ∧ Below w.heap.size w w' := by
 refine (clone54 A n c xs w hs hb h1).mono ?_
 rintro e w' ⟨v', rfl, ho, hn, hb⟩
 obtain ⟨A', c', rfl, -, h2⟩ := src_owns ho
 exact ⟨A', c', rfl, ho, h2.trans hn, hb⟩
def ListsAt (w : World) (base : Nat) (dv sv : Value) (n1 n2 : Nat) (ds ks : List Value) : Prop :=
 w.ownsRow base 85 35 dv n1 ds ∧ w.ownsRow base 28 32 sv n2 ks ∧ ∀ k, dv.ownBlock = some k → sv.ownBlock ≠ some k
theorem below_step {w w1 w2 : World} (h : Below w.heap.size w w1) (k : Below w1.heap.size w1 w2) : Below w.heap.size w w2 := h.trans (k.mono h.size)
section
variable {q : Nat} {W W' : World} {ver clock : Int} {dv sv : Value} {acl : ByteArray}
end
end Go.Proofs.YtmgbaefgcdglpaaGreatDoor.Dir
end
section
set_option linter.unusedVariables false
set_option linter.unusedSimpArgs false
namespace Go.Proofs.YtmgbaefgcdglpaaGreatDoor.Dir
theorem devs_len {b : Book} (hw : WF b) : b.devs.length ≤ 8 := by
 have aux : ∀ (l : List Dev) (lo : Int), l.Pairwise (·.node < ·.node) → (∀ d ∈ l, lo ≤ d.node ∧ d.node ≤ 8) → lo ≤ 9 → (l.length : Int) ≤ 9 - lo := by
  intro l
  induction l with
  | nil => intro lo _ _ h; simp; omega
  | cons a l ih =>
   intro lo hp hr hlo
   obtain ⟨p1, p2⟩ := List.pairwise_cons.1 hp
   have ha := hr a (List.mem_cons_self ..)
   have := ih (a.node + 1) p2 (fun d hd => ⟨by have := p1 d hd; omega, (hr d (List.mem_cons_of_mem _ hd)).2⟩) (by omega)
   simp
   omega
 have := aux b.devs 1 hw.devs hw.nodes (by decide)
 omega
end Go.Proofs.YtmgbaefgcdglpaaGreatDoor.Dir
/- What an op does to a book, in the words that the statements ask for: which devices stay, which keys are spent. -/
namespace Go.Proofs.YtmgbaefgcdglpaaGreatDoor.Dir
end Go.Proofs.YtmgbaefgcdglpaaGreatDoor.Dir
end
section
namespace Go.Proofs.YtmgbaefgcdglpaaGreatDoor.Dir
open Go Go.RowKit Go.Proofs Go.Proofs.YtmgbaefgcdglpaaGreatDoorW.PrintWords Go.Proofs.YtmgbaefgcdglpaaGreatDoorW.PrintLast Go.Proofs.YtmgbaefgcdglpaaGreatDoorW.PrintMore
set_option linter.unusedVariables false
set_option linter.unusedSimpArgs false
def str (l : List UInt8) : ByteArray := ⟨l.toArray⟩
def bookCells (B : Book) (A1 : Option Addr) (c1 : Nat) (A2 : Option Addr) (c2 : Nat) : List Value :=
 [.int .i64 B.ver, .int .i64 B.clock, .slice A1 B.devs.length c1, .slice A2 B.spent.length c2, .string (str B.acl)]
def Lists (w : World) (base : Nat) (B : Book) (A1 : Option Addr) (c1 : Nat) (A2 : Option Addr) (c2 : Nat) : Prop :=
 ListsAt w base (.slice A1 B.devs.length c1) (.slice A2 B.spent.length c2) B.devs.length B.spent.length (flatD B.devs) (flatK B.spent)
def Few (B : Book) : Prop := B.devs.length ≤ 8 ∧ B.spent.length ≤ 64
theorem WF.few {B : Book} (h : WF B) : Few B := ⟨devs_len h, h.len⟩
theorem flatK_one (l : List Key) : ∀ u ∈ flatK l, u.oneCell' = true := by
 intro u hu
 obtain ⟨d, -, h⟩ := List.mem_flatMap.1 hu
 exact encK_one d u h
theorem splice_all {α : Type} (cur cs : List α) (h : cur.length = cs.length) : splice cur 0 cs = cs := by
 unfold splice
 rw [List.take_zero, List.drop_eq_nil_of_le (by omega)]
 simp
end Go.Proofs.YtmgbaefgcdglpaaGreatDoor.Dir
/- The place of a device with a key; Valid. -/
namespace Go.Proofs.YtmgbaefgcdglpaaGreatDoor.Dir
open Go Go.RowKit Go.Proofs Go.Proofs.YtmgbaefgcdglpaaGreatDoorW.PrintWords Go.Proofs.YtmgbaefgcdglpaaGreatDoorW.PrintLast Go.Proofs.YtmgbaefgcdglpaaGreatDoorW.PrintMore
set_option linter.unusedVariables false
set_option linter.unusedSimpArgs false
theorem flatMap_at {α : Type} (f : α → List Value) (k : Nat) (hk : ∀ x, (f x).length = k) : ∀ (l : List α) (j : Nat) (x : α), l[j]? = some x → ∀ i v, (f x)[i]? = some v → (l.flatMap f)[j * k + i]? = some v
 | [], j, x, h, _, _, _ => by simp at h
 | a :: l, 0, x, h, i, v, hv => by
  simp at h
  subst h
  rw [List.flatMap_cons, Nat.zero_mul, Nat.zero_add, List.getElem?_append_left (List.getElem?_eq_some_iff.1 hv).1]
  exact hv
 | a :: l, j + 1, x, h, i, v, hv => by
  rw [List.flatMap_cons, List.getElem?_append_right (by rw [hk, Nat.add_mul]; omega), hk, show (j + 1) * k + i - k = j * k + i by rw [Nat.add_mul]; omega]
  exact flatMap_at f k hk l j x (by simpa using h) i v hv
theorem row_cell {w W : World} {base : Nat} {e : TypeId} {size g n c : Nat} {xs : List Value} (h : w.ownsRow base e size (.slice (some ⟨g, 0, none⟩) n c) n xs) (hb : Below w.heap.size w W) {j : Nat} {v : Value} (hj : xs[j]? = some v) : W.cell? ⟨g, j, none⟩ = some v := by
 have h' := h.cells (g := g) rfl j v hj
 rw [add_at, Nat.zero_add] at h'
 rw [hb.cell (World.block_lt_of_cell? w _ h')]
 exact h'
theorem load_key {w : World} {base g n c : Nat} {l : List Key} (h : w.ownsRow base 28 32 (.slice (some ⟨g, 0, none⟩) n c) n (flatK l)) {W : World} (hb : Below w.heap.size w W) {j : Nat} {d : Key} (hj : l[j]? = some d) :
  (Instr.loadAt 28 (.pointer (some ⟨g, j * 32, none⟩))).run Tryz.prog W = .ok (.agg (encK d).toArray) W :=
 run_loadAtK Tryz.prog W 28 32 Tryz.isAgg28 Tryz.sizeOf28 g (j * 32) (encK d) (encK_len _) (fun i v hv => row_cell h hb (flatMap_at encK 32 encK_len l j d hj i v hv))
theorem find_at {l : List Dev} {p : Dev → Bool} {i : Nat} {d : Dev} (hi : l[i]? = some d) (hd : p d = true) (h : ∀ j, j < i → ∀ d', l[j]? = some d' → p d' = false) : l.find? p = some d := by
 obtain ⟨hlt, e⟩ := List.getElem?_eq_some_iff.1 hi
 refine List.find?_eq_some_iff_getElem.2 ⟨hd, i, hlt, e, fun j hj => ?_⟩
 have := h j hj l[j] (List.getElem?_eq_getElem (by omega))
 simp [this]
def validRes (r : Option Int) : Value := match r with | none => .tuple #[.int .i64 0, .bool false] | some n => .tuple #[.int .i64 n, .bool true]
theorem sizeD : (Tryz.prog.info? 85).map (·.size) = some 35 := by kernel_rfl
end Go.Proofs.YtmgbaefgcdglpaaGreatDoor.Dir
end
section
namespace Go.Proofs.YtmgbaefgcdglpaaGreatDoor.Dir
open Go Go.RowKit Go.Proofs Go.Proofs.YtmgbaefgcdglpaaGreatDoorW.PrintWords Go.Proofs.YtmgbaefgcdglpaaGreatDoorW.PrintLast Go.Proofs.YtmgbaefgcdglpaaGreatDoorW.PrintMore
set_option linter.unusedVariables false
set_option linter.unusedSimpArgs false
def Parts {α : Type} (f : α → Int) (l : List α) (lo hi : Nat) : Prop :=
 (∀ (a b : Nat) x y, a ≤ b → l[a]? = some x → l[b]? = some y → f y < 0 → f x < 0) →
  (∀ t x, t < lo → l[t]? = some x → f x < 0) ∧ (∀ t x, hi ≤ t → l[t]? = some x → 0 ≤ f x)
end Go.Proofs.YtmgbaefgcdglpaaGreatDoor.Dir
/- at and live: where a node's device is. -/
namespace Go.Proofs.YtmgbaefgcdglpaaGreatDoor.Dir
open Go Go.RowKit Go.Proofs Go.Proofs.YtmgbaefgcdglpaaGreatDoorW.PrintWords Go.Proofs.YtmgbaefgcdglpaaGreatDoorW.PrintLast Go.Proofs.YtmgbaefgcdglpaaGreatDoorW.PrintMore
set_option linter.unusedVariables false
set_option linter.unusedSimpArgs false
section
variable {w w' : World} {base q : Nat} {B : Book} {A1 : Option Addr} {c1 : Nat} {A2 : Option Addr} {c2 : Nat}
end
theorem owned_at {w : World} {base : Nat} {e : TypeId} {size n c : Nat} {A : Option Addr} {xs : List Value} (h : w.ownsRow base e size (.slice A n c) n xs) (hn : n ≠ 0) : ∃ g, A = some ⟨g, 0, none⟩ := by
 rcases h.2 with ⟨e, e2⟩ | ⟨g, _, _, e, _⟩
 ·omega
 ·injection e with e; exact ⟨g, e⟩
end Go.Proofs.YtmgbaefgcdglpaaGreatDoor.Dir
end
section
namespace Go.Proofs.YtmgbaefgcdglpaaGreatDoor.Dir
open Go Go.RowKit Go.Proofs Go.Proofs.YtmgbaefgcdglpaaGreatDoorW.PrintWords Go.Proofs.YtmgbaefgcdglpaaGreatDoorW.PrintLast Go.Proofs.YtmgbaefgcdglpaaGreatDoorW.PrintMore
set_option linter.unusedVariables false
set_option linter.unusedSimpArgs false
section
variable {P : Program} {ops : Array Oper} {Q : Exit → Act → World → Prop} {rest : List Oper} {a : Act} {w : World} {dst : Option Tmp} {ty : TypeId} {pos : String} {after : Array Edge} {g : Option (Nat × Bool)}
theorem at_load (t : TypeId) (x : Operand) (h : wpList P ops Q (⟨dst, .load t x, ty, pos, after, g⟩ :: rest) a w) : wpList P ops Q (⟨dst, .load t x, ty, pos, after, g⟩ :: rest) a w := h
theorem at_store (t : TypeId) (x y : Operand) (h : wpList P ops Q (⟨dst, .store t x y, ty, pos, after, g⟩ :: rest) a w) : wpList P ops Q (⟨dst, .store t x y, ty, pos, after, g⟩ :: rest) a w := h
theorem at_bslice (t : TypeId) (x : Operand) (h : wpList P ops Q (⟨dst, .buildSlice t 1 #[(0, x)], ty, pos, after, g⟩ :: rest) a w) : wpList P ops Q (⟨dst, .buildSlice t 1 #[(0, x)], ty, pos, after, g⟩ :: rest) a w := h
end
theorem foldl_set (off : Nat) : ∀ (cs : List Value) (s : Nat) (cells : Array Value), off + s + cs.length ≤ cells.size →
  (cs.zipIdx s).foldl (fun (a : Array Value) (p : Value × Nat) => a.setIfInBounds (off + p.2) p.1) cells = (cells.toList.take (off + s) ++ cs ++ cells.toList.drop (off + s + cs.length)).toArray
 | [], s, cells, _ => by simp
 | c :: cs, s, cells, h => by
  have hl : off + s + (cs.length + 1) ≤ cells.toList.length := by simpa using h
  rw [List.zipIdx_cons, List.foldl_cons, foldl_set off cs (s + 1) _ (by simp at h ⊢; omega)]
  have e := list_seg_step cells.toList (off + s) c cs hl
  simp only [Array.toList_setIfInBounds]
  rw [show off + (s + 1) = off + s + 1 by omega, e]
  rfl
theorem fill_cons (place : Nat → Option (Nat × Nat)) (cells : Array Value) (i : Nat) (v : Value) (rest : List (Nat × Value)) (off size : Nat) (hp : place i = some (off, size)) (hv : v.cells.size = size) (hf : off + size ≤ cells.size) :
  Instr.fill place cells ((i, v) :: rest) = Instr.fill place (splice cells.toList off v.cells.toList).toArray rest := by
 have h0 : (v.cells.zipIdx.foldl (fun cs (x : Value × Nat) => cs.setIfInBounds (off + x.2) x.1) cells) = (splice cells.toList off v.cells.toList).toArray := by
  rw [← Array.foldl_toList, Array.toList_zipIdx]
  have := foldl_set off v.cells.toList 0 cells (by simp [hv]; omega)
  simp only [Nat.add_zero] at this
  rw [this]
  simp [splice]
 simp only [Instr.fill, hp]
 rw [if_neg (by simp [hv]; omega)]
 exact congrArg (fun a => Instr.fill place a rest) h0
theorem splice_whole (cur cs : List Value) (h : cur.length = cs.length) : splice cur 0 cs = cs := by
 unfold splice
 rw [List.take_zero, List.drop_eq_nil_of_le (by omega)]
 simp
theorem run_buildSlice1 (P : Program) (w : World) (t elem : TypeId) (k : Nat) (Z : Array Value) (ht : P.underlying t = some (.slice elem)) (hz : ∀ w, (Go.sizeOf elem).run P w = .ok k w) (hv : ∀ w, (zeroValue elem).run P w = .ok (.agg Z) w) (hk : 0 < k) (hk2 : k ≤ 1000) (cs : List Value) (hl : cs.length = k) :
  (Instr.buildSlice t 1 #[(0, .agg cs.toArray)]).run P w = .ok (.slice (some ⟨w.heap.size, 0, none⟩) 1 1) (w.alloc (.cells cs.toArray elem)) := by
 have hfill : Instr.fill (fun i => some (i * k, k)) ((Array.range (1 * k)).map (Z[· % Z.size]!)) [(0, .agg cs.toArray)] = some cs.toArray := by
  rw [fill_cons _ _ 0 _ _ (0 * k) k rfl (by simpa [Value.cells] using hl) (by simp)]
  simp only [Instr.fill, Nat.zero_mul]
  rw [splice_whole _ _ (by simp [Value.cells, hl])]
  simp [Value.cells]
 have h1 : ¬ (1 * k > 2 ^ 24) := by omega
 have h2 : ¬ (1 * k = 0) := by omega
 simp only [Instr.buildSlice, Sem.run_bind, run_underlying ht, Result.andThen_ok, hz, h1, h2, if_false, Sem.run_pure, hv, Value.cells]
 rw [hfill]
 simp [newRow, newObj]
 rfl
theorem execOp_buildSlice (P : Program) (w : World) (t : TypeId) (x : Operand) (o : Oper) (ho : o.op = .buildSlice t 1 #[(0, x)]) (a : Act) (v : Value) (hx : a.eval x = v) (r : Value) (w' : World) (hr : (Instr.buildSlice t 1 #[(0, v)]).run P w = .ok r w') : (execOp a.eval o).run P w = .ok (.value r) w' := by
 unfold execOp
 simp only [ho, Sem.run_bind]
 simp [hx, hr]
theorem wpList_buildSlice1 {P : Program} {w : World} {ops : Array Oper} {rest : List Oper} {o : Oper} {a : Act} {Q : Exit → Act → World → Prop} (hgd : o.guard = none) (t : TypeId) (x : Operand) (ho : o.op = .buildSlice t 1 #[(0, x)]) (v : Value) (hx : a.eval x = v) (r : Value) (w' : World)
  (hr : (Instr.buildSlice t 1 #[(0, v)]).run P w = .ok r w') (h : wpList P ops Q rest (a.put o.dst r) w') : wpList P ops Q (o :: rest) a w :=
 wpList_plain hgd fun K hK => by
  unfold Oper.wp
  rw [execOp_buildSlice P w t x o ho a v hx r w' hr]
  exact hK _ _ h
theorem buildK (w : World) (k : Key) : (Instr.buildSlice 23 1 #[(0, .agg (encK k).toArray)]).run Tryz.prog w = .ok (.slice (some ⟨w.heap.size, 0, none⟩) 1 1) (w.alloc (.cells (encK k).toArray 28)) :=
 run_buildSlice1 Tryz.prog w 23 28 32 _ Tryz.underlying23 Tryz.sizeOf28 Tryz.zeroValue28 (by decide) (by decide) _ (encK_len k)
end Go.Proofs.YtmgbaefgcdglpaaGreatDoor.Dir
/- spend: a key goes among those that are spent. -/
namespace Go.Proofs.YtmgbaefgcdglpaaGreatDoor.Dir
open Go Go.RowKit Go.Proofs Go.Proofs.YtmgbaefgcdglpaaGreatDoorW.PrintWords Go.Proofs.YtmgbaefgcdglpaaGreatDoorW.PrintLast Go.Proofs.YtmgbaefgcdglpaaGreatDoorW.PrintMore
set_option linter.unusedVariables false
set_option linter.unusedSimpArgs false
theorem run_storeAt1 (P : Program) (w : World) (t : TypeId) (hz : ∀ w, (Go.sizeOf t).run P w = .ok 1 w) (g o : Nat) (v : Value) (hv : v.cells = #[v]) (h1 : v.oneCell' = true) (old : Value) (hc : w.cell? ⟨g, o, none⟩ = some old) (hf : w.frozen? ⟨g, o, none⟩ = false) :
  (Instr.storeAt t (.pointer (some ⟨g, o, none⟩)) v).run P w = .ok () (w.setCell ⟨g, o, none⟩ v) := by
 simp only [Instr.storeAt, Instr.sureAddr, storeVar, Sem.run_bind, Sem.run_pure, Result.andThen_ok, hz, hv]
 have e : (⟨g, o, none⟩ : Addr).add 0 = ⟨g, o, none⟩ := by rw [add_at]; rfl
 simp [storeCells, run_store P w _ v _ h1, e, hc, hf]
section
variable {w W W' : World} {base q : Nat} {B : Book} {A1 : Option Addr} {c1 : Nat} {A2 : Option Addr} {c2 bx : Nat} {cs : List Value} {T : TypeId}
end
end Go.Proofs.YtmgbaefgcdglpaaGreatDoor.Dir
end
section
namespace Go.Proofs.YtmgbaefgcdglpaaGreatDoor.Dir
open Go Go.RowKit Go.Proofs Go.Proofs.YtmgbaefgcdglpaaGreatDoorW.PrintWords Go.Proofs.YtmgbaefgcdglpaaGreatDoorW.PrintLast Go.Proofs.YtmgbaefgcdglpaaGreatDoorW.PrintMore
set_option linter.unusedVariables false
set_option linter.unusedSimpArgs false
theorem src_cell {w W : World} {g o n size : Nat} {xs : List Value} (h : SrcAt w (some ⟨g, o, none⟩) n size xs) (hb : Below w.heap.size w W) {j : Nat} {v : Value} (hj : xs[j]? = some v) : W.cell? ⟨g, o + j, none⟩ = some v := by
 have h' := h.2.2 _ rfl j v hj
 rw [add_at] at h'
 rw [hb.cell (World.block_lt_of_cell? w _ h')]
 exact h'
theorem load_devS {w W : World} {g o n : Nat} {l : List Dev} (h : SrcAt w (some ⟨g, o, none⟩) n 35 (flatD l)) (hb : Below w.heap.size w W) {j : Nat} {d : Dev} (hj : l[j]? = some d) :
  (Instr.loadAt 85 (.pointer (some ⟨g, o + j * 35, none⟩))).run Tryz.prog W = .ok (.agg (encD d).toArray) W :=
 run_loadAtK Tryz.prog W 85 35 Tryz.isAgg85 Tryz.sizeOf85 g (o + j * 35) (encD d) (encD_len _) (fun i v hv => by rw [Nat.add_assoc]; exact src_cell h hb (flatMap_at encD 35 encD_len l j d hj i v hv))
def Bare (A : Option Addr) : Prop := ∀ a, A = some a → ∃ g o, a = ⟨g, o, none⟩
theorem flatK_one_more (l : List Key) (k : Key) : flatK (l ++ [k]) = flatK l ++ encK k := by unfold flatK; rw [List.flatMap_append]; simp
theorem flatK_append (a b : List Key) : flatK (a ++ b) = flatK a ++ flatK b := List.flatMap_append
end Go.Proofs.YtmgbaefgcdglpaaGreatDoor.Dir
/- slices.Contains at keys. -/
namespace Go.Proofs.YtmgbaefgcdglpaaGreatDoor.Dir
open Go Go.RowKit Go.Proofs Go.Proofs.YtmgbaefgcdglpaaGreatDoorW.PrintWords Go.Proofs.YtmgbaefgcdglpaaGreatDoorW.PrintLast Go.Proofs.YtmgbaefgcdglpaaGreatDoorW.PrintMore
set_option linter.unusedVariables false
set_option linter.unusedSimpArgs false
end Go.Proofs.YtmgbaefgcdglpaaGreatDoor.Dir
/- fresh: what is wrong with an op's key and expiry. -/
namespace Go.Proofs.YtmgbaefgcdglpaaGreatDoor.Dir
open Go Go.RowKit Go.Proofs Go.Proofs.YtmgbaefgcdglpaaGreatDoorW.PrintWords Go.Proofs.YtmgbaefgcdglpaaGreatDoorW.PrintLast Go.Proofs.YtmgbaefgcdglpaaGreatDoorW.PrintMore
set_option linter.unusedVariables false
set_option linter.unusedSimpArgs false
def zeroKey : Array Value := #[.int .u8 0, .int .u8 0, .int .u8 0, .int .u8 0, .int .u8 0, .int .u8 0, .int .u8 0, .int .u8 0, .int .u8 0, .int .u8 0, .int .u8 0, .int .u8 0, .int .u8 0, .int .u8 0, .int .u8 0, .int .u8 0, .int .u8 0, .int .u8 0, .int .u8 0, .int .u8 0, .int .u8 0, .int .u8 0, .int .u8 0, .int .u8 0, .int .u8 0, .int .u8 0, .int .u8 0, .int .u8 0, .int .u8 0, .int .u8 0, .int .u8 0, .int .u8 0]
theorem zeroKey_eq : (encK key0).toArray = zeroKey := rfl
theorem taken_len (B : Book) (h : Few B) : (takenB B).length ≤ 100 := by
 unfold takenB
 rw [List.length_append, List.length_map]
 have h1 := h.1; have h2 := h.2
 omega
end Go.Proofs.YtmgbaefgcdglpaaGreatDoor.Dir
end
section
namespace Go.Proofs.YtmgbaefgcdglpaaGreatDoor.Dir
open Go Go.RowKit Go.Proofs Go.Proofs.YtmgbaefgcdglpaaGreatDoorW.PrintWords Go.Proofs.YtmgbaefgcdglpaaGreatDoorW.PrintLast Go.Proofs.YtmgbaefgcdglpaaGreatDoorW.PrintMore
set_option linter.unusedVariables false
set_option linter.unusedSimpArgs false
theorem splice_mid {α : Type} (T M D cs : List α) (off : Nat) (h : off + cs.length ≤ M.length) : splice (T ++ (M ++ D)) (T.length + off) cs = T ++ (splice M off cs ++ D) := by
 unfold splice
 rw [List.take_append, List.take_of_length_le (by omega), show T.length + off - T.length = off by omega, List.take_append_of_le_length (by omega),
  List.drop_append, List.drop_eq_nil_of_le (by omega), List.nil_append, show T.length + off + cs.length - T.length = off + cs.length by omega, List.drop_append_of_le_length (by omega)]
 simp only [List.append_assoc]
theorem splice_front {α : Type} (M D cs : List α) (off : Nat) (h : off + cs.length ≤ M.length) : splice (M ++ D) off cs = splice M off cs ++ D := by
 have := splice_mid [] M D cs off h
 simpa using this
theorem flat_parts {α : Type} (f : α → List Value) (k : Nat) (hk : ∀ x, (f x).length = k) (l : List α) (i : Nat) (d : α) (hd : l[i]? = some d) : l.flatMap f = (l.take i).flatMap f ++ (f d ++ (l.drop (i + 1)).flatMap f) ∧ ((l.take i).flatMap f).length = i * k := by
 have hlen : ∀ l : List α, (l.flatMap f).length = l.length * k := fun l => by
  induction l with
  | nil => simp
  | cons a l ih => rw [List.flatMap_cons, List.length_append, hk, ih, List.length_cons, Nat.add_mul]; omega
 obtain ⟨hlt, rfl⟩ := List.getElem?_eq_some_iff.1 hd
 refine ⟨?_, by rw [hlen, List.length_take, Nat.min_eq_left (Nat.le_of_lt hlt)]⟩
 conv => lhs; rw [← List.take_append_drop i l, List.drop_eq_getElem_cons hlt]
 rw [List.flatMap_append, List.flatMap_cons]
theorem flat_set {α : Type} (f : α → List Value) (k : Nat) (hk : ∀ x, (f x).length = k) (l : List α) (i : Nat) (d d' : α) (hd : l[i]? = some d) (off : Nat) (cs : List Value) (ho : off + cs.length ≤ k) (he : f d' = splice (f d) off cs) :
  (l.set i d').flatMap f = splice (l.flatMap f) (i * k + off) cs := by
 obtain ⟨e1, e2⟩ := flat_parts f k hk l i d hd
 have hlt := (List.getElem?_eq_some_iff.1 hd).1
 obtain ⟨e3, e4⟩ := flat_parts f k hk (l.set i d') i d' (by rw [List.getElem?_set, if_pos rfl, if_pos hlt])
 rw [e1, ← e2, splice_mid _ _ _ _ _ (by rw [hk]; omega), ← he, e3]
 rw [List.take_set_of_le (Nat.le_refl i), List.drop_set_of_lt (Nat.lt_succ_self i)]
end Go.Proofs.YtmgbaefgcdglpaaGreatDoor.Dir
end
