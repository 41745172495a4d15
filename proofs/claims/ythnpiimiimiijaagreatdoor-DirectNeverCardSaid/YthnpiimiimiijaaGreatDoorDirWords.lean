/- The directory in plain words: keys, devices, books, ops; what Apply and Valid do. -/
import Derived.Lib.Bytealg
import Derived.WalkKit
namespace Go.Proofs.YthnpiimiimiijaaGreatDoor.Dir

/-! ### keys -/
abbrev Key := { l : List UInt8 // l.length = 32 }
def key0 : Key := ⟨List.replicate 32 0, by simp⟩
instance : Inhabited Key := ⟨key0⟩
def cmpK (a b : Key) : Int := Lib.compareBytes a.1 b.1
def ltK (a b : Key) : Bool := decide (cmpK a b < 0)
def byteV (b : UInt8) : Value := .int .u8 (b.toNat : Int)
def encK (k : Key) : List Value := k.1.map byteV
theorem encK_len (k : Key) : (encK k).length = 32 := by simp [encK, k.2]
theorem encK_one (k : Key) : ∀ v ∈ encK k, v.oneCell' = true := by
  intro v hv
  obtain ⟨b, -, rfl⟩ := List.mem_map.1 hv
  rfl
theorem byteV_inj {a b : UInt8} (h : byteV a = byteV b) : a = b := by
  unfold byteV at h
  have : (a.toNat : Int) = b.toNat := by injection h
  exact UInt8.toNat_inj.1 (by omega)

theorem cmpB_self : ∀ (a : List UInt8), Lib.compareBytes a a = 0
  | [] => rfl
  | x :: a => by unfold Lib.compareBytes; simp [cmpB_self a]
theorem cmpB_eq : ∀ (a b : List UInt8), Lib.compareBytes a b = 0 → a = b
  | [], [], _ => rfl
  | [], _ :: _, h => by simp [Lib.compareBytes] at h
  | _ :: _, [], h => by simp [Lib.compareBytes] at h
  | x :: a, y :: b, h => by
    unfold Lib.compareBytes at h
    split at h
    · simp at h
    · split at h
      · simp at h
      · rename_i h1 h2
        have : x = y := UInt8.le_antisymm (UInt8.not_lt.1 h2) (UInt8.not_lt.1 h1)
        rw [this, cmpB_eq a b h]
theorem cmpB_swap : ∀ (a b : List UInt8), Lib.compareBytes b a = - Lib.compareBytes a b
  | [], [] => rfl
  | [], _ :: _ => by simp [Lib.compareBytes]
  | _ :: _, [] => by simp [Lib.compareBytes]
  | x :: a, y :: b => by
    unfold Lib.compareBytes
    by_cases h1 : x < y
    · have h2 : ¬ y < x := fun h => by
        have := UInt8.lt_trans h1 h
        exact absurd this (UInt8.lt_irrefl _)
      simp [h1, h2]
    · by_cases h2 : y < x
      · simp [h1, h2]
      · simp [h1, h2, cmpB_swap a b]
theorem cmpB_trans : ∀ (a b c : List UInt8), Lib.compareBytes a b < 0 → Lib.compareBytes b c < 0 → Lib.compareBytes a c < 0
  | [], [], _, h, _ => by simp [Lib.compareBytes] at h
  | [], _ :: _, [], _, h => by simp [Lib.compareBytes] at h
  | [], _ :: _, _ :: _, _, _ => by simp [Lib.compareBytes]
  | _ :: _, [], _, h, _ => by simp [Lib.compareBytes] at h
  | _ :: _, _ :: _, [], _, h => by simp [Lib.compareBytes] at h
  | x :: a, y :: b, z :: c, h1, h2 => by
    unfold Lib.compareBytes at h1 h2 ⊢
    split at h1
    · rename_i xy
      split at h2
      · rename_i yz
        rw [if_pos (UInt8.lt_trans xy yz)]; decide
      · split at h2
        · exact absurd h2 (by decide)
        · rename_i n1 n2
          have : y = z := UInt8.le_antisymm (UInt8.not_lt.1 n2) (UInt8.not_lt.1 n1)
          rw [← this, if_pos xy]; decide
    · split at h1
      · exact absurd h1 (by decide)
      · rename_i n1 n2
        have exy : x = y := UInt8.le_antisymm (UInt8.not_lt.1 n2) (UInt8.not_lt.1 n1)
        split at h2
        · rename_i yz
          rw [exy, if_pos yz]; decide
        · split at h2
          · exact absurd h2 (by decide)
          · rename_i m1 m2
            have eyz : y = z := UInt8.le_antisymm (UInt8.not_lt.1 m2) (UInt8.not_lt.1 m1)
            rw [exy, eyz, if_neg (UInt8.lt_irrefl _), if_neg (UInt8.lt_irrefl _)]
            exact cmpB_trans a b c h1 h2
theorem cmpK_zero {a b : Key} : cmpK a b = 0 ↔ a = b := ⟨fun h => Subtype.ext (cmpB_eq _ _ h), fun h => by subst h; exact cmpB_self _⟩
theorem ltK_irrefl (a : Key) : ltK a a = false := by unfold ltK cmpK; rw [cmpB_self]; rfl
theorem ltK_trans {a b c : Key} (h1 : ltK a b = true) (h2 : ltK b c = true) : ltK a c = true := decide_eq_true (cmpB_trans _ _ _ (of_decide_eq_true h1) (of_decide_eq_true h2))
theorem ltK_tri (a b : Key) : ltK a b = true ∨ a = b ∨ ltK b a = true := by
  have hs := cmpB_swap a.1 b.1
  by_cases h : cmpK a b < 0
  · exact .inl (decide_eq_true h)
  · by_cases h0 : cmpK a b = 0
    · exact .inr (.inl (cmpK_zero.1 h0))
    · refine .inr (.inr (decide_eq_true ?_))
      unfold cmpK at h h0 ⊢
      omega
theorem ltK_asymm {a b : Key} (h : ltK a b = true) : ltK b a = false := by
  cases h2 : ltK b a
  · rfl
  · have := ltK_trans h h2
    rw [ltK_irrefl] at this; cases this

/-! ### devices, books, ops -/
structure Dev where
  node : Int
  key : Key
  exp : Int
  rev : Bool
  deriving DecidableEq, Inhabited
def encD (d : Dev) : List Value := .int .i64 d.node :: (encK d.key ++ [.int .i64 d.exp, .bool d.rev])
theorem encD_len (d : Dev) : (encD d).length = 35 := by simp [encD, encK_len]
theorem encD_one (d : Dev) : ∀ v ∈ encD d, v.oneCell' = true := by
  intro v hv
  simp only [encD, List.mem_cons, List.mem_append, List.not_mem_nil, or_false] at hv
  rcases hv with rfl | hv | rfl | rfl
  · rfl
  · exact encK_one _ _ hv
  · rfl
  · rfl
def flatD (l : List Dev) : List Value := l.flatMap encD
def flatK (l : List Key) : List Value := l.flatMap encK
theorem flatD_len (l : List Dev) : (flatD l).length = l.length * 35 := by
  induction l with
  | nil => rfl
  | cons d l ih => rw [flatD, List.flatMap_cons, List.length_append, encD_len, ← flatD, ih, List.length_cons]; omega
theorem flatK_len (l : List Key) : (flatK l).length = l.length * 32 := by
  induction l with
  | nil => rfl
  | cons d l ih => rw [flatK, List.flatMap_cons, List.length_append, encK_len, ← flatK, ih, List.length_cons]; omega
structure Book where
  ver : Int
  clock : Int
  devs : List Dev
  spent : List Key
  acl : List UInt8
  deriving DecidableEq, Inhabited
def book0 : Book := ⟨0, 0, [], [], []⟩
structure Op where
  kind : Int
  node : Int
  key : Key
  exp : Int
  text : List UInt8
  at_ : Int
  deriving DecidableEq, Inhabited
def encO (o : Op) : List Value := .int .i64 o.kind :: .int .i64 o.node :: (encK o.key ++ [.int .i64 o.exp, .string ⟨o.text.toArray⟩, .int .i64 o.at_])
def maxN : Int := 9007199254740991
def number (n : Int) : Bool := decide (0 ≤ n ∧ n ≤ maxN)
/-- How many devices' nodes are below one: where its device is, or would be. -/
def posD (l : List Dev) (node : Int) : Nat := l.countP fun d => decide (d.node < node)
def hasD (l : List Dev) (node : Int) : Bool := l.any fun d => decide (d.node = node)
def takenB (b : Book) : List Key := b.spent ++ b.devs.map (·.key)
def freshOf (b : Book) (o : Op) (more : Bool) : Int :=
  if o.key = key0 ∨ o.key ∈ takenB b then 221
  else if o.exp < 1 ∨ number o.exp = false ∨ o.exp ≤ b.clock then 9
  else if more = true ∧ b.spent.length = 64 then 5
  else 0
def posK (l : List Key) (k : Key) : Nat := l.countP fun x => ltK x k
def insertAt {α : Type} (l : List α) (i : Nat) (x : α) : List α := l.take i ++ x :: l.drop i
def spendOf (b : Book) (k : Key) : Book := { b with spent := insertAt b.spent (posK b.spent k) k }
def devAt (b : Book) (node : Int) : Dev := b.devs.getD (posD b.devs node) default
def devOf (o : Op) : Dev := ⟨o.node, o.key, o.exp, false⟩
def registerOf (b : Book) (o : Op) : Book × Int :=
  if o.node < 1 ∨ 8 < o.node ∨ hasD b.devs o.node = true ∧ (devAt b o.node).rev = false then (b, 220)
  else if freshOf b o (hasD b.devs o.node) = 0 then
    if hasD b.devs o.node = true then ({ spendOf b (devAt b o.node).key with devs := b.devs.set (posD b.devs o.node) (devOf o) }, 0)
    else ({ b with devs := insertAt b.devs (posD b.devs o.node) (devOf o) }, 0)
  else (b, freshOf b o (hasD b.devs o.node))
def liveOf (b : Book) (node : Int) : Int := if hasD b.devs node = false then 220 else if (devAt b node).rev = true then 222 else 0
def rotateOf (b : Book) (o : Op) : Book × Int :=
  if liveOf b o.node = 0 then
    if freshOf b o true = 0 then ({ spendOf b (devAt b o.node).key with devs := b.devs.set (posD b.devs o.node) (devOf o) }, 0)
    else (b, freshOf b o true)
  else (b, liveOf b o.node)
def revokeOf (b : Book) (o : Op) : Book × Int :=
  if liveOf b o.node = 0 then ({ b with devs := b.devs.set (posD b.devs o.node) { devAt b o.node with rev := true } }, 0)
  else (b, liveOf b o.node)
def advanceOf (b : Book) (o : Op) : Book × Int := if o.at_ ≤ b.clock ∨ number o.at_ = false then (b, 9) else ({ b with clock := o.at_ }, 0)
/-- The book behind an op, and what is wrong with it; 'rules': what is wrong with a text of rules. -/
def nextOf (rules : List UInt8 → Int) (b : Book) (o : Op) : Book × Int :=
  if o.kind = 1 then registerOf b o else if o.kind = 2 then rotateOf b o else if o.kind = 3 then revokeOf b o
  else if o.kind = 4 then ({ b with acl := o.text }, rules o.text) else if o.kind = 5 then advanceOf b o else (b, 2)
def errOf (rules : List UInt8 → Int) (b : Book) (o : Op) : Int :=
  if (nextOf rules b o).2 = 0 ∧ (nextOf rules b o).1.ver = maxN then 5 else (nextOf rules b o).2
def applyOf (rules : List UInt8 → Int) (b : Book) (o : Op) : Book :=
  if errOf rules b o = 0 then { (nextOf rules b o).1 with ver := (nextOf rules b o).1.ver + 1 } else b
def validOf (b : Book) (k : Key) (now : Int) : Option Int :=
  match b.devs.find? (fun d => decide (d.key = k)) with
  | none => none
  | some d => if d.rev = true ∨ d.exp ≤ now ∨ d.exp ≤ b.clock then none else some d.node
/-- What holds of all books that a directory has. -/
structure WF (b : Book) : Prop where
  ver : 0 ≤ b.ver ∧ b.ver ≤ maxN
  clock : 0 ≤ b.clock ∧ b.clock ≤ maxN
  devs : b.devs.Pairwise (·.node < ·.node)
  nodes : ∀ d ∈ b.devs, 1 ≤ d.node ∧ d.node ≤ 8
  exps : ∀ d ∈ b.devs, 1 ≤ d.exp ∧ d.exp ≤ maxN
  spent : b.spent.Pairwise (fun a b => ltK a b = true)
  len : b.spent.length ≤ 64
  keys : (takenB b).Nodup
  nonzero : key0 ∉ takenB b
end Go.Proofs.YthnpiimiimiijaaGreatDoor.Dir
