/- Netmaps, deltas, in plain words: what may be; Diff, Apply. Netmaps in memory: kinds; peers that are read. A region that draws its order: an invariant. Regions that draw, by what holds of each operation. -- printed by a program of this session (a turned copy of the kit's print program) -/
import Derived.Test.YtmgbaefgcdglpaaGreatDoorNc13
import Derived.Test.YtmgbaefgcdglpaaGreatDoorNc11
import Derived.Test.YtmgbaefgcdglpaaGreatDoorNc15
import Derived.Test.YtmgbaefgcdglpaaGreatDoorNc16
section
set_option linter.unusedVariables false
set_option linter.unusedSimpArgs false
namespace Go.Proofs.YtmgbaefgcdglpaaGreatDoor.Net
open Go.Proofs.YtmgbaefgcdglpaaGreatDoor.Dir
abbrev Sp := PA.S80
instance : DecidableEq PA.S80 := fun a b => if h : a.f0 = b.f0 ∧ a.f1 = b.f1 then isTrue (by cases a; cases b; simp only at h; rw [h.1, h.2]) else isFalse (fun e => h (by rw [e]; exact ⟨rfl, rfl⟩))
instance : Inhabited PA.S80 := ⟨PA.z80⟩
structure Peer where
 node : Int
 key : Key
 exp : Int
 inn : List Sp
 out : List Sp
 deriving DecidableEq, Inhabited
structure NMap where
 ver : Int
 clock : Int
 node : Int
 key : Key
 exp : Int
 peers : List Peer
 deriving DecidableEq, Inhabited
structure NDel where
 frm : Int
 til : Int
 clock : Int
 node : Int
 key : Key
 exp : Int
 gone : List Int
 set : List Peer
 deriving DecidableEq, Inhabited
def map0 : NMap := ⟨0, 0, 0, key0, 0, []⟩
def del0 : NDel := ⟨0, 0, 0, 0, key0, 0, [], []⟩
def nodeIn (n : Int) : Bool := decide (1 ≤ n ∧ n ≤ 8)
def spanGo : Int → List Sp → Bool
 | _, [] => true
 | last, s :: l => decide (last + 1 < s.f0 ∧ 0 ≤ s.f0 ∧ s.f0 ≤ s.f1 ∧ s.f1 ≤ 65535) && spanGo s.f1 l
def spansOk (l : List Sp) : Bool := spanGo (-2) l && decide (l.length ≤ 33)
def peerOk (clock node last : Int) (ks : List Key) (p : Peer) : Bool :=
 decide (last < p.node) && nodeIn p.node && decide (p.node ≠ node) && decide (p.key ∉ ks) && number p.exp && decide (clock < p.exp) && spansOk p.inn && spansOk p.out && decide (p.inn.length + p.out.length ≠ 0)
def peersGo (clock node : Int) : Int → List Key → List Peer → Bool
 | _, _, [] => true
 | last, ks, p :: l => peerOk clock node last ks p && peersGo clock node p.node (ks ++ [p.key]) l
def headOk (clock node : Int) (key : Key) (exp : Int) (ps : List Peer) : Bool :=
 number clock && nodeIn node && (if key = key0 then decide (exp = 0) && ps.isEmpty else number exp && decide (clock < exp) && peersGo clock node 0 [key0, key] ps)
def okM (m : NMap) : Bool := number m.ver && headOk m.clock m.node m.key m.exp m.peers
def goneGo (node : Int) (set : List Peer) : Int → List Int → Bool
 | _, [] => true
 | last, n :: l => decide (last < n) && nodeIn n && decide (n ≠ node) && !(set.any fun p => decide (p.node = n)) && goneGo node set n l
def okD (d : NDel) : Bool := number d.frm && number d.til && decide (d.frm ≤ d.til) && headOk d.clock d.node d.key d.exp d.set && goneGo d.node d.set 0 d.gone
def atP (l : List Peer) (n : Int) : Option Peer := l.find? fun p => decide (p.node = n)
def diffV (a b : NMap) : NDel :=
 ⟨a.ver, b.ver, b.clock, b.node, b.key, b.exp, (a.peers.filter fun p => (atP b.peers p.node).isNone).map (·.node), b.peers.filter fun p => decide (atP a.peers p.node ≠ some p)⟩
def diffOf (a b : NMap) : NDel × Int :=
 if okM a = false ∨ okM b = false then (del0, 2) else if a.node ≠ b.node ∨ b.ver < a.ver then (del0, 230) else (diffV a b, 0)
def putAt (m : NMap) (d : NDel) (n : Int) : Option Peer :=
 match atP d.set n with
 | some p => some p
 | none => if n ∈ d.gone then none else atP m.peers n
def putM (m : NMap) (d : NDel) : NMap := ⟨d.til, d.clock, d.node, d.key, d.exp, [1, 2, 3, 4, 5, 6, 7, 8].filterMap (putAt m d)⟩
def applyOf (m : NMap) (d : NDel) : NMap × Int :=
 if okM m = false ∨ okD d = false then (map0, 2) else if d.node ≠ m.node ∨ d.frm ≠ m.ver then (map0, 230)
 else if d.gone.any (fun n => (atP m.peers n).isNone) then (map0, 2) else if okM (putM m d) = false then (map0, 2) else (putM m d, 0)
theorem peersGo_nodes (c s : Int) : ∀ (l : List Peer) (last : Int) (ks : List Key), peersGo c s last ks l = true → (∀ p ∈ l, last < p.node) ∧ l.Pairwise (fun a b => a.node < b.node)
 | [], _, _, _ => ⟨fun _ h => (by cases h), List.Pairwise.nil⟩
 | p :: l, last, ks, h => by
  unfold peersGo at h
  simp only [Bool.and_eq_true] at h
  obtain ⟨h1, h2⟩ := h
  obtain ⟨i1, i2⟩ := peersGo_nodes c s l p.node _ h2
  have hp : last < p.node := by unfold peerOk at h1; simp only [Bool.and_eq_true, decide_eq_true_eq] at h1; omega
  refine ⟨fun q hq => ?_, List.pairwise_cons.2 ⟨i1, i2⟩⟩
  rcases List.mem_cons.1 hq with rfl | hq
  ·exact hp
  ·have := i1 q hq; omega
theorem peersGo_in (c s : Int) : ∀ (l : List Peer) (last : Int) (ks : List Key), peersGo c s last ks l = true → ∀ p ∈ l, 1 ≤ p.node ∧ p.node ≤ 8 ∧ p.node ≠ s
 | [], _, _, _, _, h => by cases h
 | p :: l, last, ks, h, q, hq => by
  unfold peersGo at h
  simp only [Bool.and_eq_true] at h
  obtain ⟨h1, h2⟩ := h
  rcases List.mem_cons.1 hq with rfl | hq
  ·unfold peerOk nodeIn at h1
   simp only [Bool.and_eq_true, decide_eq_true_eq] at h1
   omega
  ·exact peersGo_in c s l p.node _ h2 q hq
theorem okM_nodes {m : NMap} (h : okM m = true) : m.peers.Pairwise (fun a b => a.node < b.node) ∧ ∀ p ∈ m.peers, 1 ≤ p.node ∧ p.node ≤ 8 := by
 unfold okM headOk at h
 simp only [Bool.and_eq_true] at h
 obtain ⟨-, -, h⟩ := h
 split at h
 ·simp only [Bool.and_eq_true, List.isEmpty_iff] at h
  rw [h.2]; exact ⟨List.Pairwise.nil, fun _ h => by cases h⟩
 ·simp only [Bool.and_eq_true] at h
  exact ⟨(peersGo_nodes _ _ _ _ _ h.2).2, fun p hp => by have := peersGo_in _ _ _ _ _ h.2 p hp; omega⟩
theorem atP_mem {l : List Peer} {n : Int} {p : Peer} (h : atP l n = some p) : p ∈ l ∧ p.node = n := ⟨List.mem_of_find?_eq_some h, by have := List.find?_some h; simpa using this⟩
theorem atP_none {l : List Peer} {n : Int} : atP l n = none ↔ ∀ p ∈ l, p.node ≠ n := by
 unfold atP; rw [List.find?_eq_none]; simp
theorem atP_of {l : List Peer} (h : l.Pairwise (fun a b => a.node < b.node)) {p : Peer} (hp : p ∈ l) : atP l p.node = some p := by
 induction l with
 | nil => cases hp
 | cons a l ih =>
  obtain ⟨h1, h2⟩ := List.pairwise_cons.1 h
  unfold atP
  rcases List.mem_cons.1 hp with rfl | hq
  ·simp
  ·have := h1 p hq
   rw [List.find?_cons_of_neg (by simp; omega)]
   exact ih h2 hq
theorem nodes_read : ∀ (ns : List Int) (l : List Peer), ns.Pairwise (· < ·) → l.Pairwise (fun a b => a.node < b.node) → (∀ p ∈ l, p.node ∈ ns) → ns.filterMap (atP l) = l
 | [], [], _, _, _ => rfl
 | [], p :: l, _, _, h => by have := h p (List.mem_cons_self ..); cases this
 | n :: ns, [], _, _, _ => by
  have : ∀ n, atP [] n = none := fun _ => rfl
  simp [this]
 | n :: ns, p :: l, h1, h2, h3 => by
  obtain ⟨a1, a2⟩ := List.pairwise_cons.1 h1
  obtain ⟨b1, b2⟩ := List.pairwise_cons.1 h2
  have hsame : ∀ (k : List Int), (∀ x ∈ k, x ≠ p.node) → k.filterMap (atP (p :: l)) = k.filterMap (atP l) := by
   intro k hk
   induction k with
   | nil => rfl
   | cons x k ihk =>
    have e : atP (p :: l) x = atP l x := by
     unfold atP
     rw [List.find?_cons_of_neg (by have := hk x (List.mem_cons_self ..); simp; omega)]
    rw [List.filterMap_cons, List.filterMap_cons, e, ihk (fun y hy => hk y (List.mem_cons_of_mem _ hy))]
  by_cases hn : p.node = n
  ·subst hn
   rw [List.filterMap_cons_some (b := p) (by unfold atP; simp)]
   rw [hsame ns (fun x hx => by have := a1 x hx; omega)]
   rw [nodes_read ns l a2 b2 (fun q hq => by
    have := h3 q (List.mem_cons_of_mem _ hq)
    rcases List.mem_cons.1 this with e | e
    ·have := b1 q hq; omega
    ·exact e)]
  ·have hp : p.node ∈ ns := by
    rcases List.mem_cons.1 (h3 p (List.mem_cons_self ..)) with e | e
    ·exact absurd e hn
    ·exact e
   have hlt := a1 _ hp
   have hno : atP (p :: l) n = none := atP_none.2 fun q hq => by
    rcases List.mem_cons.1 hq with rfl | hq
    ·omega
    ·have := b1 q hq; omega
   rw [List.filterMap_cons_none hno]
   exact nodes_read ns (p :: l) a2 h2 (fun q hq => by
    rcases List.mem_cons.1 (h3 q hq) with e | e
    ·rcases List.mem_cons.1 hq with rfl | hq
     ·omega
     ·have := b1 q hq; omega
    ·exact e)
theorem eight : ∀ {n : Int}, 1 ≤ n → n ≤ 8 → n ∈ ([1, 2, 3, 4, 5, 6, 7, 8] : List Int) := by
 intro n h1 h2
 have : n = 1 ∨ n = 2 ∨ n = 3 ∨ n = 4 ∨ n = 5 ∨ n = 6 ∨ n = 7 ∨ n = 8 := by omega
 simp only [List.mem_cons, List.not_mem_nil, or_false]; exact this
theorem peers_read {m : NMap} (h : okM m = true) : ([1, 2, 3, 4, 5, 6, 7, 8] : List Int).filterMap (atP m.peers) = m.peers := by
 obtain ⟨h1, h2⟩ := okM_nodes h
 exact nodes_read _ _ (by decide) h1 fun p hp => eight (h2 p hp).1 (h2 p hp).2
theorem putAt_diff {a b : NMap} (ha : okM a = true) (hb : okM b = true) (n : Int) : putAt a (diffV a b) n = atP b.peers n := by
 obtain ⟨a1, a2⟩ := okM_nodes ha
 obtain ⟨b1, b2⟩ := okM_nodes hb
 unfold putAt
 have hset : ∀ q, atP (diffV a b).set n = some q → atP b.peers n = some q := fun q hq => by
  obtain ⟨m1, rfl⟩ := atP_mem hq
  exact atP_of b1 (List.mem_filter.1 m1).1
 cases hs : atP (diffV a b).set n with
 | some q => simp only; exact (hset q hs).symm
 | none =>
  simp only
  have hg : n ∈ (diffV a b).gone ↔ (∃ p ∈ a.peers, p.node = n) ∧ atP b.peers n = none := by
   unfold diffV
   simp only [List.mem_map, List.mem_filter]
   constructor
   ·rintro ⟨p, ⟨hp, hn⟩, rfl⟩; exact ⟨⟨p, hp, rfl⟩, by simpa using hn⟩
   ·rintro ⟨⟨p, hp, rfl⟩, hn⟩; exact ⟨p, ⟨hp, by rw [hn]; rfl⟩, rfl⟩
  cases hq : atP b.peers n with
  | none =>
   split
   ·rfl
   ·rename_i hno
    refine atP_none.2 fun p hp hpn => hno (hg.2 ⟨⟨p, hp, hpn⟩, hq⟩)
  | some q =>
   rw [if_neg (fun h => by rw [(hg.1 h).2] at hq; cases hq)]
   obtain ⟨m1, rfl⟩ := atP_mem hq
   have hns := atP_none.1 hs
   by_cases he : atP a.peers q.node = some q
   ·exact he
   ·exact absurd rfl (hns q (List.mem_filter.2 ⟨m1, by simpa using he⟩))
theorem put_diff {a b : NMap} (ha : okM a = true) (hb : okM b = true) : putM a (diffV a b) = b := by
 have h1 : putAt a (diffV a b) = atP b.peers := funext (putAt_diff ha hb)
 unfold putM
 rw [h1, peers_read hb]
 rfl
theorem peerOk_less {c s last last' : Int} {ks ks' : List Key} {p : Peer} (hl : last' ≤ last) (hk : ∀ k ∈ ks', k ∈ ks) (h : peerOk c s last ks p = true) : peerOk c s last' ks' p = true := by
 unfold peerOk at h ⊢
 simp only [Bool.and_eq_true, decide_eq_true_eq] at h ⊢
 obtain ⟨⟨⟨⟨⟨⟨⟨⟨h1, h2⟩, h3⟩, h4⟩, h5⟩, h6⟩, h7⟩, h8⟩, h9⟩ := h
 exact ⟨⟨⟨⟨⟨⟨⟨⟨by omega, h2⟩, h3⟩, fun e => h4 (hk _ e)⟩, h5⟩, h6⟩, h7⟩, h8⟩, h9⟩
theorem peersGo_filter (c s : Int) (f : Peer → Bool) : ∀ (l : List Peer) (last last' : Int) (ks ks' : List Key), last' ≤ last → (∀ k ∈ ks', k ∈ ks) → peersGo c s last ks l = true → peersGo c s last' ks' (l.filter f) = true
 | [], _, _, _, _, _, _, _ => rfl
 | p :: l, last, last', ks, ks', hl, hk, h => by
  unfold peersGo at h
  simp only [Bool.and_eq_true] at h
  obtain ⟨h1, h2⟩ := h
  have hn : last < p.node := by unfold peerOk at h1; simp only [Bool.and_eq_true, decide_eq_true_eq] at h1; omega
  cases hf : f p with
  | false =>
   rw [List.filter_cons_of_neg (by rw [hf]; decide)]
   exact peersGo_filter c s f l p.node last' _ ks' (by omega) (fun k hk' => List.mem_append_left _ (hk k hk')) h2
  | true =>
   rw [List.filter_cons_of_pos hf]
   unfold peersGo
   rw [peerOk_less hl hk h1, Bool.true_and]
   refine peersGo_filter c s f l p.node p.node _ _ (Int.le_refl _) (fun k hk' => ?_) h2
   rcases List.mem_append.1 hk' with e | e
   ·exact List.mem_append_left _ (hk k e)
   ·exact List.mem_append_right _ e
theorem goneGo_of (node : Int) (set : List Peer) : ∀ (l : List Int) (last : Int), l.Pairwise (· < ·) → (∀ n ∈ l, last < n ∧ 1 ≤ n ∧ n ≤ 8 ∧ n ≠ node ∧ ∀ p ∈ set, p.node ≠ n) → goneGo node set last l = true
 | [], _, _, _ => rfl
 | n :: l, last, h1, h2 => by
  obtain ⟨a1, a2⟩ := List.pairwise_cons.1 h1
  obtain ⟨b1, b2, b3, b4, b5⟩ := h2 n (List.mem_cons_self ..)
  unfold goneGo
  rw [goneGo_of node set l n a2 (fun m hm => by have := h2 m (List.mem_cons_of_mem _ hm); exact ⟨a1 m hm, this.2⟩)]
  unfold nodeIn
  have h5 : (set.any fun p => decide (p.node = n)) = false := by
   rw [List.any_eq_false]; intro p hp; simpa using b5 p hp
  rw [h5]
  simp only [Bool.not_false, Bool.and_true, Bool.and_eq_true, decide_eq_true_eq]
  exact ⟨⟨b1, b2, b3⟩, b4⟩
theorem okM_in {m : NMap} (h : okM m = true) : ∀ p ∈ m.peers, p.node ≠ m.node := by
 unfold okM headOk at h
 simp only [Bool.and_eq_true] at h
 obtain ⟨-, -, h⟩ := h
 split at h
 ·simp only [Bool.and_eq_true, List.isEmpty_iff] at h
  rw [h.2]; exact fun _ h => (by cases h)
 ·simp only [Bool.and_eq_true] at h
  exact fun p hp => (peersGo_in _ _ _ _ _ h.2 p hp).2.2
theorem okD_diff {a b : NMap} (ha : okM a = true) (hb : okM b = true) (hn : a.node = b.node) (hv : a.ver ≤ b.ver) : okD (diffV a b) = true := by
 obtain ⟨a1, a2⟩ := okM_nodes ha
 obtain ⟨b1, b2⟩ := okM_nodes hb
 have ha' := ha
 have hb' := hb
 unfold okM at ha hb
 simp only [Bool.and_eq_true] at ha hb
 obtain ⟨hva, -⟩ := ha
 obtain ⟨hvb, hh⟩ := hb
 unfold okD
 have h1 : headOk (diffV a b).clock (diffV a b).node (diffV a b).key (diffV a b).exp (diffV a b).set = true := by
  unfold headOk at hh ⊢
  simp only [Bool.and_eq_true] at hh ⊢
  refine ⟨hh.1, ?_⟩
  have h2 := hh.2
  show (if b.key = key0 then _ else _) = true
  split
  ·rename_i hk
   rw [if_pos hk] at h2
   simp only [Bool.and_eq_true, List.isEmpty_iff] at h2 ⊢
   refine ⟨h2.1, ?_⟩
   show b.peers.filter _ = []
   rw [h2.2]; rfl
  ·rename_i hk
   rw [if_neg hk] at h2
   simp only [Bool.and_eq_true] at h2 ⊢
   exact ⟨h2.1, peersGo_filter _ _ _ _ _ _ _ _ (Int.le_refl _) (fun k h => h) h2.2⟩
 have h2 : goneGo (diffV a b).node (diffV a b).set 0 (diffV a b).gone = true := by
  refine goneGo_of _ _ _ _ ?_ fun n hn' => ?_
  ·show ((a.peers.filter _).map _).Pairwise _
   rw [List.pairwise_map]
   exact a1.filter _
  ·obtain ⟨p, hp, rfl⟩ := List.mem_map.1 hn'
   obtain ⟨hp, hq⟩ := List.mem_filter.1 hp
   have := a2 p hp
   refine ⟨by omega, this.1, this.2, ?_, fun q hqs => ?_⟩
   ·show p.node ≠ b.node
    rw [← hn]; exact okM_in ha' p hp
   ·have hqb := (List.mem_filter.1 hqs).1
    intro e
    rw [← e, atP_of b1 hqb] at hq
    simp at hq
 rw [h1, h2]
 simp only [Bool.and_true, Bool.and_eq_true, decide_eq_true_eq]
 exact ⟨⟨hva, hvb⟩, hv⟩
theorem apply_diff {a b : NMap} (ha : okM a = true) (hb : okM b = true) (hn : a.node = b.node) (hv : a.ver ≤ b.ver) : applyOf a (diffV a b) = (b, 0) := by
 unfold applyOf
 have h0 : (diffV a b).gone.any (fun n => (atP a.peers n).isNone) = false := by
  rw [List.any_eq_false]
  intro n hn'
  obtain ⟨p, hp, rfl⟩ := List.mem_map.1 hn'
  rw [atP_of (okM_nodes ha).1 (List.mem_filter.1 hp).1]
  simp
 rw [if_neg (by rw [ha, okD_diff ha hb hn hv]; decide), if_neg (fun e => e.elim (fun e => e hn.symm) (fun e => e rfl)), h0, if_neg (by decide), put_diff ha hb, if_neg (by rw [hb]; decide)]
theorem arrives (a b : NMap) : if (diffOf a b).2 = 0 then applyOf a (diffOf a b).1 = (b, 0) else okM a = false ∨ okM b = false ∨ a.node ≠ b.node ∨ b.ver < a.ver := by
 unfold diffOf
 by_cases h1 : okM a = false ∨ okM b = false
 ·rw [if_pos h1]; simp only
  rcases h1 with h | h <;> simp [h]
 ·rw [if_neg h1]
  by_cases h2 : a.node ≠ b.node ∨ b.ver < a.ver
  ·rw [if_pos h2]; simp only
   rcases h2 with h | h
   ·simp [h]
   ·simp [h]
  ·rw [if_neg h2]
   simp only [if_true]
   exact apply_diff (by simpa using fun e => h1 (.inl e)) (by simpa using fun e => h1 (.inr e)) (Classical.not_not.1 fun e => h2 (.inl e)) (by omega)
theorem diff_ok {a b : NMap} (h : (diffOf a b).2 = 0) : okM a = true ∧ okM b = true ∧ a.node = b.node ∧ a.ver ≤ b.ver ∧ diffOf a b = (diffV a b, 0) := by
 unfold diffOf at h ⊢
 by_cases h1 : okM a = false ∨ okM b = false
 ·rw [if_pos h1] at h; exact absurd h (by decide)
 ·rw [if_neg h1] at h ⊢
  by_cases h2 : a.node ≠ b.node ∨ b.ver < a.ver
  ·rw [if_pos h2] at h; exact absurd h (by decide)
  ·rw [if_neg h2]
   exact ⟨by simpa using fun e => h1 (.inl e), by simpa using fun e => h1 (.inr e), Classical.not_not.1 fun e => h2 (.inl e), by omega, rfl⟩
theorem chain (a b c : NMap) (h1 : (diffOf a b).2 = 0) (h2 : (diffOf b c).2 = 0) : (diffOf a c).2 = 0 ∧ applyOf a (diffOf a b).1 = (b, 0) ∧ applyOf b (diffOf b c).1 = (c, 0) ∧ applyOf a (diffOf a c).1 = (c, 0) := by
 obtain ⟨a1, a2, a3, a4, a5⟩ := diff_ok h1
 obtain ⟨b1, b2, b3, b4, b5⟩ := diff_ok h2
 have h3 : diffOf a c = (diffV a c, 0) := by
  unfold diffOf
  rw [if_neg (by rw [a1, b2]; decide), if_neg (by rw [a3, b3]; simp; omega)]
 rw [a5, b5, h3]
 exact ⟨rfl, apply_diff a1 a2 a3 a4, apply_diff b1 b2 b3 b4, apply_diff a1 b2 (a3.trans b3) (by omega)⟩
theorem diff_self {m : NMap} (h : okM m = true) : diffOf m m = (⟨m.ver, m.ver, m.clock, m.node, m.key, m.exp, [], []⟩, 0) := by
 unfold diffOf
 rw [if_neg (by rw [h]; decide), if_neg (by simp)]
 have e1 : (m.peers.filter fun p => (atP m.peers p.node).isNone) = [] := List.filter_eq_nil_iff.2 fun p hp => by rw [atP_of (okM_nodes h).1 hp]; simp
 have e2 : (m.peers.filter fun p => decide (atP m.peers p.node ≠ some p)) = [] := List.filter_eq_nil_iff.2 fun p hp => by rw [atP_of (okM_nodes h).1 hp]; simp
 unfold diffV
 rw [e1, e2]
 rfl
def diffGo : List Peer → List Peer → List Int → List Peer → List Int × List Peer
 | [], old, g, s => (g ++ old.map (·.node), s)
 | p :: l, old, g, s =>
  let g' := g ++ (old.takeWhile fun q => decide (q.node < p.node)).map (·.node)
  match old.dropWhile (fun q => decide (q.node < p.node)) with
  | [] => diffGo l [] g' (s ++ [p])
  | q :: r => if q.node = p.node then (if q = p then diffGo l r g' s else diffGo l r g' (s ++ [p])) else diffGo l (q :: r) g' (s ++ [p])
theorem atP_low {l : List Peer} {p : Peer} {n : Int} (h : ∀ q ∈ p :: l, n < q.node) : atP (p :: l) n = none := atP_none.2 fun q hq => by have := h q hq; omega
theorem filter_same {α : Type} {f g : α → Bool} : ∀ {l : List α}, (∀ x ∈ l, f x = g x) → l.filter f = l.filter g
 | [], _ => rfl
 | x :: l, h => by rw [List.filter_cons, List.filter_cons, h x (List.mem_cons_self ..), filter_same (fun y hy => h y (List.mem_cons_of_mem _ hy))]
theorem diffGo_eq : ∀ (l old : List Peer) (g : List Int) (s : List Peer), l.Pairwise (fun a b => a.node < b.node) → old.Pairwise (fun a b => a.node < b.node) →
  diffGo l old g s = (g ++ (old.filter fun p => (atP l p.node).isNone).map (·.node), s ++ l.filter fun p => decide (atP old p.node ≠ some p))
 | [], old, g, s, _, _ => by
  have h1 : (old.filter fun p => (atP [] p.node).isNone) = old := List.filter_eq_self.2 fun p _ => rfl
  unfold diffGo
  rw [h1]
  simp
 | p :: l, old, g, s, h1, h2 => by
  obtain ⟨a1, a2⟩ := List.pairwise_cons.1 h1
  have hsplit : old.takeWhile (fun q => decide (q.node < p.node)) ++ old.dropWhile (fun q => decide (q.node < p.node)) = old := List.takeWhile_append_dropWhile
  have hlow : ∀ q ∈ old.takeWhile (fun q => decide (q.node < p.node)), q.node < p.node := by
   intro q hq
   have hall : (old.takeWhile (fun q => decide (q.node < p.node))).all (fun q => decide (q.node < p.node)) = true := List.all_takeWhile
   simpa using List.all_eq_true.1 hall q hq
  have hhd : ∀ q r, old.dropWhile (fun q => decide (q.node < p.node)) = q :: r → p.node ≤ q.node := by
   intro q r e
   have := List.head?_dropWhile_not (fun q : Peer => decide (q.node < p.node)) old
   rw [e] at this
   simpa using this
  generalize hlo : old.takeWhile (fun q => decide (q.node < p.node)) = lo at *
  generalize hhi : old.dropWhile (fun q => decide (q.node < p.node)) = hi at *
  subst hsplit
  obtain ⟨b1, b2, b3⟩ := List.pairwise_append.1 h2
  have eLo : lo.filter (fun q => (atP (p :: l) q.node).isNone) = lo := List.filter_eq_self.2 fun q hq => by
   have hq' := hlow q hq
   rw [atP_low (fun x hx => by
    rcases List.mem_cons.1 hx with rfl | hx
    ·exact hq'
    ·have := a1 x hx; omega)]
   rfl
  have eL : ∀ (k : List Peer), (∀ x ∈ k, p.node ≤ x.node) → k.filter (fun x => decide (atP (lo ++ hi) x.node ≠ some x)) = k.filter (fun x => decide (atP hi x.node ≠ some x)) := by
   intro k hk
   refine filter_same fun x hx => ?_
   have : atP (lo ++ hi) x.node = atP hi x.node := by
    unfold atP
    rw [List.find?_append, List.find?_eq_none.2 (fun q hq => by have := hlow q hq; have := hk x hx; simp; omega)]
    rfl
   rw [this]
  rw [List.filter_append, List.map_append, eLo, eL (p :: l) (fun x hx => by
   rcases List.mem_cons.1 hx with rfl | hx
   ·exact Int.le_refl _
   ·have := a1 x hx; omega)]
  unfold diffGo
  simp only [hlo, hhi]
  cases hi with
  | nil =>
   simp only
   rw [diffGo_eq l [] _ _ a2 List.Pairwise.nil]
   have : ∀ (k : List Peer), k.filter (fun x => decide (atP [] x.node ≠ some x)) = k := fun k => List.filter_eq_self.2 fun x _ => by simp [atP]
   rw [this, this]
   simp
  | cons q r =>
   have hq := hhd q r rfl
   obtain ⟨c1, c2⟩ := List.pairwise_cons.1 b2
   have eR : ∀ (k : List Peer), (∀ x ∈ k, p.node < x.node) → k.filter (fun x => (atP (p :: l) x.node).isNone) = k.filter (fun x => (atP l x.node).isNone) := by
    intro k hk
    refine filter_same fun x hx => ?_
    have : atP (p :: l) x.node = atP l x.node := by
     unfold atP
     rw [List.find?_cons_of_neg (by have := hk x hx; simp; omega)]
    rw [this]
   simp only
   by_cases hn : q.node = p.node
   ·rw [if_pos hn]
    have eQ : (q :: r).filter (fun x => (atP (p :: l) x.node).isNone) = r.filter (fun x => (atP l x.node).isNone) := by
     rw [List.filter_cons_of_neg (by rw [hn]; simp [atP]), eR r (fun x hx => by have := c1 x hx; omega)]
    have eS : l.filter (fun x => decide (atP (q :: r) x.node ≠ some x)) = l.filter (fun x => decide (atP r x.node ≠ some x)) := by
     refine filter_same fun x hx => ?_
     have : atP (q :: r) x.node = atP r x.node := by
      unfold atP
      rw [List.find?_cons_of_neg (by have := a1 x hx; simp; omega)]
     rw [this]
    have eP : atP (q :: r) p.node = some q := by unfold atP; rw [List.find?_cons_of_pos (by simpa using hn)]
    rw [eQ]
    by_cases he : q = p
    ·rw [if_pos he, diffGo_eq l r _ _ a2 c2, List.filter_cons_of_neg (by rw [eP, he]; simp), eS]
     simp
    ·rw [if_neg he, diffGo_eq l r _ _ a2 c2, List.filter_cons_of_pos (by rw [eP]; simpa using he), eS]
     simp
   ·rw [if_neg hn, diffGo_eq l (q :: r) _ _ a2 b2]
    rw [eR (q :: r) (fun x hx => by
     rcases List.mem_cons.1 hx with rfl | hx
     ·omega
     ·have := c1 x hx; omega)]
    rw [List.filter_cons_of_pos (a := p) (by
     rw [atP_low (fun x hx => by
      rcases List.mem_cons.1 hx with rfl | hx
      ·omega
      ·have := c1 x hx; omega)]
     simp)]
    simp
theorem diff_walk {a b : NMap} (ha : okM a = true) (hb : okM b = true) : diffGo b.peers a.peers [] [] = ((diffV a b).gone, (diffV a b).set) := by
 rw [diffGo_eq _ _ _ _ (okM_nodes hb).1 (okM_nodes ha).1]
 rfl
end Go.Proofs.YtmgbaefgcdglpaaGreatDoor.Net
end
section
namespace Go.Proofs.YtmgbaefgcdglpaaGreatDoor.Net
open Go Go.RowKit Go.Proofs Go.Proofs.YtmgbaefgcdglpaaGreatDoorW.PrintWords Go.Proofs.YtmgbaefgcdglpaaGreatDoorW.PrintLast Go.Proofs.YtmgbaefgcdglpaaGreatDoorW.PrintMore Go.Proofs.YtmgbaefgcdglpaaGreatDoor.Dir
set_option linter.unusedVariables false
set_option linter.unusedSimpArgs false
def kKey : Kd Key where
 sz := 32
 E := []
 K := fun _ k cs => cs = encK k
 M := fun _ _ _ k cs => cs = encK k
 K_len := by rintro w x cs rfl; exact encK_len x
 K_one := by rintro w x cs rfl; exact encK_one x
 K_below := fun _ h => h
 K_of_M := fun h => h
 M_mono := fun _ h => h
 M_bound := fun h => h
 M_move := fun _ h => h
 M_lower := fun _ h => h
abbrev kSp : Kd Sp := PA.k80
def kPeer : Kd Peer := Kd.iso (Kd.pair (Kd.int .i64) (Kd.pair kKey (Kd.pair (Kd.int .i64) (Kd.pair (Kd.slice 80 kSp) (Kd.slice 80 kSp))))) (fun p : Peer => (p.node, p.key, p.exp, p.inn, p.out))
def peerV (p : Peer) (v1 v2 : Value) : List Value := .int .i64 p.node :: (encK p.key ++ [.int .i64 p.exp, v1, v2])
def peerCells (p : Peer) (A1 : Option Addr) (c1 : Nat) (A2 : Option Addr) (c2 : Nat) : List Value := peerV p (.slice A1 p.inn.length c1) (.slice A2 p.out.length c2)
theorem peerV_len (p : Peer) (v1 v2 : Value) : (peerV p v1 v2).length = 36 := by unfold peerV; simp [encK_len]
theorem peerCells_len (p : Peer) (A1 : Option Addr) (c1 : Nat) (A2 : Option Addr) (c2 : Nat) : (peerCells p A1 c1 A2 c2).length = 36 := peerV_len _ _ _
def SpAt (w : World) (A : Option Addr) (c : Nat) (l : List Sp) : Prop := l.length ≤ c ∧ kSp.C w A l.length l
theorem SpAt.below {w W : World} {A : Option Addr} {c : Nat} {l : List Sp} (h : SpAt w A c l) (hb : Below w.heap.size w W) : SpAt W A c l := ⟨h.1, Kd.C_below h.2 hb⟩
theorem SpAt.len {w : World} {A : Option Addr} {c : Nat} {l : List Sp} (h : SpAt w A c l) : l.length ≤ 9223372036854775807 := h.2.2.1
structure PIn (w : World) (p : Peer) (A1 : Option Addr) (c1 : Nat) (A2 : Option Addr) (c2 : Nat) : Prop where
 inn : SpAt w A1 c1 p.inn
 out : SpAt w A2 c2 p.out
theorem PIn.below {w W : World} {p : Peer} {A1 A2 : Option Addr} {c1 c2 : Nat} (h : PIn w p A1 c1 A2 c2) (hb : Below w.heap.size w W) : PIn W p A1 c1 A2 c2 := ⟨h.inn.below hb, h.out.below hb⟩
theorem kPeer_open {w : World} {p : Peer} {cs : List Value} (h : kPeer.K w p cs) : ∃ A1 c1 A2 c2, cs = peerCells p A1 c1 A2 c2 ∧ PIn w p A1 c1 A2 c2 := by
 obtain ⟨_, _, rfl, h0, _, _, rfl, h1, _, _, rfl, h2, _, _, rfl, ⟨A1, c1, rfl, l1, r1⟩, A2, c2, rfl, l2, r2⟩ := h
 have h0 : _ = [Value.int .i64 p.node] := h0
 have h1 : _ = encK p.key := h1
 have h2 : _ = [Value.int .i64 p.exp] := h2
 subst h0 h1 h2
 exact ⟨A1, c1, A2, c2, rfl, ⟨l1, r1⟩, ⟨l2, r2⟩⟩
theorem kPeer_mk {w : World} {p : Peer} {A1 A2 : Option Addr} {c1 c2 : Nat} (h : PIn w p A1 c1 A2 c2) : kPeer.K w p (peerCells p A1 c1 A2 c2) :=
 ⟨_, _, rfl, rfl, _, _, rfl, rfl, _, _, rfl, rfl, _, _, rfl, ⟨A1, c1, rfl, h.inn.1, h.inn.2⟩, A2, c2, rfl, h.out.1, h.out.2⟩
theorem kPeer_mkM {w : World} {base : Nat} {ok : Nat → Prop} {p : Peer} {v1 v2 : Value} (h1 : kSp.R 80 w base ok v1 p.inn) (h2 : kSp.R 80 w base ok v2 p.out) : kPeer.M w base ok p (peerV p v1 v2) :=
 ⟨_, _, rfl, rfl, _, _, rfl, rfl, _, _, rfl, rfl, _, _, rfl, ⟨v1, rfl, h1⟩, v2, rfl, h2⟩
def PsAt (w : World) (A : Option Addr) (c : Nat) (l : List Peer) : Prop := l.length ≤ c ∧ kPeer.C w A l.length l
theorem PsAt.below {w W : World} {A : Option Addr} {c : Nat} {l : List Peer} (h : PsAt w A c l) (hb : Below w.heap.size w W) : PsAt W A c l := ⟨h.1, Kd.C_below h.2 hb⟩
theorem PsAt.len {w : World} {A : Option Addr} {c : Nat} {l : List Peer} (h : PsAt w A c l) : l.length ≤ 9223372036854775807 := h.2.2.1
theorem PsAt.nil (w : World) (A : Option Addr) (c : Nat) : PsAt w A c [] := ⟨Nat.zero_le _, rfl, by simp, fun h => absurd h (by simp)⟩
theorem peer0 (p : Peer) (A1 : Option Addr) (c1 : Nat) (A2 : Option Addr) (c2 : Nat) : (peerCells p A1 c1 A2 c2)[0]? = some (.int .i64 p.node) := rfl
theorem peer33 (p : Peer) (A1 : Option Addr) (c1 : Nat) (A2 : Option Addr) (c2 : Nat) : (peerCells p A1 c1 A2 c2)[33]? = some (.int .i64 p.exp) := by
 unfold peerCells peerV
 rw [List.getElem?_cons_succ, List.getElem?_append_right (by rw [encK_len]; decide), encK_len]; rfl
theorem peer34 (p : Peer) (A1 : Option Addr) (c1 : Nat) (A2 : Option Addr) (c2 : Nat) : (peerCells p A1 c1 A2 c2)[34]? = some (.slice A1 p.inn.length c1) := by
 unfold peerCells peerV
 rw [List.getElem?_cons_succ, List.getElem?_append_right (by rw [encK_len]; decide), encK_len]; rfl
theorem peer35 (p : Peer) (A1 : Option Addr) (c1 : Nat) (A2 : Option Addr) (c2 : Nat) : (peerCells p A1 c1 A2 c2)[35]? = some (.slice A2 p.out.length c2) := by
 unfold peerCells peerV
 rw [List.getElem?_cons_succ, List.getElem?_append_right (by rw [encK_len]; decide), encK_len]; rfl
theorem peerK (p : Peer) (A1 : Option Addr) (c1 : Nat) (A2 : Option Addr) (c2 : Nat) (j : Nat) (v : Value) (h : (encK p.key)[j]? = some v) : (peerCells p A1 c1 A2 c2)[1 + j]? = some v := by
 unfold peerCells peerV
 rw [Nat.add_comm, List.getElem?_cons_succ, List.getElem?_append_left (by rw [encK_len]; have := (List.getElem?_eq_some_iff.1 h).1; rwa [encK_len] at this)]
 exact h
theorem PsAt.get {w : World} {A : Option Addr} {c : Nat} {l : List Peer} (h : PsAt w A c l) {j : Nat} {p : Peer} (hj : l[j]? = some p) : ∃ g o A1 c1 A2 c2, A = some ⟨g, o, none⟩ ∧ PIn w p A1 c1 A2 c2 ∧
  ∀ W, Below w.heap.size w W → ∀ i u, (peerCells p A1 c1 A2 c2)[i]? = some u → W.cell? ⟨g, o + j * 36 + i, none⟩ = some u := by
 have hlt := (List.getElem?_eq_some_iff.1 hj).1
 obtain ⟨ad, hA, hc⟩ := h.2.2.2 (by omega)
 obtain ⟨cs, hl, hK, hcell⟩ := hc j p hj
 obtain ⟨A1, c1, A2, c2, rfl, hin⟩ := kPeer_open hK
 obtain ⟨g, o, sp⟩ := ad
 cases sp with
 | some s =>
  obtain ⟨cs0, hl0, hK0, hcell0⟩ := hc 0 _ (List.getElem?_eq_getElem (show 0 < l.length by omega))
  obtain ⟨B1, d1, B2, d2, rfl, -⟩ := kPeer_open hK0
  have h0 := hcell0 0 _ (peer0 _ B1 d1 B2 d2)
  rw [Nat.zero_mul] at h0
  have hn : w.cell? ((⟨g, o, some s⟩ : Addr).add (0 + 0)) = none := by unfold World.cell?; split <;> rfl
  rw [hn] at h0
  cases h0
 | none =>
  refine ⟨g, o, A1, c1, A2, c2, hA, hin, fun W hb i u hu => ?_⟩
  have h1 := hcell i u hu
  have h2 := (hb.cell (World.block_lt_of_cell? w _ h1)).trans h1
  have e : (⟨g, o, none⟩ : Addr).add (j * kPeer.sz + i) = ⟨g, o + j * 36 + i, none⟩ := by
   show (⟨g, o, none⟩ : Addr).add (j * 36 + i) = _
   rw [Dir.add_at, Nat.add_assoc]
  rw [e] at h2
  exact h2
theorem PsAt.load {w : World} {A : Option Addr} {c : Nat} {l : List Peer} (h : PsAt w A c l) {j : Nat} {p : Peer} (hj : l[j]? = some p) : ∃ g o A1 c1 A2 c2, A = some ⟨g, o, none⟩ ∧ PIn w p A1 c1 A2 c2 ∧
  ∀ W, Below w.heap.size w W → (Instr.loadAt 48 (.pointer (some ⟨g, o + j * 36, none⟩))).run Tryz.prog W = .ok (.agg (peerCells p A1 c1 A2 c2).toArray) W := by
 obtain ⟨g, o, A1, c1, A2, c2, hA, hin, hc⟩ := h.get hj
 exact ⟨g, o, A1, c1, A2, c2, hA, hin, fun W hb => run_loadAtK Tryz.prog W 48 36 Tryz.isAgg48 Tryz.sizeOf48 g (o + j * 36) (peerCells p A1 c1 A2 c2) (peerCells_len _ _ _ _ _) (fun i u hu => hc W hb i u hu)⟩
theorem below_step {w w1 w2 : World} (h : Below w.heap.size w w1) (k : Below w1.heap.size w1 w2) : Below w.heap.size w w2 := h.trans (k.mono h.size)
theorem roomN {W0 W : World} {r : Nat} {o : Obj} (h : W0.heap[r]? = some o) (hb : Below W0.heap.size W0 W) : W.heap[r]? = some o := (hb.block _ (Array.getElem?_eq_some_iff.1 h).1).trans h
def mapCells (m : NMap) (A : Option Addr) (c : Nat) : List Value := .int .i64 m.ver :: .int .i64 m.clock :: .int .i64 m.node :: (encK m.key ++ [.int .i64 m.exp, .slice A m.peers.length c])
theorem mapCells_len (m : NMap) (A : Option Addr) (c : Nat) : (mapCells m A c).length = 37 := by unfold mapCells; simp [encK_len]
theorem map35 (m : NMap) (A : Option Addr) (c : Nat) : (mapCells m A c)[35]? = some (.int .i64 m.exp) := by
 unfold mapCells
 rw [List.getElem?_cons_succ, List.getElem?_cons_succ, List.getElem?_cons_succ, List.getElem?_append_right (by rw [encK_len]; decide), encK_len]; rfl
theorem map36 (m : NMap) (A : Option Addr) (c : Nat) : (mapCells m A c)[36]? = some (.slice A m.peers.length c) := by
 unfold mapCells
 rw [List.getElem?_cons_succ, List.getElem?_cons_succ, List.getElem?_cons_succ, List.getElem?_append_right (by rw [encK_len]; decide), encK_len]; rfl
theorem mapK (m : NMap) (A : Option Addr) (c : Nat) (j : Nat) (v : Value) (h : (encK m.key)[j]? = some v) : (mapCells m A c)[3 + j]? = some v := by
 unfold mapCells
 rw [show 3 + j = j + 1 + 1 + 1 by omega, List.getElem?_cons_succ, List.getElem?_cons_succ, List.getElem?_cons_succ, List.getElem?_append_left (by rw [encK_len]; have := (List.getElem?_eq_some_iff.1 h).1; rwa [encK_len] at this)]
 exact h
def delCells (d : NDel) (A1 : Option Addr) (c1 : Nat) (A2 : Option Addr) (c2 : Nat) : List Value := .int .i64 d.frm :: .int .i64 d.til :: .int .i64 d.clock :: .int .i64 d.node :: (encK d.key ++ [.int .i64 d.exp, .slice A1 d.gone.length c1, .slice A2 d.set.length c2])
theorem delCells_len (d : NDel) (A1 : Option Addr) (c1 : Nat) (A2 : Option Addr) (c2 : Nat) : (delCells d A1 c1 A2 c2).length = 39 := by unfold delCells; simp [encK_len]
def headCells (clock node : Int) (key : Key) (exp : Int) : List Value := .int .i64 clock :: .int .i64 node :: (encK key ++ [.int .i64 exp])
theorem headCells_len (clock node : Int) (key : Key) (exp : Int) : (headCells clock node key exp).length = 35 := by unfold headCells; simp [encK_len]
end Go.Proofs.YtmgbaefgcdglpaaGreatDoor.Net
end
section
namespace Go.Proofs.YtmgbaefgcdglpaaGreatDoor.Net
open Go Go.RowKit Go.Proofs Go.Proofs.YtmgbaefgcdglpaaGreatDoorW.PrintWords Go.Proofs.YtmgbaefgcdglpaaGreatDoorW.PrintLast Go.Proofs.YtmgbaefgcdglpaaGreatDoorW.PrintMore Go.Proofs.YtmgbaefgcdglpaaGreatDoor.Dir
set_option linter.unusedVariables false
set_option linter.unusedSimpArgs false
section
variable {P : Program} {ops : Array Oper} {Q : Exit → Act → World → Prop}
theorem region_inv {id : Nat} {a0 : Act} {w0 : World} (I : Array Bool → Act → World → Prop) (hm : P.follows .mixedOrders = true)
  (hguard : ∀ (i : Nat) (o : Oper), ops[i]? = some o → o.guard = none)
  (hlow : ∀ (i : Nat) (o : Oper), ops[i]? = some o → ∀ e ∈ o.after, Region.binds .any e = true → e.on < i)
  (h0 : I (Array.replicate ops.size false) a0 w0.drew)
  (hop : ∀ (i : Nat) (o : Oper) (l : Array Bool) (a : Act) (w : World), ops[i]? = some o → l.size = ops.size → l.getD i true = false → (∀ e ∈ o.after, Region.binds .any e = true → l.getD e.on false = true) → I l a w →
   ∀ K : Act → World → Prop, (∀ a' w', I (l.setIfInBounds i true) a' w' → K a' w') → o.wp P a w K Q)
  (hend : ∀ a w, I (Array.replicate ops.size true) a w → Q .normal a w) : (Code.region id ops true).wp P Q a0 w0 := by
 refine wp_region_any hm ?_
 suffices main : ∀ (fuel : Nat) (l : Array Bool) (a : Act) (w : World), l.size = ops.size → l.toList.count false ≤ fuel → I l a w → wpAny P .any ops Q fuel l a w by
  exact main ops.size _ a0 w0.drew (by simp) (by simp) h0
 have hdone : ∀ (l : Array Bool) (a : Act) (w : World), l.size = ops.size → I l a w → Region.ready .any ops l = [] → Q .normal a w := by
  intro l a w hs hI hr
  have all : ∀ i, i < ops.size → l[i]? = some true := by
   intro i
   induction i using Nat.strongRecOn with
   | _ i ih =>
    intro hi
    have hil : i < l.size := by omega
    cases hb : l[i] with
    | true => rw [Array.getElem?_eq_getElem hil, hb]
    | false =>
     have : i ∈ Region.ready .any ops l := by
      rw [mem_ready]
      refine ⟨by simp [Array.getD, hil, hb], ops[i], Array.getElem?_eq_getElem hi, fun e he hbnd => ?_⟩
      have h1 := hlow i ops[i] (Array.getElem?_eq_getElem hi) e he hbnd
      rw [Array.getD_eq_getD_getElem?, ih e.on h1 (by omega)]
      rfl
     rw [hr] at this
     cases this
  have e : l = Array.replicate ops.size true := by
   apply Array.ext_getElem?
   intro i
   by_cases hi : i < ops.size
   ·rw [all i hi]; simp [hi]
   ·rw [Array.getElem?_eq_none (by omega)]; simp [hi]
  rw [e] at hI
  exact hend a w hI
 intro fuel
 induction fuel with
 | zero =>
  intro l a w hs hc hI
  have hr : Region.ready .any ops l = [] := by
   cases h : Region.ready .any ops l with
   | nil => rfl
   | cons i r =>
    exfalso
    have hi : i ∈ Region.ready .any ops l := by rw [h]; simp
    rw [mem_ready] at hi
    obtain ⟨h1, o, ho, -⟩ := hi
    have hil : i < l.size := by rw [hs]; exact (Array.getElem?_eq_some_iff.1 ho).1
    have h2 : l[i] = false := by simpa [Array.getD, hil] using h1
    have : false ∈ l.toList := by rw [← h2]; simp
    have := List.count_pos_iff.2 this
    omega
  exact ⟨hr, hdone l a w hs hI hr⟩
 | succ fuel ih =>
  intro l a w hs hc hI
  refine ⟨hdone l a w hs hI, fun i hi => ?_⟩
  have hi0 := hi
  rw [mem_ready] at hi
  obtain ⟨h1, o, ho, hall⟩ := hi
  have hil : i < l.size := by rw [hs]; exact (Array.getElem?_eq_some_iff.1 ho).1
  have h2 : l[i] = false := by simpa [Array.getD, hil] using h1
  unfold wpOp
  rw [ho]
  simp only
  rw [if_pos (by unfold Region.wanted; rw [hguard i o ho])]
  refine .inl (hop i o l a w ho hs h1 hall hI _ fun a' w' hI' => ?_)
  refine ih _ _ _ (by simp [hs]) ?_ hI'
  have hcnt : (l.setIfInBounds i true).toList.count false + 1 = l.toList.count false := by
   rw [Array.toList_setIfInBounds]
   have hlen : i < l.toList.length := by simpa using hil
   have e0 : l.toList[i] = false := by simpa using h2
   have hs : l.toList = l.toList.take i ++ l.toList[i] :: l.toList.drop (i + 1) := by
    rw [List.getElem_cons_drop, List.take_append_drop]
   rw [List.set_eq_take_append_cons_drop, if_pos hlen]
   conv => rhs; rw [hs, e0]
   simp [List.count_append, List.count_cons]
   omega
  omega
end
section
variable {P : Program} {ops : Array Oper} {Q : Exit → Act → World → Prop}
structure OnR (ops : Array Oper) (a0 : Act) (G : Nat → Value → World → Prop) (l : Array Bool) (a : Act) (w : World) : Prop where
  defers : a.defers = a0.defers
  size : a.tmps.size = a0.tmps.size
  frame : ∀ t : Nat, (∀ (i : Nat) (o : Oper), ops[i]? = some o → o.dst ≠ some t) → a.tmps[t]? = a0.tmps[t]?
  good : ∀ (i : Nat) (o : Oper) (N : Nat), ops[i]? = some o → o.dst = some N → l.getD i false = true → G i (a.tmps.getD N undef) w
theorem OnR.step {a0 : Act} {G : Nat → Value → World → Prop}
    (hd : ∀ (i j : Nat) (o o' : Oper) (N : Nat), ops[i]? = some o → ops[j]? = some o' → o.dst = some N → o'.dst = some N → i = j)
    {l : Array Bool} {a : Act} {w w' : World} {i : Nat} {o : Oper} {v : Value} (h : OnR ops a0 G l a w) (hi : ops[i]? = some o) (hlt : ∀ N, o.dst = some N → N < a0.tmps.size) (hG : ∀ j u, G j u w → G j u w') (hv : ∀ N, o.dst = some N → G i v w') :
    OnR ops a0 G (l.setIfInBounds i true) (a.put o.dst v) w' := by
  have hset : ∀ j, j ≠ i → (l.setIfInBounds i true).getD j false = l.getD j false := fun j hij => by
    rw [Array.getD_eq_getD_getElem?, Array.getD_eq_getD_getElem?, Array.getElem?_setIfInBounds_ne (Ne.symm hij)]
  cases hN : o.dst with
  | none =>
    refine ⟨h.defers, h.size, fun t ht => h.frame t ht, fun j o' N' hj hN' hl => ?_⟩
    by_cases hij : j = i
    · subst hij
      rw [hi] at hj
      cases hj
      rw [hN] at hN'
      cases hN'
    · rw [hset j hij] at hl
      exact hG _ _ (h.good j o' N' hj hN' hl)
  | some N =>
    have hltN := hlt N hN
    refine ⟨h.defers, by simp [Act.put, h.size], fun t ht => ?_, fun j o' N' hj hN' hl => ?_⟩
    · rw [← h.frame t ht]
      have hne : N ≠ t := fun e => ht i o hi (by rw [hN, e])
      simp [Act.put, hne]
    · by_cases hij : j = i
      · subst hij
        rw [hi] at hj
        cases hj
        rw [hN] at hN'
        cases hN'
        have : (a.put (some N) v).tmps.getD N undef = v := by
          simp [Act.put, Array.getD, h.size, hltN]
        rw [this]
        exact hv N hN
      · have hne : N ≠ N' := fun e => hij (hd j i o' o N' hj hi hN' (by rw [hN, e]))
        have e1 : (a.put (some N) v).tmps.getD N' undef = a.tmps.getD N' undef := by
          rw [Array.getD_eq_getD_getElem?, Array.getD_eq_getD_getElem?]
          simp [Act.put, hne]
        rw [e1]
        rw [hset j hij] at hl
        exact hG _ _ (h.good j o' N' hj hN' hl)
theorem region_rel {id : Nat} {a0 : Act} {w0 : World} (G : Nat → Value → World → Prop) (M : Array Bool → World → Prop) (hm : P.follows .mixedOrders = true)
    (hd : ∀ (i j : Nat) (o o' : Oper) (N : Nat), ops[i]? = some o → ops[j]? = some o' → o.dst = some N → o'.dst = some N → i = j)
    (hN : ∀ (i : Nat) (o : Oper), ops[i]? = some o → ∀ N, o.dst = some N → N < a0.tmps.size)
    (hguard : ∀ (i : Nat) (o : Oper), ops[i]? = some o → o.guard = none)
    (hlow : ∀ (i : Nat) (o : Oper), ops[i]? = some o → ∀ e ∈ o.after, Region.binds .any e = true → e.on < i)
    (hM : M (Array.replicate ops.size false) w0.drew)
    (hop : ∀ (i : Nat) (o : Oper) (l : Array Bool) (a : Act) (w : World), ops[i]? = some o → l.size = ops.size → l.getD i true = false → (∀ e ∈ o.after, Region.binds .any e = true → l.getD e.on false = true) → OnR ops a0 G l a w → M l w →
      ∀ K : Act → World → Prop, (∀ v w', (∀ j u, G j u w → G j u w') → (∀ N, o.dst = some N → G i v w') → M (l.setIfInBounds i true) w' → K (a.put o.dst v) w') → o.wp P a w K Q)
    (hend : ∀ a w, OnR ops a0 G (Array.replicate ops.size true) a w → M (Array.replicate ops.size true) w → Q .normal a w) : (Code.region id ops true).wp P Q a0 w0 := by
  refine region_inv (fun l a w => OnR ops a0 G l a w ∧ M l w) hm hguard hlow ⟨⟨rfl, rfl, fun _ _ => rfl, fun i o N hi _ hl => ?_⟩, hM⟩ (fun i o l a w hi hs hnd hdeps hI K hK => ?_) (fun a w hI => hend a w hI.1 hI.2)
  · rw [Array.getD_eq_getD_getElem?] at hl
    simp [Array.getElem?_replicate] at hl
    split at hl <;> simp at hl
  · exact hop i o l a w hi hs hnd hdeps hI.1 hI.2 K fun v w' h1 h2 h3 => hK _ _ ⟨hI.1.step hd hi (hN i o hi) h1 h2, h3⟩
theorem OnR.act {a0 a : Act} {w : World} {G : Nat → Value → World → Prop} {l : Array Bool} (h : OnR ops a0 G l a w) (ns : List Tmp) (hns : ∀ n ∈ ns, n < a0.tmps.size) (hout : ∀ t, t ∉ ns → ∀ (i : Nat) (o : Oper), ops[i]? = some o → o.dst ≠ some t) :
    a = putAll a0 (ns.map fun n => (n, a.tmps.getD n undef)) := by
  have e1 : a.tmps = (putAll a0 (ns.map fun n => (n, a.tmps.getD n undef))).tmps := by
    apply Array.ext_getElem?
    intro t
    by_cases ht : t ∈ ns
    · rw [putAll_same _ _ _ _ ht (hns t ht), Array.getD_eq_getD_getElem?]
      have : t < a.tmps.size := by rw [h.size]; exact hns t ht
      rw [Array.getElem?_eq_getElem this]
      rfl
    · rw [putAll_other _ _ _ (fun m hm => by
        obtain ⟨x, hx, rfl⟩ := List.mem_map.1 hm
        exact fun e => ht (e ▸ hx))]
      exact h.frame t (hout t ht)
  have e2 : a.defers = (putAll a0 (ns.map fun n => (n, a.tmps.getD n undef))).defers := by rw [putAll_defers]; exact h.defers
  generalize putAll a0 (ns.map fun n => (n, a.tmps.getD n undef)) = b at e1 e2
  cases a; cases b
  simp only at e1 e2
  rw [e1, e2]
end
end Go.Proofs.YtmgbaefgcdglpaaGreatDoor.Net
end
section
namespace Go.Proofs.YtmgbaefgcdglpaaGreatDoor.Net
open Go Go.RowKit Go.Proofs Go.Proofs.YtmgbaefgcdglpaaGreatDoorW.PrintWords Go.Proofs.YtmgbaefgcdglpaaGreatDoorW.PrintLast Go.Proofs.YtmgbaefgcdglpaaGreatDoorW.PrintMore Go.Proofs.YtmgbaefgcdglpaaGreatDoor.Dir
set_option linter.unusedVariables false
set_option linter.unusedSimpArgs false
section
variable {P : Program}
def okOps (ops : Array Oper) (n : Nat) : Bool := (List.range ops.size).all fun i => match ops[i]? with
 | some o => o.guard.isNone && o.after.all (fun e => !Region.binds .any e || decide (e.on < i)) && (match o.dst with
  | none => true
  | some N => decide (N < n) && (List.range ops.size).all (fun j => j == i || (match ops[j]? with
   | some o' => o'.dst != some N
   | none => true)))
 | none => false
theorem okOps_at {ops : Array Oper} {n i : Nat} {o : Oper} (h : okOps ops n = true) (hi : ops[i]? = some o) : o.guard = none ∧ (∀ e ∈ o.after, Region.binds .any e = true → e.on < i) ∧ ∀ N, o.dst = some N → N < n ∧ ∀ (j : Nat) (o' : Oper), ops[j]? = some o' → o'.dst = some N → j = i := by
 have hlt := (Array.getElem?_eq_some_iff.1 hi).1
 have h1 := List.all_eq_true.1 h i (List.mem_range.2 hlt)
 rw [hi] at h1
 simp only [Bool.and_eq_true, Option.isNone_iff_eq_none] at h1
 obtain ⟨⟨h2, h3⟩, h4⟩ := h1
 refine ⟨h2, fun e he hb => ?_, fun N hN => ?_⟩
 ·rw [Array.all_eq_true'] at h3
  have h9 := h3 e he
  rw [hb] at h9
  exact of_decide_eq_true (by simpa using h9)
 ·rw [hN] at h4
  simp only [Bool.and_eq_true, decide_eq_true_eq] at h4
  refine ⟨h4.1, fun j o' hj hj' => ?_⟩
  have hlj := (Array.getElem?_eq_some_iff.1 hj).1
  have h5 := List.all_eq_true.1 h4.2 j (List.mem_range.2 hlj)
  rw [hj] at h5
  simp only [Bool.or_eq_true, beq_iff_eq, bne_iff_ne, ne_eq] at h5
  rcases h5 with h5 | h5
  ·exact h5
  ·exact absurd hj' h5
def dstsOf (ops : Array Oper) : List Tmp := ops.toList.filterMap (·.dst)
theorem dsts_mem {ops : Array Oper} {i : Nat} {o : Oper} {N : Tmp} (hi : ops[i]? = some o) (hN : o.dst = some N) : N ∈ dstsOf ops := by
 refine List.mem_filterMap.2 ⟨o, ?_, hN⟩
 obtain ⟨hl, e⟩ := Array.getElem?_eq_some_iff.1 hi
 rw [← e]
 simp
theorem OnR.all {ops : Array Oper} {a0 a : Act} {w : World} {G : Nat → Value → World → Prop} {l : Array Bool} (h : OnR ops a0 G l a w) (hk : okOps ops a0.tmps.size = true) :
  a = putAll a0 ((dstsOf ops).map fun n => (n, a.tmps.getD n undef)) :=
 h.act _ (fun n hn => by
  obtain ⟨o, ho, hN⟩ := List.mem_filterMap.1 hn
  obtain ⟨i, hi, e⟩ := List.getElem_of_mem ho
  have hi' : ops[i]? = some o := by rw [← e]; simp at hi ⊢
  exact ((okOps_at hk hi').2.2 n hN).1) (fun t ht i o hi e => ht (dsts_mem hi e))
def ClosedL (ops : Array Oper) (l : Array Bool) : Prop := ∀ (j : Nat) (oj : Oper), ops[j]? = some oj → l.getD j false = true → ∀ e ∈ oj.after, Region.binds .any e = true → l.getD e.on false = true
theorem ClosedL.step {ops : Array Oper} {l : Array Bool} {i : Nat} {o : Oper} (h : ClosedL ops l) (hi : ops[i]? = some o) (hd : ∀ e ∈ o.after, Region.binds .any e = true → l.getD e.on false = true) : ClosedL ops (l.setIfInBounds i true) := by
 have mono : ∀ k, l.getD k false = true → (l.setIfInBounds i true).getD k false = true := fun k hk => by
  by_cases hik : i = k
  ·subst hik
   rw [Array.getD_eq_getD_getElem?] at hk ⊢
   by_cases hlt : i < l.size
   ·simp [hlt]
   ·rw [Array.getElem?_eq_none (by omega)] at hk; cases hk
  ·rw [Array.getD_eq_getD_getElem?] at hk ⊢
   rw [Array.getElem?_setIfInBounds_ne hik]; exact hk
 intro j oj hj hl e he hb
 by_cases hij : i = j
 ·subst hij
  rw [hi] at hj
  cases hj
  exact mono _ (hd e he hb)
 ·rw [Array.getD_eq_getD_getElem?, Array.getElem?_setIfInBounds_ne hij, ← Array.getD_eq_getD_getElem?] at hl
  exact mono _ (h j oj hj hl e he hb)
theorem ClosedL.dep {ops : Array Oper} {l : Array Bool} (h : ClosedL ops l) (j k : Nat) (hc : (ops[j]?.map fun o => o.after.any (fun e => e.on == k && Region.binds .any e)) = some true) (hl : l.getD j false = true) : l.getD k false = true := by
 cases hj : ops[j]? with
 | none => rw [hj] at hc; cases hc
 | some oj =>
  rw [hj] at hc
  simp only [Option.map_some, Option.some.injEq] at hc
  rw [Array.any_eq_true'] at hc
  obtain ⟨e, he, h2⟩ := hc
  simp only [Bool.and_eq_true, beq_iff_eq] at h2
  rw [← h2.1]
  exact h j oj hj hl e he h2.2
theorem region_use {ops : Array Oper} {Q : Exit → Act → World → Prop} {id : Nat} {a0 : Act} {w0 : World} (G : Nat → Value → World → Prop) (M : Array Bool → World → Prop) (ns : List Tmp) (hns : dstsOf ops = ns) (hm : P.follows .mixedOrders = true) (hk : okOps ops a0.tmps.size = true)
  (hM : M (Array.replicate ops.size false) w0.drew)
  (hop : ∀ (i : Nat) (o : Oper) (l : Array Bool) (a : Act) (w : World), ops[i]? = some o → l.size = ops.size → l.getD i true = false → (∀ e ∈ o.after, Region.binds .any e = true → l.getD e.on false = true) → ClosedL ops l → OnR ops a0 G l a w → M l w →
   ∀ K : Act → World → Prop, (∀ v w', (∀ j u, G j u w → G j u w') → (∀ N, o.dst = some N → G i v w') → M (l.setIfInBounds i true) w' → K (a.put o.dst v) w') → o.wp P a w K Q)
  (hend : ∀ (v : Nat → Value) w, (∀ (i : Nat) (o : Oper) (N : Nat), ops[i]? = some o → o.dst = some N → G i (v N) w) → M (Array.replicate ops.size true) w → Q .normal (putAll a0 (ns.map fun n => (n, v n))) w) : (Code.region id ops true).wp P Q a0 w0 :=
 region_rel G (fun l w => M l w ∧ ClosedL ops l) hm (fun i j o o' N hi hj h1 h2 => ((okOps_at hk hj).2.2 N h2).2 i o hi h1) (fun i o hi N hN => ((okOps_at hk hi).2.2 N hN).1) (fun i o hi => (okOps_at hk hi).1) (fun i o hi => (okOps_at hk hi).2.1) ⟨hM, fun j oj hj hl => by rw [Array.getD_eq_getD_getElem?] at hl; simp [Array.getElem?_replicate] at hl; split at hl <;> simp at hl⟩
  (fun i o l a w hi hs hnd hd hI hMC K hK => hop i o l a w hi hs hnd hd hMC.2 hI hMC.1 K fun v w' h1 h2 h3 => hK v w' h1 h2 ⟨h3, hMC.2.step hi hd⟩)
  fun a w hI hMM => by
   rw [hI.all hk, hns]
   exact hend (fun n => a.tmps.getD n undef) w (fun i o N hi hN => hI.good i o N hi hN (by have := (Array.getElem?_eq_some_iff.1 hi).1; simp [Array.getD, this])) hMM.1
theorem depB {ops : Array Oper} {i j : Nat} {o : Oper} {l : Array Bool} (hi : ops[i]? = some o) (hc : (ops[i]?.map fun o => o.after.any (fun e => e.on == j && Region.binds .any e)) = some true) (hd : ∀ e ∈ o.after, Region.binds .any e = true → l.getD e.on false = true) : l.getD j false = true := by
 rw [hi] at hc
 simp only [Option.map_some, Option.some.injEq] at hc
 rw [Array.any_eq_true'] at hc
 obtain ⟨e, he, h⟩ := hc
 simp only [Bool.and_eq_true, beq_iff_eq] at h
 rw [← h.1]
 exact hd e he h.2
theorem OnR.got {ops : Array Oper} {a0 a : Act} {w : World} {G : Nat → Value → World → Prop} {l : Array Bool} {i j N : Nat} {o : Oper} (hI : OnR ops a0 G l a w) (hi : ops[i]? = some o) (hd : ∀ e ∈ o.after, Region.binds .any e = true → l.getD e.on false = true)
  (hc : (ops[i]?.map fun o => o.after.any (fun e => e.on == j && Region.binds .any e)) = some true) (hN : (ops[j]?.bind fun o => o.dst) = some N) : G j (a.tmps.getD N undef) w := by
 cases hj : ops[j]? with
 | none => rw [hj] at hN; cases hN
 | some oj => rw [hj] at hN; exact hI.good j oj N hj hN (depB hi hc hd)
theorem OnR.slot {ops : Array Oper} {a0 a : Act} {w : World} {G : Nat → Value → World → Prop} {l : Array Bool} (hI : OnR ops a0 G l a w) (t : Nat) {v : Value} (ht : (dstsOf ops).contains t = false) (h : a0.tmps[t]? = some v) : a.eval (.tmp t) = v := by
 have e := hI.frame t (fun i o hi hN => by
  have := dsts_mem hi hN
  rw [← List.contains_iff_mem] at this
  rw [ht] at this; cases this)
 show a.tmps.getD t undef = v
 rw [Array.getD_eq_getD_getElem?, e, h]; rfl
theorem notDone {l : Array Bool} {i n : Nat} (hs : l.size = n) (hi : i < n) (h : l.getD i true = false) : ¬ l.getD i false = true := by
 intro e
 rw [Array.getD_eq_getD_getElem?, Array.getElem?_eq_getElem (by omega)] at h e
 simp at h e
 rw [h] at e
 cases e
theorem wp_value {o : Oper} {a : Act} {w w' : World} {v : Value} {K : Act → World → Prop} {Q : Exit → Act → World → Prop} (h : (execOp a.eval o).run P w = .ok (.value v) w') (hK : K (a.put o.dst v) w') : o.wp P a w K Q := by
 unfold Oper.wp
 rw [h]
 exact hK
theorem wp_skip {o : Oper} {a : Act} {w w' : World} {K : Act → World → Prop} {Q : Exit → Act → World → Prop} (h : (execOp a.eval o).run P w = .ok .skip w') (hK : K (a.put o.dst undef) w') : o.wp P a w K Q := by
 unfold Oper.wp
 rw [h]
 exact hK
theorem wp_goes {o : Oper} {a : Act} {w : World} {K : Act → World → Prop} {Q : Exit → Act → World → Prop} {f : FuncId} {fn : Func} {oas : Array Operand} {ts : Array TypeId} (hf : P.funcs[f]? = some fn) (hname : (fn.name == "runtime.NumGoroutine") = false) (hb : fn.body.isSome = true) (args : Array Value)
  (hg : o.guard = none) (hop : o.op = .call { callee := .value (.func f), args := oas, argTypes := ts }) (hargs : oas.map a.eval = args)
  (h : Calls P f args w fun e w' => ∃ v, e = .returned v ∧ K (a.put o.dst v) w') : o.wp P a w K Q := by
 have hw : Region.wanted o (yielded #[] a.tmps) = true := by unfold Region.wanted; rw [hg]
 have := goes_ (ops := #[]) (Q := Q) hf hname hb args hw rfl hop hargs h
 rw [if_pos hw] at this
 exact this
theorem exec_fieldAddr {w w' : World} (t f : Nat) (x : Operand) (o : Oper) (ho : o.op = .fieldAddr t x f) (a : Act) (v r : Value) (hx : a.eval x = v) (hr : (Instr.fieldAt t v f).run P w = .ok r w') : (execOp a.eval o).run P w = .ok (.value r) w' := by
 subst hx
 unfold execOp
 simp only [ho, Sem.run_bind]
 rw [hr]
 rfl
theorem opIs {ops : Array Oper} {i : Nat} {o : Oper} {x : Go.Op} (hi : ops[i]? = some o) (h : (ops[i]?.map fun o => o.op) = some x) : o.op = x := by
 rw [hi] at h
 exact Option.some.inj h
theorem dstIs {ops : Array Oper} {i : Nat} {o : Oper} {x : Option Tmp} (hi : ops[i]? = some o) (h : (ops[i]?.map fun o => o.dst) = some x) : o.dst = x := by
 rw [hi] at h
 exact Option.some.inj h
theorem setB {l : Array Bool} {i j : Nat} (h : i ≠ j) : (l.setIfInBounds i true).getD j false = l.getD j false := by
 rw [Array.getD_eq_getD_getElem?, Array.getD_eq_getD_getElem?, Array.getElem?_setIfInBounds_ne h]
theorem setS {l : Array Bool} {i : Nat} (h : i < l.size) : (l.setIfInBounds i true).getD i false = true := by
 rw [Array.getD_eq_getD_getElem?]; simp [h]
end
end Go.Proofs.YtmgbaefgcdglpaaGreatDoor.Net
end
section
namespace Go.Proofs.YtmgbaefgcdglpaaGreatDoor.PA
open Go.RowKit Go.Proofs.YtmgbaefgcdglpaaGreatDoorW.PrintWords Go.Proofs.YtmgbaefgcdglpaaGreatDoorW.PrintLast Go.Proofs.YtmgbaefgcdglpaaGreatDoorW.PrintMore
attribute [local go_sem] max2_int min2_int max_two min_two max_three min_three max_four min_four   -- for this text's walks alone
set_option linter.unusedVariables false
set_option linter.unusedSimpArgs false
theorem eqA80 (d : Nat) (w : World) (x0 y0 : Int) (x1 y1 : Int) :
  (Op.equalIn (d + 2) 80 (.agg #[.int .i64 x0, .int .i64 x1]) (.agg #[.int .i64 y0, .int .i64 y1])).run Tryz.prog w = .ok (x0 == y0 && (x1 == y1)) w := by
 refine eqA_of Tryz.underlying80 (by kernel_rfl) ?_
 refine eqf_cons (by rfl) (by go_simp; rfl) (by go_simp; rfl) (by go_simp) ?_
 exact eqf_last (by rfl) (by go_simp; rfl) (by go_simp; rfl) (by go_simp)
end Go.Proofs.YtmgbaefgcdglpaaGreatDoor.PA
end
