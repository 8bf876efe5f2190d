/-
  The symbolic run: the program's data as plain structures, and how they lie in cells.
  Conditions: none.
-/
import Derived.Test.YtigbjjkijfkeeaaViAns
namespace Go.Vi

/-- A bundle: units of six products. -/
structure Bun where
  (a0 a1 a2 a3 a4 a5 : Int)
  deriving DecidableEq

structure Off where
  bidder : Int
  want : Bun
  value : Int
  deriving DecidableEq

structure Need where
  payers : Int
  least : Int
  deriving DecidableEq

/-- A bidder and a bundle. -/
structure BKey where
  bidder : Int
  want : Bun
  deriving DecidableEq

/-- A set of bidders with the units that are left. -/
structure Sit where
  members : Int
  left : Bun
  opn : Bun
  deriving DecidableEq

def Bun.zero : Bun := ⟨0, 0, 0, 0, 0, 0⟩

/-- The kinds of elements that rows and maps hold. -/
inductive SId where
  | i (k : IntKind)
  | b
  | bun
  | off
  | need
  | key
  | sit
  deriving DecidableEq

@[reducible] def SId.T : SId → Type
  | .i _ => Int
  | .b => Bool
  | .bun => Bun
  | .off => Off
  | .need => Need
  | .key => BKey
  | .sit => Sit

def SId.dflt : (s : SId) → s.T
  | .i _ => (0 : Int)
  | .b => false
  | .bun => .zero
  | .off => ⟨0, .zero, 0⟩
  | .need => ⟨0, 0⟩
  | .key => ⟨0, .zero⟩
  | .sit => ⟨0, .zero, .zero⟩

def SId.sz : SId → Nat
  | .i _ => 1
  | .b => 1
  | .bun => 6
  | .off => 8
  | .need => 2
  | .key => 7
  | .sit => 13

instance (s : SId) : DecidableEq s.T :=
  match s with
  | .i _ => inferInstanceAs (DecidableEq Int)
  | .b => inferInstanceAs (DecidableEq Bool)
  | .bun => inferInstanceAs (DecidableEq Bun)
  | .off => inferInstanceAs (DecidableEq Off)
  | .need => inferInstanceAs (DecidableEq Need)
  | .key => inferInstanceAs (DecidableEq BKey)
  | .sit => inferInstanceAs (DecidableEq Sit)

def iv (n : Int) : Value := .int .i64 n

def Bun.vs (b : Bun) : List Value := [iv b.a0, iv b.a1, iv b.a2, iv b.a3, iv b.a4, iv b.a5]

/-- The cells of an element of scalars. -/
def encV : (s : SId) → s.T → List Value
  | .i k, n => [.int k n]
  | .b, b => [.bool b]
  | .bun, x => [iv x.a0, iv x.a1, iv x.a2, iv x.a3, iv x.a4, iv x.a5]
  | .off, x => [iv x.bidder, iv x.want.a0, iv x.want.a1, iv x.want.a2, iv x.want.a3, iv x.want.a4, iv x.want.a5, iv x.value]
  | .need, x => [iv x.payers, iv x.least]
  | .key, x => [iv x.bidder, iv x.want.a0, iv x.want.a1, iv x.want.a2, iv x.want.a3, iv x.want.a4, iv x.want.a5]
  | .sit, x => [iv x.members, iv x.left.a0, iv x.left.a1, iv x.left.a2, iv x.left.a3, iv x.left.a4, iv x.left.a5, iv x.opn.a0, iv x.opn.a1, iv x.opn.a2, iv x.opn.a3, iv x.opn.a4, iv x.opn.a5]

/-- The cells of an element. -/
def encA (s : SId) (x : s.T) : List AV := (encV s x).map .sc

/-- A value as the symbolic run sees it. -/
inductive SV where
  | ud
  | sc (v : Value)
  | il (k : IntKind) (n : Int)
  | si (k : IntKind) (n : Int)
  | bl (b : Bool)
  | sb (b : Bool)
  | agg (cs : List SV)
  | tup (cs : List SV)
  | row (s : SId) (l : List s.T)
  | ep (s : SId) (l : List s.T) (i off : Nat)
  | ptr (id off tot : Nat)
  | ap (id base sz len tot i : Nat)
  | rp (id i off n sz : Nat)
  | ow (id n sz : Nat)
  | os (id off len n sz : Nat)
  | mp (id : Nat)
  | fn (f : Fn) (first captured : List SV)

inductive SObj where
  | dead
  | cells (cs : List SV) (e : TypeId) (sz : Nat) (pu : Bool)
  | row (s : SId) (l : List s.T) (e : TypeId) (pu : Bool)
  | map (sk sv : SId) (ka : Bool) (es : List (sk.T × sv.T)) (kt : List Nat × Bool) (pu : Bool)

def flatA (s : SId) (l : List s.T) : List AV := l.flatMap (encA s)

def keyV (s : SId) (ka : Bool) (x : s.T) : Value := if ka then .agg (encV s x).toArray else (encV s x).headD (.bool false)
def valA (s : SId) (x : s.T) : AV := .sc ((encV s x).headD (.bool false))

mutual
def SV.g : SV → AV
  | .ud => .ud
  | .sc v => .sc v
  | .il k n => .sc (.int k n)
  | .si k n => .sc (.int k n)
  | .bl b => .sc (.bool b)
  | .sb b => .sc (.bool b)
  | .agg cs => .agg (gL cs)
  | .tup cs => .tup (gL cs)
  | .row s l => .sl l.length (flatA s l)
  | .ep s l i off => .ep (flatA s l) (i * s.sz + off)
  | .ptr id off tot => .ptr id off tot
  | .ap id base sz _ tot i => .ptr id (base + i * sz) tot
  | .rp id i off n sz => .ptr id (i * sz + off) (n * sz)
  | .ow id n sz => .os id 0 n (n * sz)
  | .os id off len n sz => .os id (off * sz) len (n * sz)
  | .mp id => .mp id
  | .fn f a b => .fn f (gL a) (gL b)
def gL : List SV → List AV
  | [] => []
  | c :: cs => c.g :: gL cs
end

theorem gL_map : ∀ (l : List SV), gL l = l.map SV.g
  | [] => rfl
  | c :: cs => by simp [gL, gL_map cs]

def SObj.g : SObj → AObj
  | .dead => .dead
  | .cells cs e sz pu => .cells (gL cs) e sz pu
  | .row s l e pu => .cells (flatA s l) e s.sz pu
  | .map sk sv ka es kt pu => .map (es.map fun p => (keyV sk ka p.1, valA sv p.2)) kt pu

/-- The cells of an element, symbolically. -/
def encS : (s : SId) → s.T → List SV
  | .i k, n => [.si k n]
  | .b, b => [.sb b]
  | .bun, x => [.si .i64 x.a0, .si .i64 x.a1, .si .i64 x.a2, .si .i64 x.a3, .si .i64 x.a4, .si .i64 x.a5]
  | .off, x => [.si .i64 x.bidder, .si .i64 x.want.a0, .si .i64 x.want.a1, .si .i64 x.want.a2, .si .i64 x.want.a3, .si .i64 x.want.a4, .si .i64 x.want.a5, .si .i64 x.value]
  | .need, x => [.si .i64 x.payers, .si .i64 x.least]
  | .key, x => [.si .i64 x.bidder, .si .i64 x.want.a0, .si .i64 x.want.a1, .si .i64 x.want.a2, .si .i64 x.want.a3, .si .i64 x.want.a4, .si .i64 x.want.a5]
  | .sit, x => [.si .i64 x.members, .si .i64 x.left.a0, .si .i64 x.left.a1, .si .i64 x.left.a2, .si .i64 x.left.a3, .si .i64 x.left.a4, .si .i64 x.left.a5, .si .i64 x.opn.a0, .si .i64 x.opn.a1, .si .i64 x.opn.a2, .si .i64 x.opn.a3, .si .i64 x.opn.a4, .si .i64 x.opn.a5]

/-- An integer of a kind. -/
def SV.int : IntKind → SV → Option Int
  | k, .si k' n => if k' = k then some n else none
  | k, .il k' n => if k' = k then some n else none
  | _, _ => none

def SV.boo : SV → Option Bool
  | .sb b => some b
  | .bl b => some b
  | _ => none

def ints : List SV → Option (List Int)
  | [] => some []
  | c :: cs => match c.int .i64, ints cs with
    | some n, some l => some (n :: l)
    | _, _ => none

/-- An element of its cells. -/
def decS : (s : SId) → List SV → Option s.T
  | .i k, [c] => c.int k
  | .b, [c] => c.boo
  | .bun, cs => match ints cs with
    | some [a0, a1, a2, a3, a4, a5] => some (⟨a0, a1, a2, a3, a4, a5⟩ : Bun)
    | _ => none
  | .off, cs => match ints cs with
    | some [b, a0, a1, a2, a3, a4, a5, v] => some (⟨b, ⟨a0, a1, a2, a3, a4, a5⟩, v⟩ : Off)
    | _ => none
  | .need, cs => match ints cs with
    | some [a, b] => some (⟨a, b⟩ : Need)
    | _ => none
  | .key, cs => match ints cs with
    | some [b, a0, a1, a2, a3, a4, a5] => some (⟨b, ⟨a0, a1, a2, a3, a4, a5⟩⟩ : BKey)
    | _ => none
  | .sit, cs => match ints cs with
    | some [m, a0, a1, a2, a3, a4, a5, b0, b1, b2, b3, b4, b5] => some (⟨m, ⟨a0, a1, a2, a3, a4, a5⟩, ⟨b0, b1, b2, b3, b4, b5⟩⟩ : Sit)
    | _ => none
  | _, _ => none

/-! ### laws of the elements -/

theorem encS_g (s : SId) (x : s.T) : (encS s x).map SV.g = encA s x := by
  cases s <;> simp [encS, encA, encV, SV.g, iv]

theorem encV_len (s : SId) (x : s.T) : (encV s x).length = s.sz := by
  cases s <;> rfl

theorem encA_len (s : SId) (x : s.T) : (encA s x).length = s.sz := by simp [encA, encV_len]

theorem encS_len (s : SId) (x : s.T) : (encS s x).length = s.sz := by
  have := congrArg List.length (encS_g s x)
  simpa [encA_len] using this

theorem sz_pos (s : SId) : 0 < s.sz := by cases s <;> simp [SId.sz]

theorem int_g {k : IntKind} {c : SV} {n : Int} (h : c.int k = some n) : c.g = .sc (.int k n) := by
  cases c <;> simp only [SV.int, reduceCtorEq] at h
  all_goals
    split at h
    · rename_i hk; subst hk; simp at h; subst h; simp [SV.g]
    · cases h

theorem boo_g {c : SV} {b : Bool} (h : c.boo = some b) : c.g = .sc (.bool b) := by
  cases c <;> simp [SV.boo] at h <;> subst h <;> simp [SV.g]

theorem ints_g : ∀ {cs : List SV} {l : List Int}, ints cs = some l → cs.map SV.g = l.map fun n => .sc (iv n)
  | [], l, h => by simp [ints] at h; subst h; rfl
  | c :: cs, l, h => by
    simp only [ints] at h
    split at h
    · rename_i n l' h1 h2
      simp at h; subst h
      simp [int_g h1, ints_g h2, iv]
    · cases h

theorem decS_g {s : SId} {cs : List SV} {x : s.T} (h : decS s cs = some x) : cs.map SV.g = encA s x := by
  cases s with
  | i k => match cs, h with
    | [c], h => simp only [decS] at h; simp [encA, encV, int_g h]
  | b => match cs, h with
    | [c], h => simp only [decS] at h; simp [encA, encV, boo_g h]
  | _ =>
    simp only [decS] at h
    split at h
    · rename_i h1
      simp at h; subst h
      rw [ints_g h1]
      simp [encA, encV]
    · cases h

theorem encV_one (s : SId) (x : s.T) : ∀ v ∈ encV s x, v.oneCell' = true := by
  cases s <;> simp [encV, iv, Value.oneCell']

theorem encA_sc {s : SId} {x : s.T} {a : AV} (h : a ∈ encA s x) : ∃ v, a = .sc v ∧ v.oneCell' = true ∧ v ≠ .slice none 0 0 := by
  unfold encA at h
  obtain ⟨v, hv, rfl⟩ := List.mem_map.1 h
  refine ⟨v, rfl, encV_one s x v hv, ?_⟩
  rintro rfl
  cases s <;> simp [encV, iv] at hv

theorem flatA_sc {s : SId} {l : List s.T} {a : AV} (h : a ∈ flatA s l) : ∃ v, a = .sc v ∧ v.oneCell' = true ∧ v ≠ .slice none 0 0 := by
  unfold flatA at h
  obtain ⟨x, _, hx⟩ := List.mem_flatMap.1 h
  exact encA_sc hx

theorem pureL_all : ∀ {l : List AV}, (∀ a ∈ l, a.pure = true) → pureL l = true
  | [], _ => by simp [pureL]
  | a :: l, h => by simp [pureL, h a (by simp), pureL_all (l := l) fun b hb => h b (by simp [hb])]

theorem belL_all {k : Nat} : ∀ {l : List AV}, (∀ a ∈ l, a.bel k = true) → belL k l = true
  | [], _ => by simp [belL]
  | a :: l, h => by simp [belL, h a (by simp), belL_all (l := l) fun b hb => h b (by simp [hb])]

theorem flatA_pure (s : SId) (l : List s.T) : pureL (flatA s l) = true :=
  pureL_all fun a h => by obtain ⟨v, rfl, _⟩ := flatA_sc h; simp [AV.pure]

theorem flatA_bel (k : Nat) (s : SId) (l : List s.T) : belL k (flatA s l) = true :=
  belL_all fun a h => by obtain ⟨v, rfl, _⟩ := flatA_sc h; simp [AV.bel]

theorem flatA_one (s : SId) (l : List s.T) : oneL (flatA s l) = true := by
  simp only [oneL, List.all_eq_true]
  intro a h
  obtain ⟨v, rfl, h1, _⟩ := flatA_sc h
  simpa [AV.one] using h1

theorem flatA_len (s : SId) (l : List s.T) : (flatA s l).length = l.length * s.sz := by
  induction l with
  | nil => simp [flatA]
  | cons x l ih => simp only [flatA, List.flatMap_cons, List.length_append, encA_len, List.length_cons] at ih ⊢; rw [ih, Nat.succ_mul]; omega

theorem flatA_app (s : SId) (l l' : List s.T) : flatA s (l ++ l') = flatA s l ++ flatA s l' := by simp [flatA]

theorem flatA_drop (s : SId) : ∀ (l : List s.T) (i : Nat), (flatA s l).drop (i * s.sz) = flatA s (l.drop i)
  | l, 0 => by simp
  | [], i + 1 => by simp [flatA]
  | x :: l, i + 1 => by
    have h := flatA_drop s l i
    simp only [flatA, List.flatMap_cons, List.drop_succ_cons] at h ⊢
    rw [Nat.succ_mul, Nat.add_comm, List.drop_append, encA_len, Nat.add_sub_cancel_left, h, List.drop_of_length_le (by rw [encA_len]; omega)]
    simp

theorem flatA_take (s : SId) : ∀ (l : List s.T) (i : Nat), (flatA s l).take (i * s.sz) = flatA s (l.take i)
  | l, 0 => by simp [flatA]
  | [], i + 1 => by simp [flatA]
  | x :: l, i + 1 => by
    have h := flatA_take s l i
    simp only [flatA, List.flatMap_cons, List.take_succ_cons] at h ⊢
    rw [Nat.succ_mul, Nat.add_comm, List.take_append, encA_len, Nat.add_sub_cancel_left, h, List.take_of_length_le (by rw [encA_len]; omega)]

/-- The element at an index. -/
def nthD {α : Type} (l : List α) (i : Nat) (d : α) : α := (l[i]?).getD d

theorem nthD_eq {α : Type} {l : List α} {i : Nat} {d : α} (h : i < l.length) : nthD l i d = l[i] := by simp [nthD, h]

theorem flatA_at {s : SId} {l : List s.T} {i : Nat} (h : i < l.length) : (flatA s l).drop (i * s.sz) = encA s (nthD l i s.dflt) ++ flatA s (l.drop (i + 1)) := by
  rw [flatA_drop, List.drop_eq_getElem_cons h, nthD_eq h]
  simp only [flatA, List.flatMap_cons]

end Go.Vi
