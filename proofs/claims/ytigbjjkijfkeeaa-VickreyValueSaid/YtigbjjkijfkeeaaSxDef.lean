/-
  The symbolic run: its operations, and what must hold for a piece of code to come to a post. Plain definitions: no proof stands here.
  Conditions: none.
-/
import Derived.Test.YtigbjjkijfkeeaaSxTy
namespace Go.Vi

abbrev SEnv := List (Nat × SV)
abbrev SStore := List SObj

structure SSt where
  env : SEnv
  o : SStore

def getS : SEnv → Nat → SV
  | [], _ => .ud
  | p :: r, s => bif Nat.beq p.1 s then p.2 else getS r s

def putS (env : SEnv) (dst : Option Nat) (v : SV) : SEnv :=
  match dst with
  | none => env
  | some d => (d, v) :: env

def SV.ofCell : Value → SV
  | .int k n => .il k n
  | .bool b => .bl b
  | v => .sc v

def SV.ofVal : Value → SV
  | .agg cs => if cs.toList.all (·.oneCell') then .agg (cs.toList.map .ofCell) else .ud
  | .tuple _ => .ud
  | .int k n => .il k n
  | .bool b => .bl b
  | v => .sc v

def evS (env : SEnv) : Operand → SV
  | .tmp t => getS env t
  | .const v => .ofVal v
  | .global _ => .ud
  | .func f => .fn (.func f) [] []

def SV.cellsOf : SV → List SV
  | .agg cs => cs
  | v => [v]

def SV.one : SV → Bool
  | .agg _ | .tup _ | .ud => false
  | .sc v => v.oneCell'
  | _ => true

def oneS (l : List SV) : Bool := l.all (·.one)

mutual
def SV.pure : SV → Bool
  | .sc _ | .il .. | .si .. | .bl _ | .sb _ | .row .. => true
  | _ => false
def pureS : List SV → Bool
  | [] => true
  | c :: cs => c.pure && pureS cs
end

mutual
def SV.bel (k : Nat) : SV → Bool
  | .ud | .sc _ | .il .. | .si .. | .bl _ | .sb _ | .row .. | .ep .. => true
  | .agg cs | .tup cs => belS k cs
  | .ptr id .. | .ap id .. | .rp id .. | .ow id .. | .os id .. | .mp id => decide (id < k)
  | .fn _ a b => belS k a && belS k b
def belS (k : Nat) : List SV → Bool
  | [] => true
  | c :: cs => c.bel k && belS k cs
end

def SObj.bel (k : Nat) : SObj → Bool
  | .cells cs _ _ pu => pu || belS k cs
  | _ => true

mutual
/-- No slice is reached. -/
def SV.noSl : SV → Bool
  | .ud | .sc _ | .il .. | .si .. | .bl _ | .sb _ => true
  | .agg cs | .tup cs => noSlS cs
  | _ => false
def noSlS : List SV → Bool
  | [] => true
  | c :: cs => c.noSl && noSlS cs
end

/-- The sum and its like stay in the kind's bounds. -/
def inR (k : IntKind) (n : Int) : Prop :=
  match k with
  | .i64 => -9223372036854775808 ≤ n ∧ n ≤ 9223372036854775807
  | k => k.wrap n = n

/-- What the call of a function must come to. -/
structure SCalls where
  pure : FuncId → List SV → (SV → Prop) → Prop
  own : FuncId → List SV → SStore → (SV → SStore → Prop) → Prop

structure SPar where
  C : SCalls
  ty : TypeId → Option SId
  mt : List Nat × Bool → Option (SId × SId)
  /-- Before a region: an object's cell that is one of the first numbers. -/
  sp : Nat → Option (Nat × Nat × Nat) := fun _ => none

def partS (cs : List SV) (off : Nat) : Option Nat → Option SV
  | none => cs[off]?
  | some n => if off + n ≤ cs.length then some (.agg ((cs.drop off).take n)) else none

def writeS (cs : List SV) (off : Nat) : List SV → List SV
  | [] => cs
  | v :: vs => writeS (cs.set off v) (off + 1) vs

def optK {α : Type} (x : Option α) (K : α → Prop) : Prop := match x with | some a => K a | none => False

def seqK {α : Type} (f : SV → (α → Prop) → Prop) : List SV → (List α → Prop) → Prop
  | [], K => K []
  | v :: vs, K => f v fun a => seqK f vs fun as => K (a :: as)

/-- What is frozen. -/
def frzK (o : SStore) : Nat → SV → (SV → Prop) → Prop
  | _, .ud, K => K .ud
  | _, .sc v, K => match v with
    | .slice none 0 0 => K (.row (.i .i64) [])
    | v => K (.sc v)
  | _, .il k n, K => K (.il k n)
  | _, .si k n, K => K (.si k n)
  | _, .bl b, K => K (.bl b)
  | _, .sb b, K => K (.sb b)
  | _, .row s l, K => K (.row s l)
  | d + 1, .agg cs, K => seqK (frzK o d) cs fun cs' => K (.agg cs')
  | d + 1, .tup cs, K => seqK (frzK o d) cs fun cs' => K (.tup cs')
  | d + 1, .fn f a b, K => seqK (frzK o d) a fun a' => seqK (frzK o d) b fun b' => K (.fn f a' b')
  | _ + 1, .ow id n sz, K => match o[id]? with
    | some (.row s l _ _) => if sz = s.sz then n = l.length ∧ K (.row s l) else False
    | _ => False
  | _ + 1, .os id off len n sz, K => match o[id]? with
    | some (.row s l _ _) => if sz = s.sz then n = l.length ∧ off + len ≤ n ∧ K (.row s ((l.drop off).take len)) else False
    | _ => False
  | _, _, _ => False

/-- The cells behind an address: what is read there. -/
def loadK (o : SStore) (a : SV) (n : Option Nat) (K : SV → Prop) : Prop :=
  match a with
  | .ptr id off tot => match o[id]? with
    | some (.cells cs _ _ _) => if cs.length = tot then optK (partS cs off n) K else False
    | _ => False
  | .ap id base sz len tot i => match o[id]? with
    | some (.cells cs _ _ _) => if cs.length = tot ∧ base + sz * len ≤ tot then i < len ∧ pickK ((cs.drop base).take (sz * len)) sz i n K else False
    | _ => False
  | .ep s l i off => i < l.length ∧ optK (partS (encS s (nthD l i s.dflt)) off n) K
  | .rp id i off m sz => match o[id]? with
    | some (.row s l _ _) => if sz = s.sz then m = l.length ∧ i < l.length ∧ optK (partS (encS s (nthD l i s.dflt)) off n) K else False
    | _ => False
  | _ => False
where
  pickK (cs : List SV) (sz i : Nat) (n : Option Nat) (K : SV → Prop) : Prop :=
    match n, sz with
    | none, 1 => match ints cs with
      | some l => K (.si .i64 (nthD l i 0))
      | none => match rowsOff cs with
        | some l => K (.row .off (nthD l i []))
        | none => False
    | _, _ => False
  rowsOff : List SV → Option (List (List Off))
    | [] => some []
    | .row .off l :: cs => (rowsOff cs).map (l :: ·)
    | _ => none

/-- A new object, where a place was kept for it. -/
def mkK (nid : Nat) (x : SObj) (o : SStore) (K : SStore → Prop) : Prop :=
  match o[nid]? with
  | some .dead => K (o.set nid x)
  | _ => False

def castL (s s' : SId) (l : List s.T) : Option (List s'.T) := if h : s = s' then some (h ▸ l) else none

def fillS (parts : List (Nat × Nat × SV)) (cs : List SV) : Option (List SV) :=
  match parts with
  | [] => some cs
  | (off, n, v) :: rest =>
    if v.cellsOf.length = n ∧ oneS v.cellsOf = true ∧ off + n ≤ cs.length then fillS rest (writeS cs off v.cellsOf) else none

/-- Cells as elements. -/
def decL (s : SId) : Nat → List SV → Option (List s.T)
  | 0, [] => some []
  | n + 1, cs => match decS s (cs.take s.sz), decL s n (cs.drop s.sz) with
    | some x, some l => some (x :: l)
    | _, _ => none
  | _, _ => none

/-- The elements of a slice. -/
def elemsK (o : SStore) (s : SId) (x : SV) (K : List s.T → Prop) : Prop :=
  match x with
  | .row s' l => optK (castL s' s l) K
  | .ow id n sz => match o[id]? with
    | some (.row s' l _ _) => if sz = s'.sz then n = l.length ∧ optK (castL s' s l) K else False
    | _ => False
  | .os id off len n sz => match o[id]? with
    | some (.row s' l _ _) => if sz = s'.sz then n = l.length ∧ off + len ≤ n ∧ optK (castL s' s ((l.drop off).take len)) K else False
    | _ => False
  | .sc (.slice none 0 0) => K []
  | _ => False

def intS : SV → Option Int
  | .si _ n => some n
  | .il _ n => some n
  | _ => none

def isNil : SV → Bool
  | .sc (.slice none 0 0) => true
  | _ => false

def binK (op : BinOp) (x y : SV) (K : SV → Prop) : Prop :=
  match x, y with
  | .il k a, .il k' b => match scBin op (.int k a) (.int k' b) with
    | some (.int k n) => K (.il k n)
    | some (.bool c) => K (.bl c)
    | _ => False
  | .si k a, .si k' b => go k a k' b
  | .il k a, .si k' b => go k a k' b
  | .si k a, .il k' b => go k a k' b
  | .sc (.string a), .sc (.string b) => match op with
    | .eql => K (.sb (a.toList == b.toList))
    | .neq => K (.sb (!(a.toList == b.toList)))
    | _ => False
  | _, _ => False
where
  go (k : IntKind) (a : Int) (k' : IntKind) (b : Int) : Prop :=
    match op with
    | .shl => 0 ≤ b ∧ b ≤ k.bits ∧ inR k (a * 2 ^ b.toNat) ∧ K (.si k (a * 2 ^ b.toNat))
    | .shr => 0 ≤ b ∧ b ≤ k.bits ∧ K (.si k (a / 2 ^ b.toNat))
    | .add => if k = k' then inR k (a + b) ∧ K (.si k (a + b)) else False
    | .sub => if k = k' then inR k (a - b) ∧ K (.si k (a - b)) else False
    | .mul => if k = k' then inR k (a * b) ∧ K (.si k (a * b)) else False
    | .quo => if k = k' then b ≠ 0 ∧ inR k (a.tdiv b) ∧ K (.si k (a.tdiv b)) else False
    | .rem => if k = k' then b ≠ 0 ∧ K (.si k (a.tmod b)) else False
    | .and => if k = k' then K (.si k (andI k a b)) else False
    | .or => if k = k' then K (.si k (orI k a b)) else False
    | .xor => if k = k' then K (.si k (xorI k a b)) else False
    | .andNot => if k = k' then K (.si k (andNotI k a b)) else False
    | .eql => if k = k' then K (.sb (decide (a = b))) else False
    | .neq => if k = k' then K (.sb (decide (a ≠ b))) else False
    | .lss => if k = k' then K (.sb (decide (a < b))) else False
    | .leq => if k = k' then K (.sb (decide (a ≤ b))) else False
    | .gtr => if k = k' then K (.sb (decide (b < a))) else False
    | .geq => if k = k' then K (.sb (decide (b ≤ a))) else False
  andI (k : IntKind) (a b : Int) : Int := wrapI k (BitVec.ofInt k.bits a &&& BitVec.ofInt k.bits b).toNat
  orI (k : IntKind) (a b : Int) : Int := wrapI k (BitVec.ofInt k.bits a ||| BitVec.ofInt k.bits b).toNat
  xorI (k : IntKind) (a b : Int) : Int := wrapI k (BitVec.ofInt k.bits a ^^^ BitVec.ofInt k.bits b).toNat
  andNotI (k : IntKind) (a b : Int) : Int := wrapI k (BitVec.ofInt k.bits a &&& ~~~ (BitVec.ofInt k.bits b)).toNat

/-- '==' of two cells. -/
def seq1S : SV → SV → Option Bool
  | .si k a, y => (y.int k).map fun b => decide (a = b)
  | .il k a, y => (y.int k).map fun b => decide (a = b)
  | .sb a, y => y.boo.map fun b => a == b
  | .bl a, y => y.boo.map fun b => a == b
  | _, _ => none

def seqLS : List SV → List SV → Option Bool
  | [], [] => some true
  | x :: xs, y :: ys => match seq1S x y, seqLS xs ys with
    | some a, some b => some (a && b)
    | _, _ => none
  | _, _ => none

def kOkS : List Nat → List SV → Bool
  | [], [] => true
  | 0 :: ks, .si _ _ :: vs => kOkS ks vs
  | 0 :: ks, .il _ _ :: vs => kOkS ks vs
  | 1 :: ks, .sb _ :: vs => kOkS ks vs
  | 1 :: ks, .bl _ :: vs => kOkS ks vs
  | _, _ => false

def findT (sk sv : SId) (x : sk.T) (es : List (sk.T × sv.T)) : Option sv.T := (es.find? fun p => decide (p.1 = x)).map (·.2)

def setT (sk sv : SId) (x : sk.T) (v : sv.T) : List (sk.T × sv.T) → List (sk.T × sv.T)
  | [] => [(x, v)]
  | p :: r => if p.1 = x then (x, v) :: r else p :: setT sk sv x v r

/-- An aggregate, or none. -/
def aggIs (ka : Bool) : SV → Bool
  | .agg _ => ka
  | _ => !ka

/-- A map's key is of one of these kinds. -/
def SId.keyed : SId → Bool
  | .key | .sit | .i _ => true
  | _ => false

def boundK (d : Nat) : Option SV → (Nat → Prop) → Prop
  | none, K => K d
  | some (.il _ n), K => if 0 ≤ n then K n.toNat else False
  | some (.si _ n), K => 0 ≤ n ∧ K n.toNat
  | _, _ => False

/-- One of the numbers is another one. -/
def setI : List Int → Nat → Int → Nat → List Int
  | [], _, _, _ => []
  | a :: l, i, v, j => (if i = j then v else a) :: setI l i v (j + 1)

/-- What an operation must come to. -/
def opK (p : SPar) (op : IOp) (ρ : Operand → SV) (o : SStore) (nid : Nat) (K : SV → SStore → Prop) : Prop :=
  match op with
  | .mov x => K (ρ x) o
  | .pick c a b => match ρ c with
    | .bl true => K (ρ a) o
    | .bl false => K (ρ b) o
    | .sb c => (c = true → K (ρ a) o) ∧ (c = false → K (ρ b) o)
    | _ => False
  | .alloc z e pu => mkK nid (.cells (z.map .ofCell) e z.length pu) o fun o' => K (.ptr nid 0 z.length) o'
  | .box e x => if oneS (ρ x).cellsOf then mkK nid (.cells (ρ x).cellsOf e (ρ x).cellsOf.length false) o fun o' => K (.ptr nid 0 (ρ x).cellsOf.length) o' else False
  | .build z parts => optK (fillS (parts.map fun q => (q.1, q.2.1, ρ q.2.2)) (z.map .ofCell)) fun cs => K (.agg cs) o
  | .mkrow z len parts e sz => match p.ty e, fillS (parts.map fun q => (q.1, sz, ρ q.2)) ((List.replicate len (z.map SV.ofCell)).flatten) with
    | some s, some cs => if s.sz = sz then optK (decL s len cs) fun l => mkK nid (.row s l e true) o fun o' => K (.ow nid len sz) o' else False
    | _, _ => False
  | .mkimm z len parts e sz => match p.ty e, fillS (parts.map fun q => (q.1, sz, ρ q.2)) ((List.replicate len (z.map SV.ofCell)).flatten) with
    | some s, some cs => if s.sz = sz then optK (decL s len cs) fun l => K (.row s l) o else False
    | _, _ => False
  | .load n a => loadK o (ρ a) n fun v => K v o
  | .store n a x => match ρ a with
    | .ptr id off tot => match o[id]? with
      | some (.cells cs e sz pu) =>
        if cs.length = tot ∧ (ρ x).cellsOf.length = n ∧ oneS (ρ x).cellsOf = true ∧ off + n ≤ cs.length ∧ (pu = false ∨ pureS (ρ x).cellsOf = true) then K .ud (o.set id (.cells (writeS cs off (ρ x).cellsOf) e sz pu)) else False
      | _ => False
    | .rp id i off m sz => match o[id]? with
      | some (.row s l e pu) =>
        if sz = s.sz ∧ (ρ x).cellsOf.length = n ∧ off + n ≤ s.sz then m = l.length ∧ i < l.length ∧ optK (decS s (writeS (encS s (nthD l i s.dflt)) off (ρ x).cellsOf)) fun v => K .ud (o.set id (.row s (l.set i v) e pu)) else False
      | _ => False
    | .ap id base sz len tot i => match o[id]? with
      | some (.cells cs e sz' pu) => match n, sz, (ρ x).int .i64 with
        | 1, 1, some v => match ints ((cs.drop base).take len) with
          | some l => if cs.length = tot ∧ base + len ≤ tot then i < len ∧ K .ud (o.set id (.cells (writeS cs base ((setI l i v 0).map (SV.si .i64))) e sz' pu)) else False
          | none => False
        | _, _, _ => False
      | _ => False
    | _ => False
  | .nilc x => match ρ x with
    | .ptr a b c => K (.ptr a b c) o
    | .rp a b c d e => K (.rp a b c d e) o
    | .ep s l i f => K (.ep s l i f) o
    | _ => False
  | .bin op x y => binK op (ρ x) (ρ y) fun v => K v o
  | .beq neg x y => match (ρ x).boo, (ρ y).boo with
    | some a, some b => K (.sb (if neg then !(a == b) else a == b)) o
    | _, _ => False
  | .eqf neg ks x y => match ρ x, ρ y with
    | .agg a, .agg b => if kOkS ks a && kOkS ks b then optK (seqLS a b) fun r => K (.sb (if neg then !r else r)) o else False
    | _, _ => False
  | .un op x => match op, ρ x with
    | .not, .sb b => K (.sb !b) o
    | .not, .bl b => K (.bl !b) o
    | .neg, .si k n => inR k (-n) ∧ K (.si k (-n)) o
    | .neg, .il k n => K (.il k (wrapI k (0 - n))) o
    | _, _ => False
  | .conv k x => match ρ x with
    | .il _ n => K (.il k (wrapI k n)) o
    | .si _ n => inR k n ∧ K (.si k n) o
    | _ => False
  | .fieldA off x => match ρ x with
    | .ptr id b tot => K (.ptr id (b + off) tot) o
    | .ep s l i b => K (.ep s l i (b + off)) o
    | .rp id i b m sz => K (.rp id i (b + off) m sz) o
    | _ => False
  | .field off n x => match ρ x with
    | .agg cs => optK (partS cs off n) fun v => K v o
    | _ => False
  | .idxA len sz x i => match ρ i with
    | .il _ n => if 0 ≤ n ∧ n < len then (match ρ x with
      | .ptr id b tot => K (.ptr id (b + n.toNat * sz) tot) o
      | .ep s l j b => K (.ep s l j (b + n.toNat * sz)) o
      | .rp id j b m sz' => K (.rp id j (b + n.toNat * sz) m sz') o
      | _ => False) else False
    | .si _ n => match ρ x with
      | .ptr id b tot => 0 ≤ n ∧ n < len ∧ K (.ap id b sz len tot n.toNat) o
      | _ => False
    | _ => False
  | .idxS sz x i => match intS (ρ i) with
    | some n => match ρ x with
      | .row s l => if sz = s.sz then 0 ≤ n ∧ n < l.length ∧ K (.ep s l n.toNat 0) o else False
      | .ow id m sz' => match o[id]? with
        | some (.row s l _ _) => if sz = s.sz ∧ sz' = s.sz then m = l.length ∧ 0 ≤ n ∧ n < l.length ∧ K (.rp id n.toNat 0 m sz) o else False
        | _ => False
      | .os id off len m sz' => match o[id]? with
        | some (.row s l _ _) => if sz = s.sz ∧ sz' = s.sz then m = l.length ∧ 0 ≤ n ∧ n < len ∧ off + len ≤ m ∧ K (.rp id (off + n.toNat) 0 m sz) o else False
        | _ => False
      | _ => False
    | none => False
  | .idx len sz n x i => match ρ i, ρ x with
    | .il _ k, .agg cs => if 0 ≤ k ∧ k < len then optK (partS cs (k.toNat * sz) n) fun v => K v o else False
    | .si _ k, .agg cs => match n, sz, ints cs with
      | none, 1, some l => if l.length = len then 0 ≤ k ∧ k < len ∧ K (.si .i64 (nthD l k.toNat 0)) o else False
      | _, _, _ => False
    | _, _ => False
  | .mkslice z e sz bytes l c pu => match intS (ρ l), intS (ρ c), p.ty e with
    | some n, some m, some s => if s.sz = sz then optK (decS s (z.map .ofCell)) fun x => 0 ≤ n ∧ n ≤ m ∧ m * bytes ≤ 140737488355328 ∧ m ≤ 1000000000000 ∧
        mkK nid (.row s (List.replicate n.toNat x) e pu) o fun o' => K (.ow nid n.toNat sz) o' else False
    | _, _, _ => False
  | .slice sz x lo hi => match ρ x with
    | .row s l => if sz = s.sz then boundK 0 (lo.map ρ) fun a => boundK l.length (hi.map ρ) fun b => a ≤ b ∧ b ≤ l.length ∧ K (.row s ((l.drop a).take (b - a))) o else False
    | .ow id m sz' => match o[id]? with
      | some (.row s l _ _) => if sz = s.sz ∧ sz' = s.sz then m = l.length ∧ boundK 0 (lo.map ρ) fun a => boundK m (hi.map ρ) fun b => a ≤ b ∧ b ≤ m ∧ K (.os id a (b - a) m sz) o else False
      | _ => False
    | _ => False
  | .append e sz bytes s x pu => match p.ty e with
    | some t => if t.sz = sz then elemsK o t (ρ x) fun new => match ρ s with
        | .sc (.slice none 0 0) => (new.length = 0 → K (.sc nilSl) o) ∧ (new.length ≠ 0 → new.length * bytes ≤ 140737488355328 ∧ new.length ≤ 1000000000000 ∧ mkK nid (.row t new e pu) o fun o' => K (.ow nid new.length sz) o')
        | .ow id n sz' => match o[id]? with
          | some (.row t' l e' pu') => if e' = e ∧ t'.sz = sz ∧ sz' = sz then n = l.length ∧ (l.length + new.length) * bytes ≤ 140737488355328 ∧ l.length + new.length ≤ 1000000000000 ∧
              optK (castL t' t l) fun l' => K (.ow id (l' ++ new).length sz) (o.set id (.row t (l' ++ new) e pu')) else False
          | _ => False
        | .row t' l => new.length = 0 ∧ K (.row t' l) o
        | _ => False
      else False
    | none => False
  | .len k x => match k, ρ x with
    | 0, .row _ l => K (.si .i64 l.length) o
    | 0, .ow _ n _ => K (.si .i64 n) o
    | 0, .os _ _ len _ _ => K (.si .i64 len) o
    | 0, .sc (.slice none 0 0) => K (.il .i64 0) o
    | 1, .sc (.string s) => K (.si .i64 s.size) o
    | 2, .mp id => match o[id]? with
      | some (.map _ _ _ es _ _) => K (.si .i64 es.length) o
      | _ => False
    | _, _ => False
  | .lenArr n => K (.il .i64 n) o
  | .mm mx x y => match ρ x, ρ y with
    | .il k a, .il k' b => if k = k' then K (.il k (if mx then (if b > a then b else a) else (if b < a then b else a))) o else False
    | .si k a, y => optK (y.int k) fun b => K (.si k (if mx then max a b else min a b)) o
    | .il k a, y => optK (y.int k) fun b => K (.si k (if mx then max a b else min a b)) o
    | _, _ => False
  | .call f args own => callK p f (args.map ρ) o own K
  | .callv f args own => match ρ f with
    | .fn (.func g) first captured => callK p g (first ++ args.map ρ ++ captured) o own K
    | _ => False
  | .extract x i => match ρ x with
    | .tup vs => optK vs[i]? fun v => K v o
    | _ => False
  | .mkfn f first captured => K (.fn f (first.map ρ) (captured.map ρ)) o
  | .mkmap kt pu => match p.mt kt with
    | some (sk, sv) => mkK nid (.map sk sv kt.2 [] kt pu) o fun o' => K (.mp nid) o'
    | none => False
  | .lookup z agg ks ka x k ok => match ρ x with
    | .mp id => match o[id]? with
      | some (.map sk sv ka' es kt _) =>
        if kt = (ks, ka) ∧ ka' = ka ∧ sk.keyed = true ∧ sv.sz = 1 ∧ agg = false ∧ (ka = false → sk.sz = 1) ∧ kOkS ks (ρ k).cellsOf = true ∧ aggIs ka (ρ k) = true then
          optK (decS sk (ρ k).cellsOf) fun kv => optK (decS sv (z.map .ofCell)) fun zv =>
            let r := (encS sv ((findT sk sv kv es).getD zv)).headD .ud
            K (if ok then .tup [r, .sb (findT sk sv kv es).isSome] else r) o
        else False
      | _ => False
    | _ => False
  | .mapset ks ka x k v => match ρ x with
    | .mp id => match o[id]? with
      | some (.map sk sv ka' es kt pu) =>
        if kt = (ks, ka) ∧ ka' = ka ∧ sk.keyed = true ∧ sv.sz = 1 ∧ (ka = false → sk.sz = 1) ∧ kOkS ks (ρ k).cellsOf = true ∧ aggIs ka (ρ k) = true ∧ aggIs false (ρ v) = true then
          optK (decS sk (ρ k).cellsOf) fun kv => optK (decS sv (ρ v).cellsOf) fun vv => K .ud (o.set id (.map sk sv ka' (setT sk sv kv vv es) kt pu))
        else False
      | _ => False
    | _ => False
  | _ => False
where
  callK (p : SPar) (f : FuncId) (args : List SV) (o : SStore) (own : Bool) (K : SV → SStore → Prop) : Prop :=
    if own then p.C.own f args o K
    else seqK (frzK o 6) args fun args' => p.C.pure f args' fun r => if (args.flatMap (fun v => tchF (o.map SObj.g) 6 v.g)).isEmpty || r.noSl then K r o else False

/-! ### regions -/

def setE : SEnv → Nat → SV → SEnv
  | [], _, _ => []
  | p :: r, s, v => bif Nat.beq p.1 s then (p.1, v) :: r else p :: setE r s v

/-- Is the operation run? A condition that is open is settled here. -/
def wantK (env : SEnv) (g : Option (Option Nat × Bool)) (K : SEnv → Bool → Prop) : Prop :=
  match g with
  | none => K env true
  | some (none, _) => False
  | some (some s, b) => match getS env s with
    | .bl c => K env (c == b)
    | .sb c => (c = true → K (setE env s (.bl true)) (true == b)) ∧ (c = false → K (setE env s (.bl false)) (false == b))
    | .tup [] => K env false
    | _ => False

def opsK (p : SPar) (base : Nat) : List IOper → SSt → Trace → (SSt → Trace → Prop) → Prop
  | [], st, tr, K => K st tr
  | i :: r, st, tr, K => wantK st.env i.guard fun env w =>
      if w then opK p i.op (evS env) st.o (base + i.nid) fun v o' => opsK p base r ⟨putS env i.dst v, o'⟩ ((i.idx, tch i.op (fun x => (evS env x).g) (st.o.map SObj.g) (base + i.nid), wrt i.op (fun x => (evS env x).g) (st.o.map SObj.g) (base + i.nid)) :: tr) K
      else opsK p base r ⟨putS env i.dst (.tup []), st.o⟩ ((i.idx, [], []) :: tr) K

def SObj.isDead : SObj → Bool
  | .dead => true
  | _ => false

def sweepS (base : Nat) (o : SStore) : SStore := if (o.drop base).all (·.isDead) then o.take base else o

def regK (p : SPar) (k : Nat) (ops : List IOper) (chk : List (Nat × Nat)) (st : SSt) (K : SSt → Prop) : Prop :=
  opsK p st.o.length ops ⟨st.env, st.o ++ List.replicate k .dead⟩ [] fun st' tr =>
    if chk.isEmpty || chkOk (st.o.length + k) tr.reverse chk then K ⟨st'.env, if k = 0 then st'.o else sweepS st.o.length st'.o⟩ else False

/-! hints -/

mutual
/-- A row is let go as a plain slice. -/
def frzV (id : Nat) (s : SId) (l : List s.T) : SV → (SV → Prop) → Prop
  | .ow j n sz, K => if j = id then (if sz = s.sz then n = l.length ∧ K (.row s l) else False) else K (.ow j n sz)
  | .os j off len n sz, K => if j = id then (if sz = s.sz then n = l.length ∧ off + len ≤ n ∧ K (.row s ((l.drop off).take len)) else False) else K (.os j off len n sz)
  | .rp j i f n sz, K => if j = id then False else K (.rp j i f n sz)
  | .ptr j f t, K => if j = id then False else K (.ptr j f t)
  | .ap j a b c d e, K => if j = id then False else K (.ap j a b c d e)
  | .agg cs, K => frzVL id s l cs fun cs' => K (.agg cs')
  | .tup cs, K => frzVL id s l cs fun cs' => K (.tup cs')
  | .fn f a b, K => frzVL id s l a fun a' => frzVL id s l b fun b' => K (.fn f a' b')
  | v, K => K v
def frzVL (id : Nat) (s : SId) (l : List s.T) : List SV → (List SV → Prop) → Prop
  | [], K => K []
  | c :: cs, K => frzV id s l c fun c' => frzVL id s l cs fun cs' => K (c' :: cs')
end

def frzEK (id : Nat) (s : SId) (l : List s.T) : SEnv → (SEnv → Prop) → Prop
  | [], K => K []
  | (k, v) :: r, K => frzV id s l v fun v' => frzEK id s l r fun r' => K ((k, v') :: r')

def frzOK (id : Nat) (s : SId) (l : List s.T) : Nat → SStore → (SStore → Prop) → Prop
  | _, [], K => K []
  | i, x :: r, K => match x with
    | .cells cs e sz pu => if pu then (if i = id then False else frzOK id s l (i + 1) r fun r' => K (.cells cs e sz pu :: r')) else frzVL id s l cs fun cs' => frzOK id s l (i + 1) r fun r' => K (.cells cs' e sz pu :: r')
    | .row s' l' e pu => if i = id then (if pu then frzOK id s l (i + 1) r fun r' => K (.dead :: r') else False) else frzOK id s l (i + 1) r fun r' => K (.row s' l' e pu :: r')
    | x => frzOK id s l (i + 1) r fun r' => K (x :: r')

def hintK (p : SPar) (lo : Nat) (h : OwnH) (st : SSt) (K : SSt → Prop) : Prop :=
  if h.own then match h.off with
    | none => if isNil (getS st.env h.slot) then (match p.ty h.e with
        | some s => if s.sz = h.sz then K ⟨(h.slot, .ow st.o.length 0 h.sz) :: st.env, st.o ++ [.row s [] h.e h.pu]⟩ else False
        | none => False) else K st
    | some k => match getS st.env h.slot with
      | .ptr id off tot => match st.o[id]? with
        | some (.cells cs e sz pu) => if (cs[off + k]?).any isNil then (if cs.length = tot ∧ pu = false then (match p.ty h.e with
            | some s => if s.sz = h.sz then K ⟨st.env, (st.o.set id (.cells (cs.set (off + k) (.ow st.o.length 0 h.sz)) e sz pu)) ++ [.row s [] h.e h.pu]⟩ else False
            | none => False) else False) else K st
        | _ => False
      | _ => False
  else match cellK h st with
    | some (some id) => if Nat.ble lo id then (match st.o[id]? with
      | some (.row s l _ pu) => if pu then frzEK id s l st.env fun env => frzOK id s l 0 st.o fun o => K ⟨env, o⟩ else False
      | _ => False) else K st
    | some none => K st
    | none => False
where
  /-- The object of a slice of the call's own. -/
  idOf : SV → Option Nat
    | .ow id .. => some id
    | .os id .. => some id
    | _ => none
  cellK (h : OwnH) (st : SSt) : Option (Option Nat) :=
    match h.off with
    | none => some (idOf (getS st.env h.slot))
    | some k => match getS st.env h.slot with
      | .ptr id off tot => match st.o[id]? with
        | some (.cells cs _ _ _) => if cs.length = tot then (cs[off + k]?).map idOf else none
        | _ => none
      | _ => none

def hintsK (p : SPar) (lo : Nat) : List OwnH → SSt → (SSt → Prop) → Prop
  | [], st, K => K st
  | h :: hs, st, K => hintK p lo h st fun st' => hintsK p lo hs st' K

def pruneS (live : List Nat) (env : SEnv) : SEnv := live.map fun s => (s, getS env s)

def trimS (k : Nat) (st : SSt) : SSt :=
  if st.o.length ≤ k then st
  else if (st.env.all fun p => p.2.bel k) && ((st.o.take k).all fun x => x.bel k) then ⟨st.env, st.o.take k⟩ else st

/-- Equal as values. -/
def SV.same (v w : SV) : Prop := v.g = w.g
def SObj.same (x y : SObj) : Prop := x.g = y.g

def sameE : SEnv → SEnv → Prop
  | [], [] => True
  | (k, v) :: e, (k', v') :: e' => if k = k' then v.same v' ∧ sameE e e' else False
  | _, _ => False

def sameO : SStore → SStore → Prop
  | [], [] => True
  | x :: o, y :: o' => x.same y ∧ sameO o o'
  | _, _ => False

/-- Equal as states. -/
def sameSt (s t : SSt) : Prop := sameE s.env t.env ∧ sameO s.o t.o

/-! what a state holds -/
def iS (s : SSt) (k : Nat) : Int := match getS s.env k with
  | .si _ n => n
  | .il _ n => n
  | _ => 0
def bS (s : SSt) (k : Nat) : Bool := match getS s.env k with
  | .sb b => b
  | .bl b => b
  | _ => false
def rS (t : SId) (s : SSt) (k : Nat) : List t.T := match getS s.env k with
  | .row t' l => match castL t' t l with
    | some l => l
    | none => []
  | _ => []
def oS (t : SId) (s : SSt) (id : Nat) : List t.T := match s.o[id]? with
  | some (.row t' l _ _) => match castL t' t l with
    | some l => l
    | none => []
  | _ => []
/-- The element that lies in an object's cells. -/
def cS (t : SId) (s : SSt) (id off : Nat) : t.T := match s.o[id]? with
  | some (.cells cs _ _ _) => match decS t ((cs.drop off).take t.sz) with
    | some x => x
    | none => t.dflt
  | _ => t.dflt
def castM (k v k' v' : SId) (es : List (k.T × v.T)) : Option (List (k'.T × v'.T)) := if h : k = k' ∧ v = v' then some (h.1 ▸ h.2 ▸ es) else none
def mS (k v : SId) (s : SSt) (id : Nat) : List (k.T × v.T) := match s.o[id]? with
  | some (.map k' v' _ es _ _) => match castM k' v' k v es with
    | some es => es
    | none => []
  | _ => []

/-- A number that is below 'n': each case by itself. -/
def splitN (v : Int) (n : Nat) (K : Nat → Prop) : Nat → Prop
  | 0 => 0 ≤ v ∧ v < n
  | j + 1 => (v = (n - (j + 1) : Nat) → K (n - (j + 1))) ∧ splitN v n K j

def splitK (x : Option (Nat × Nat × Nat)) (st : SSt) (K : SSt → Prop) : Prop :=
  match x with
  | none => K st
  | some (id, off, n) => match st.o[id]? with
    | some (.cells cs e sz pu) => match cs[off]? with
      | some (.si k v) => splitN v n (fun j => K ⟨st.env, st.o.set id (.cells (cs.set off (.il k j)) e sz pu)⟩) n
      | _ => False
    | _ => False

/-- How a loop is run: so many times, or by an invariant over the values of 'X'. -/
inductive LoopAnn where
  | unroll (n : Nat)
  | look
  | inv (X : Type) (shape : X → SSt) (next : SSt → X) (J : X → Prop) (m : X → Nat) (inner : X → Nat → LoopAnn)

def Look (_ : SSt) : Prop := False

/-- The first region of a piece of code. -/
def firstReg : IR → Nat
  | .region id .. => id
  | .seq a _ => firstReg a
  | .block _ b => firstReg b
  | .loop b => firstReg b
  | _ => 0

def unrollK (W : SSt → (Out → SSt → Prop) → Prop) (Q : Out → SSt → Prop) : Nat → SSt → Prop
  | 0, _ => False
  | n + 1, st => W st fun out s => match out with
    | .norm => unrollK W Q n (trimS st.o.length s)
    | o => Q o s

/-- What must hold for a piece of code to come to 'Q'. -/
def wpS (p : SPar) (lo : Nat) : IR → (Nat → LoopAnn) → SSt → (Out → SSt → Prop) → Prop
  | .skip, _, st, Q => Q .norm st
  | .region id _ k ops chk live pre post, _, st, Q => splitK (p.sp id) st fun st0 => hintsK p lo pre st0 fun st1 => regK p k ops chk st1 fun st2 => hintsK p lo post ⟨pruneS live st2.env, st2.o⟩ fun st3 => Q .norm st3
  | .seq a b, Λ, st, Q => wpS p lo a Λ st fun out s => match out with
    | .norm => wpS p lo b Λ s Q
    | o => Q o s
  | .cond x a b, Λ, st, Q => match evS st.env x with
    | .bl true => wpS p lo a Λ st Q
    | .bl false => wpS p lo b Λ st Q
    | .sb c => (c = true → wpS p lo a Λ st Q) ∧ (c = false → wpS p lo b Λ st Q)
    | _ => False
  | .block id b, Λ, st, Q => wpS p lo b Λ st fun out s => Q (out.inBlock id) s
  | .loop b, Λ, st, Q => match Λ (firstReg b) with
    | .unroll n => unrollK (wpS p lo b Λ) Q n st
    | .look => Look st
    | .inv _ shape next J m inner => (sameSt st (shape (next st)) ∧ J (next st)) ∧ ∀ x, J x → wpS p lo b (inner x) (shape x) fun out s => match out with
      | .norm => sameSt (trimS (shape x).o.length s) (shape (next (trimS (shape x).o.length s))) ∧ J (next (trimS (shape x).o.length s)) ∧ m (next (trimS (shape x).o.length s)) < m x
      | o => Q o s
  | .exit id, _, st, Q => Q (.exit id) st
  | .ret, _, st, Q => Q .ret st

def bindS : Nat → List SV → SEnv
  | _, [] => []
  | i, v :: vs => (i, v) :: bindS (i + 1) vs

def resK (st : SSt) (rs : List IRes) (K : SV → Prop) : Prop :=
  goK rs fun l => match l with
    | [v] => K v
    | l => K (.tup l)
where
  goK : List IRes → (List SV → Prop) → Prop
    | [], K => K []
    | r :: rs, K => oneK r fun v => goK rs fun l => K (v :: l)
  oneK (r : IRes) (K : SV → Prop) : Prop := match r.cell with
    | none => K (getS st.env r.slot)
    | some n => loadK st.o (getS st.env r.slot) n K

/-- A call of a function that does not write to what is handed in. -/
def fnK (p : SPar) (Λ : Nat → LoopAnn) (F : IFn) (args : List SV) (Q : SV → Prop) : Prop :=
  wpS p 0 F.body Λ ⟨bindS 0 args, []⟩ fun out st => match out with
    | .exit _ => False
    | _ => resK st F.res fun r => frzK st.o 6 r Q

/-- A call of a function that may write to the first 'o.length' objects. -/
def fnOwnK (p : SPar) (Λ : Nat → LoopAnn) (F : IFn) (args : List SV) (o : SStore) (Q : SV → SStore → Prop) : Prop :=
  wpS p o.length F.body Λ ⟨bindS 0 args, o⟩ fun out st => match out with
    | .exit _ => False
    | _ => resK st F.res fun r => if r.bel o.length && st.o.all (fun x => x.bel o.length) && decide (o.length ≤ st.o.length) then Q r (st.o.take o.length) else False

end Go.Vi
