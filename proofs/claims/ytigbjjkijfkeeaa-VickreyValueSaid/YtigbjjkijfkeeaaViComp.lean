/-
  The abstract interpreter: how a function's code becomes the small code. Plain definitions: no proof stands here.
  Conditions: none.
-/
import Derived.Test.YtigbjjkijfkeeaaViDef
namespace Go.Vi

def IOp.opds : IOp → List Operand
  | .mov x | .box _ x | .load _ x | .nilc x | .un _ x | .conv _ x | .fieldA _ x | .field _ _ x | .len _ x | .extract x _ => [x]
  | .pick c a b => [c, a, b]
  | .alloc .. | .lenArr _ | .mkmap .. => []
  | .build _ ps => ps.map (·.2.2)
  | .mkrow _ _ ps _ _ | .mkimm _ _ ps _ _ => ps.map (·.2)
  | .store _ a x => [a, x]
  | .bin _ x y | .beq _ x y | .eqf _ _ x y | .mm _ x y => [x, y]
  | .idxA _ _ x i | .idxS _ x i | .idx _ _ _ x i | .idxStr x i => [x, i]
  | .mkslice _ _ _ _ l c _ => [l, c]
  | .slice _ x lo hi | .sliceStr x lo hi => x :: (lo.toList ++ hi.toList)
  | .append _ _ _ s x _ => [s, x]
  | .call _ args _ => args
  | .callv f args _ => f :: args
  | .mkfn _ a b => a ++ b
  | .lookup _ _ _ _ x k _ => [x, k]
  | .mapset _ _ x k v => [x, k, v]

/-- How an operation stands to the objects: it does not look (0), it looks (1), it writes (2), it writes and may leave new objects behind (3). -/
def IOp.cls : IOp → Nat
  | .mov _ | .pick .. | .build .. | .mkimm .. | .nilc _ | .bin .. | .beq .. | .eqf .. | .un .. | .conv .. | .fieldA .. | .field .. | .idxA .. | .idx .. | .idxStr .. | .sliceStr .. | .lenArr _
  | .mm .. | .extract .. | .mkfn .. => 0
  | .load .. | .idxS .. | .slice .. | .len .. | .lookup .. | .call _ _ false | .callv _ _ false => 1
  | .alloc .. | .box .. | .mkrow .. | .mkslice .. | .mkmap .. | .store .. | .append .. | .mapset .. => 2
  | .call _ _ true | .callv _ _ true => 3

def IOp.makes : IOp → Bool
  | .alloc .. | .box .. | .mkrow .. | .mkslice .. | .mkmap .. | .append .. => true
  | _ => false

def tmpsOf (l : List Operand) : List Nat := l.filterMap fun | .tmp t => some t | _ => none

def IOper.reads (i : IOper) : List Nat :=
  tmpsOf i.op.opds ++ (match i.guard with | some (some s, _) => [s] | _ => [])

def disj (d : Option Nat) (l : List Nat) : Bool := match d with | none => true | some d => !l.contains d

/-- The temporaries of the two do not meet. -/
def apartT (a b : IOper) : Bool :=
  disj a.dst b.reads && disj b.dst a.reads && (match a.dst, b.dst with | some x, some y => x != y | _, _ => true)

/-- The two may change places whatever they touch. -/
def freeM (a b : IOper) : Bool := a.op.cls == 0 || b.op.cls == 0 || (a.op.cls == 1 && b.op.cls == 1)

/-- The two may change places if they touch different objects. -/
def mayM (a b : IOper) : Bool := a.op.cls != 3 || b.op.cls != 3

/-- Edges that bind point backwards. -/
def edgesB : Nat → List Oper → Bool
  | _, [] => true
  | i, o :: r => o.after.toList.all (fun e => !Region.binds .any e || decide (e.on < i)) && edgesB (i + 1) r

structure RH where
  id : Nat
  live : List Nat
  perm : List Nat := []
  flags : List Nat := []
  pre : List OwnH := []
  post : List OwnH := []

def kindsFs (kt : TypeId → Option (List Nat)) : Nat → List Field → Option (List Nat)
  | _, [] => some []
  | off, f :: fs => if f.name = "_" ∨ f.offset ≠ off then none else match kt f.type with
    | some a => match kindsFs kt (off + a.length) fs with
      | some r => some (a ++ r)
      | none => none
    | none => none

/-- The kinds of a type's cells, if all are integers, bools and strings. -/
def kindsT (P : Program) : Nat → TypeId → Option (List Nat)
  | 0, _ => none
  | d + 1, t => match P.underlying t, (P.info? t).map (·.size) with
    | some (.int _), some 1 => some [0]
    | some .bool, some 1 => some [1]
    | some .string, some 1 => some [2]
    | some (.struct fs), some n => if P.stoodInHeld t then none else match kindsFs (kindsT P d) 0 fs.toList with
      | some ks => if ks.length = n then some ks else none
      | none => none
    | some (.array k e), some n => match kindsT P d e with
      | some ks => if n = k * ks.length then some ((List.replicate k ks).flatten) else none
      | none => none
    | _, _ => none

def isAggT (P : Program) (t : TypeId) : Option Bool :=
  match P.underlying t with
  | some (.struct _) | some (.array _ _) => some true
  | some _ => some false
  | none => none

def sizeT (P : Program) (t : TypeId) : Option Nat := (P.info? t).map (·.size)
def bytesT (P : Program) (t : TypeId) : Option Nat := (P.info? t).map (·.bytes)

/-- 'none' for one cell, 'some n' for an aggregate of n cells. -/
def shapeT (P : Program) (t : TypeId) : Option (Option Nat) :=
  match isAggT P t, sizeT P t with
  | some true, some n => some (some n)
  | some false, some _ => some none
  | _, _ => none

def zeroT (P : Program) (t : TypeId) : Option (List Value) :=
  match (P.info? t).bind (·.zero), sizeT P t with
  | some z, some n => if z.cells.toList.all (·.oneCell') && z.cells.size == n then some z.cells.toList else none
  | _, _ => none

/-- The zero value is an aggregate just where the type says so. -/
def zeroOk (P : Program) (t : TypeId) (g : Bool) : Bool :=
  match (P.info? t).bind (·.zero) with
  | some (.agg _) => g
  | some _ => !g
  | none => false

def optAll {α β : Type} (f : α → Option β) : List α → Option (List β)
  | [] => some []
  | a :: l => match f a, optAll f l with
    | some b, some r => some (b :: r)
    | _, _ => none

def goodF (P : Program) (f : FuncId) : Bool := (P.funcs[f]?).any fun fn => fn.body.isSome && !(fn.name == "runtime.NumGoroutine")

def placesT (P : Program) (fields : Array Field) : Option (List (Nat × Nat)) := fields.toList.mapM fun f => (P.info? f.type).map fun i => (f.offset, i.size)

def placeT (places : List (Nat × Nat)) (p : Nat × Operand) : Option (Nat × Nat × Operand) := (places[p.1]?).map fun q => (q.1, q.2, p.2)

def compOp (P : Program) (fl : Bool) (o : Oper) : Option IOp :=
  match o.op with
  | .move x | .assign x => some (.mov x)
  | .pick c a b => some (.pick c a b)
  | .alloc e => (zeroT P e).map fun z => .alloc z e fl
  | .box e x => some (.box e x)
  | .build t parts => match zeroT P t, P.underlying t with
    | some z, some (.struct fields) => match placesT P fields with
      | some places => (optAll (placeT places) parts.toList).map fun ps => .build z ps
      | none => none
    | some z, some (.array _ e) => (sizeT P e).map fun n => .build z (parts.toList.map fun p => (p.1 * n, n, p.2))
    | _, _ => none
  | .buildSlice t len parts => match P.underlying t with
    | some (.slice e) => match zeroT P e with
      | some z => if len * z.length ≤ 16777216 ∧ 0 < z.length then some (if fl then .mkimm z len (parts.toList.map fun p => (p.1 * z.length, p.2)) e z.length else .mkrow z len (parts.toList.map fun p => (p.1 * z.length, p.2)) e z.length) else none
      | none => none
    | _ => none
  | .load t a => (shapeT P t).map fun n => .load n a
  | .store t a x => (sizeT P t).map fun n => .store n a x
  | .nilCheck x => some (.nilc x)
  | .binOp op t x y _ => match op with
    | .eql | .neq => match P.underlying t with
      | some (.struct _) | some (.array _ _) => if 20 ≤ P.depth then (kindsT P 20 t).map fun ks => .eqf (op matches .neq) ks x y else none
      | some .bool => some (.beq (op matches .neq) x y)
      | some (.int _) | some .string => some (.bin op x y)
      | _ => none
    | _ => some (.bin op x y)
  | .unOp op _ x => some (.un op x)
  | .convert s d x => match P.underlying s, P.underlying d with
    | some _, some (.int k) => some (.conv k x)
    | _, _ => none
  | .fieldAddr s x f => match P.underlying s with
    | some (.struct fs) => match fs[f]? with
      | some g => match sizeT P g.type with
        | some n => if n = 0 then none else some (.fieldA g.offset x)
        | none => none
      | none => none
    | _ => none
  | .field t x f => match P.underlying t with
    | some (.struct fs) => match fs[f]? with
      | some g => (shapeT P g.type).map fun n => .field g.offset n x
      | none => none
    | _ => none
  | .indexAddr t x i => match P.underlying t with
    | some (.array len e) => (sizeT P e).map fun n => .idxA len n x i
    | some (.slice e) => match sizeT P e with
      | some n => if n = 0 then none else some (.idxS n x i)
      | none => none
    | _ => none
  | .index t x i => match P.underlying t with
    | some (.array len e) => match sizeT P e, shapeT P e with
      | some s, some n => some (.idx len s n x i)
      | _, _ => none
    | some .string => some (.idxStr x i)
    | _ => none
  | .makeSlice t l c => match P.underlying t with
    | some (.slice e) => match zeroT P e, bytesT P e with
      | some z, some b => if 0 < z.length then some (.mkslice z e z.length b l c fl) else none
      | _, _ => none
    | _ => none
  | .slice t x lo hi none => match P.underlying t with
    | some (.slice e) => match sizeT P e with
      | some n => if n = 0 then none else some (.slice n x lo hi)
      | none => none
    | some .string => some (.sliceStr x lo hi)
    | _ => none
  | .call c => match c.callee with
    | .value (.func f) => if goodF P f then some (.call f c.args.toList fl) else none
    | .value v => some (.callv v c.args.toList fl)
    | .builtin .append => match c.args.toList, c.argTypes.toList with
      | [s, x], [t, t'] => if t = t' then match P.underlying t with
          | some (.slice e) => match zeroT P e, bytesT P e with
            | some z, some b => if 0 < z.length then some (.append e z.length b s x fl) else none
            | _, _ => none
          | _ => none
        else none
      | _, _ => none
    | .builtin .len => match c.args.toList, c.argTypes.toList with
      | [x], [t] => match P.underlying t with
        | some (.slice _) => some (.len 0 x)
        | some .string => some (.len 1 x)
        | some (.map _ _) => some (.len 2 x)
        | some (.array n _) => some (.lenArr n)
        | _ => none
      | _, _ => none
    | .builtin .min => match c.args.toList with
      | [x, y] => some (.mm false x y)
      | _ => none
    | .builtin .max => match c.args.toList with
      | [x, y] => some (.mm true x y)
      | _ => none
    | _ => none
  | .extract x i => some (.extract x i)
  | .makeFunc f a b => some (.mkfn f a.toList b.toList)
  | .makeMap t none => match P.underlying t with
    | some (.map kt _) => match kindsT P 20 kt, isAggT P kt with
        | some ks, some ka => some (.mkmap (ks, ka) fl)
        | _, _ => none
    | _ => none
  | .lookup t x k ok => match P.underlying t with
    | some (.map kt et) => match kindsT P 20 kt, isAggT P kt, zeroT P et, isAggT P et with
        | some ks, some ka, some z, some g => if zeroOk P et g then some (.lookup z g ks ka x k ok) else none
        | _, _, _, _ => none
    | _ => none
  | .mapUpdate t m k v | .insert t m k v => match P.underlying t with
    | some (.map kt _) => match kindsT P 20 kt, isAggT P kt with
        | some ks, some ka => some (.mapset ks ka m k v)
        | _, _ => none
    | _ => none
  | _ => none

def dstOk (nt : Nat) : Option Nat → Bool
  | none => true
  | some d => decide (d < nt)

def compOper (P : Program) (nt : Nat) (fl : List Nat) (ops : Array Oper) (nid i : Nat) : Option IOper :=
  match ops[i]? with
  | none => none
  | some o => if dstOk nt o.dst then (compOp P (fl.contains i) o).map fun op => ⟨i, nid, o.dst, op, o.guard.map fun g => (((ops[g.1]?).bind (·.dst)), g.2)⟩ else none

/-- The operations in the order that is given, each that makes an object with a place of its own. -/
def compOpers (P : Program) (nt : Nat) (fl : List Nat) (ops : Array Oper) : Nat → List Nat → Option (List IOper × Nat)
  | k, [] => some ([], k)
  | k, i :: r => match compOper P nt fl ops k i with
    | none => none
    | some x => match compOpers P nt fl ops (if x.op.makes then k + 1 else k) r with
      | none => none
      | some (l, n) => some (x :: l, n)

/-- For each operation, as bits: those that surely run ahead of it. -/
def ancStep (acc : List Nat) (s : Nat) (e : Edge) : Nat := if Region.binds .any e then s ||| (2 ^ e.on ||| acc.getD e.on 0) else s

def ancs (ops : Array Oper) : List Nat :=
  ops.toList.foldl (fun acc o => acc ++ [o.after.toList.foldl (ancStep acc) 0]) []

/-- Pairs that may meet in either order, and whose objects must then be looked at. -/
def pairsOf (an : List Nat) : List IOper → List (Nat × Nat)
  | [] => []
  | a :: r => (r.filterMap fun b => if (an.getD b.idx 0).testBit a.idx || freeM a b then none else some (a.idx, b.idx)) ++ pairsOf an r

def swapsOk (an : List Nat) : List IOper → Bool
  | [] => true
  | a :: r => r.all (fun b => (an.getD b.idx 0).testBit a.idx || (apartT a b && (freeM a b || mayM a b))) && swapsOk an r

def nodupB : List Nat → Bool
  | [] => true
  | a :: r => !r.contains a && nodupB r

def compReg (P : Program) (nt : Nat) (H : List RH) (id : Nat) (ops : Array Oper) (draw : Bool) : Option IR :=
  match H.find? (·.id == id) with
  | none => none
  | some h =>
    if draw then
      let perm := if h.perm.isEmpty then List.range ops.size else h.perm
      match compOpers P nt h.flags ops 0 perm with
      | some (l, k) => if P.follows .mixedOrders && perm.length == ops.size && nodupB perm && swapsOk (ancs ops) l && edgesB 0 ops.toList && (List.range ops.size).all perm.contains then some (.region id true k l (pairsOf (ancs ops) l) h.live h.pre h.post) else none
      | none => none
    else (compOpers P nt h.flags ops 0 (List.range ops.size)).map fun (l, k) => .region id false k l [] h.live h.pre h.post

def comp (P : Program) (nt : Nat) (H : List RH) : Code → Option IR
  | .skip => some .skip
  | .region id ops draw => compReg P nt H id ops draw
  | .seq a b => match comp P nt H a, comp P nt H b with
    | some x, some y => some (.seq x y)
    | _, _ => none
  | .cond c a b => match comp P nt H a, comp P nt H b with
    | some x, some y => some (.cond c x y)
    | _, _ => none
  | .block id b => (comp P nt H b).map (.block id)
  | .loop b => (comp P nt H b).map .loop
  | .exit id => some (.exit id)
  | .ret => some .ret
  | _ => none

def compRes (P : Program) : ResultVar → Option IRes
  | .tmp t => some ⟨t, none⟩
  | .cell a t => (shapeT P t).map fun n => ⟨a, some n⟩

/-- All slots that the code names are below 'n'. -/
def compFn (P : Program) (H : List RH) (fn : Func) : Option IFn :=
  match fn.body with
  | none => none
  | some c => match comp P fn.ntmps H c, optAll (compRes P) fn.results.toList with
    | some b, some rs => if fn.ntmps < fn.params.size + fn.nfree then none else some ⟨fn.params.size + fn.nfree, fn.ntmps, b, rs⟩
    | _, _ => none

end Go.Vi
