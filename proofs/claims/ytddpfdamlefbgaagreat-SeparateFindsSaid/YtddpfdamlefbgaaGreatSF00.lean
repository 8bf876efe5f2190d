/-
  The abstract interpreter: its values, its small code, and its run. Plain definitions: no proof stands here.
  Conditions: none.
-/
import Derived.Orders
import Derived.RowKit3
set_option maxRecDepth 100000
set_option maxHeartbeats 4000000
set_option linter.all false
namespace Go.Vi
inductive AV where
 |ud
 |sc (v:Value)
 |agg (cs:List AV)
 |tup (cs:List AV)
 |sl (n:Nat) (cs:List AV)
 |ep (cs:List AV) (off:Nat)
 |ptr (id off tot:Nat)
 |os (id off len tot:Nat)
 |mp (id:Nat)
 |fn (f:Fn) (first captured:List AV)
 |ifc (t:TypeId) (cs:List AV)
 deriving Inhabited
inductive AObj where
 |dead
 |cells (cs:List AV) (e:TypeId) (sz:Nat) (pu:Bool)
 |map (es:List (Value×AV)) (kt:List Nat×Bool) (pu:Bool)
 deriving Inhabited
def nilSl:Value:=.slice none 0 0
def AV.qn:AV→AV
 | .sc (.slice none 0 0)=> .sl 0 []
 |v=>v
def qnL (pu:Bool) (cs:List AV):List AV:=if pu then cs.map .qn else cs
def AV.cellsOf:AV→List AV
 | .agg cs=>cs
 |v=>[v]
def AV.one:AV→Bool
 | .agg _| .tup _| .ud=>false
 | .sc v=>v.oneCell'
 |_=>true
mutual
def AV.pure:AV→Bool
 | .sc _=>true
 | .sl _ cs=>pureL cs
 |_=>false
def pureL:List AV→Bool
 |[]=>true
 |c::cs=>c.pure&&pureL cs
end
mutual
def AV.bel (k:Nat):AV→Bool
 | .ud=>true
 | .sc _=>true
 | .agg cs=>belL k cs
 | .tup cs=>belL k cs
 | .sl _ _=>true
 | .ep _ _=>true
 | .ptr id _ _=>decide (id<k)
 | .os id _ _ _=>decide (id<k)
 | .mp id=>decide (id<k)
 | .fn _ a b=>belL k a&&belL k b
 | .ifc _ _=>true
def belL (k:Nat):List AV→Bool
 |[]=>true
 |c::cs=>c.bel k&&belL k cs
end
def AObj.bel (k:Nat):AObj→Bool
 | .dead=>true
 | .cells cs _ _ pu=>pu||belL k cs
 | .map es _ pu=>pu||belL k (es.map (·.2))
abbrev Store:=List AObj
def AObj.isDead:AObj→Bool
 | .dead=>true
 |_=>false
def mkO (nid:Nat) (x:AObj) (o:Store):Option Store:=
 match o[nid]? with
 |some .dead=>some (o.set nid x)
 |_=>none
abbrev EnvA:=List (Nat×AV)
def getE:EnvA→Nat→AV
 |[],_=> .ud
 |p::r,s=>bif Nat.beq p.1 s then p.2 else getE r s
def putE (env:EnvA) (dst:Option Nat) (v:AV):EnvA:=
 match dst with
 |none=>env
 |some d=>(d,v)::env
def AV.ofVal:Value→AV
 | .agg cs=>if cs.toList.all (·.oneCell') then .agg (cs.toList.map .sc) else .ud
 | .tuple _=> .ud
 |v=> .sc v
def evA (env:EnvA):Operand→AV
 | .tmp t=>getE env t
 | .const v=> .ofVal v
 | .global _=> .ud
 | .func f=> .fn (.func f) [] []
inductive IOp where
 |mov (x:Operand)
 |pick (c a b:Operand)
 |alloc (z:List Value) (e:TypeId) (pu:Bool)
 |box (e:TypeId) (x:Operand)
 |build (z:List Value) (parts:List (Nat×Nat×Operand))
 |mkrow (z:List Value) (len:Nat) (parts:List (Nat×Operand)) (e:TypeId) (sz:Nat)
 |mkimm (z:List Value) (len:Nat) (parts:List (Nat×Operand)) (e:TypeId) (sz:Nat)
 |load (n:Option Nat) (a:Operand)
 |store (n:Nat) (a x:Operand)
 |nilc (x:Operand)
 |bin (op:BinOp) (x y:Operand)
 |beq (neg:Bool) (x y:Operand)
 |eqf (neg:Bool) (ks:List Nat) (x y:Operand)
 |pnil (neg:Bool) (x y:Operand)
 |un (op:UnOp) (x:Operand)
 |conv (k:IntKind) (x:Operand)
 |fieldA (off:Nat) (x:Operand)
 |field (off:Nat) (n:Option Nat) (x:Operand)
 |idxA (len sz:Nat) (x i:Operand)
 |idxS (sz:Nat) (x i:Operand)
 |idx (len sz:Nat) (n:Option Nat) (x i:Operand)
 |idxStr (x i:Operand)
 |mkslice (z:List Value) (e:TypeId) (sz bytes:Nat) (l c:Operand) (pu:Bool)
 |slice (sz:Nat) (x:Operand) (lo hi:Option Operand)
 |slice3 (sz:Nat) (x:Operand) (lo:Option Operand) (hi mx:Operand)
 |sliceStr (x:Operand) (lo hi:Option Operand)
 |append (e:TypeId) (sz bytes:Nat) (s x:Operand) (pu:Bool)
 |len (k:Nat) (x:Operand)
 |lenArr (n:Nat)
 |mm (mx:Bool) (x y:Operand)
 |call (f:FuncId) (args:List Operand) (own:Bool)
 |callv (f:Operand) (args:List Operand) (own:Bool)
 |extract (x:Operand) (i:Nat)
 |mkfn (f:Fn) (first captured:List Operand)
 |mkif (t:TypeId) (x:Operand)
 |callm (tab:List (TypeId×FuncId)) (x:Operand) (args:List Operand)
 |mkmap (kt:List Nat×Bool) (pu:Bool)
 |lookup (z:List Value) (agg:Bool) (ks:List Nat) (ka:Bool) (x k:Operand) (ok:Bool)
 |mapset (ks:List Nat) (ka:Bool) (x k v:Operand)
structure IOper where
 idx:Nat
 nid:Nat
 dst:Option Nat
 op:IOp
 guard:Option (Option Nat×Bool)
structure OwnH where
 own:Bool
 slot:Nat
 off:Option Nat
 e:TypeId
 sz:Nat
 pu:Bool
inductive IR where
 |skip
 |region (id:Nat) (draw:Bool) (k:Nat) (ops:List IOper) (chk:List (Nat×Nat)) (live:List Nat) (pre post:List OwnH)
 |seq (a b:IR)
 |cond (c:Operand) (a b:IR)
 |block (id:Nat) (c:IR)
 |loop (c:IR)
 |exit (id:Nat)
 |ret
 |goto (l:Nat)
 |turns (l:Option Nat) (b:IR)
 |condK (c:Operand) (a b:IR)
 |dfr (g:FuncId) (caps:List Operand) (d:Nat) (a b:IR)
structure St where
 env:EnvA
 o:Store
def behind (o:Store):AV→Option (List AV×Nat)
 | .ptr id off tot=>match o[id]? with
  |some (.cells cs _ _ _)=>if cs.length=tot then some (cs,off) else none
  |_=>none
 | .ep cs off=>some (cs,off)
 |_=>none
def partA (cs:List AV) (off:Nat):Option Nat→Option AV
 |none=>cs[off]?
 |some n=>if off+n≤cs.length then some (.agg ((cs.drop off).take n)) else none
def writeL (cs:List AV) (off:Nat):List AV→List AV
 |[]=>cs
 |v::vs=>writeL (cs.set off v) (off+1) vs
def oneL (l:List AV):Bool:=l.all (·.one)
def wrapI (k:IntKind) (n:Int):Int:=
 match k with
 | .i64=>if decide (-9223372036854775808≤n)&&decide (n≤9223372036854775807) then n else IntKind.wrap .i64 n
 | .u32=>if decide (0≤n)&&decide (n≤4294967295) then n else IntKind.wrap .u32 n
 | .u64=>if decide (0≤n)&&decide (n≤18446744073709551615) then n else IntKind.wrap .u64 n
 |k=>k.wrap n
def powI (n:Nat):Int:=Int.ofNat (Nat.pow 2 n)
def intBin (op:BinOp) (k:IntKind) (a b:Int):Option Value:=
 match op with
 | .add=>some (.int k (wrapI k (a+b)))
 | .sub=>some (.int k (wrapI k (a - b)))
 | .mul=>some (.int k (wrapI k (a*b)))
 | .quo=>if b=0 then none else some (.int k (wrapI k (a.tdiv b)))
 | .rem=>if b=0 then none else some (.int k (a.tmod b))
 | .and=>some (.int k (wrapI k (BitVec.ofInt k.bits a &&&BitVec.ofInt k.bits b).toNat))
 | .or=>some (.int k (wrapI k (BitVec.ofInt k.bits a |||BitVec.ofInt k.bits b).toNat))
 | .xor=>some (.int k (wrapI k (BitVec.ofInt k.bits a ^^^BitVec.ofInt k.bits b).toNat))
 | .andNot=>some (.int k (wrapI k (BitVec.ofInt k.bits a &&&~~~(BitVec.ofInt k.bits b)).toNat))
 | .eql=>some (.bool (a==b))
 | .neq=>some (.bool (a !=b))
 | .lss=>some (.bool (decide (a<b)))
 | .leq=>some (.bool (decide (a≤b)))
 | .gtr=>some (.bool (decide (b<a)))
 | .geq=>some (.bool (decide (b≤a)))
 |_=>none
def scBin (op:BinOp):Value→Value→Option Value
 | .int k a,.int k' b=>
  match op with
  | .shl=>if b<0 then none else some (.int k (wrapI k (a*powI (min b.toNat k.bits))))
  | .shr=>if b<0 then none else some (.int k (a.fdiv (powI (min b.toNat k.bits))))
  |_=>if k=k' then intBin op k a b else none
 | .string a,.string b=>match op with
  | .eql=>some (.bool (a.toList==b.toList))
  | .neq=>some (.bool (!(a.toList==b.toList)))
  | .add=>if a.size+b.size≤1000000000 then some (.string (a++b)) else none
  |_=>none
 |_,_=>none
def seq1:Value→Value→Option Bool
 | .int k a,.int k' b=>if k=k' then some (a==b) else none
 | .bool a,.bool b=>some (a==b)
 | .string a,.string b=>some (a.toList==b.toList)
 |_,_=>none
def seqL:List Value→List Value→Option Bool
 |[],[]=>some true
 |x::xs,y::ys=>match seq1 x y,seqL xs ys with
  |some a,some b=>some (a&&b)
  |_,_=>none
 |_,_=>none
def kOk:List Nat→List Value→Bool
 |[],[]=>true
 |0::ks,.int _ _::vs=>kOk ks vs
 |1::ks,.bool _::vs=>kOk ks vs
 |2::ks,.string _::vs=>kOk ks vs
 |_,_=>false
def scs:List AV→Option (List Value)
 |[]=>some []
 | .sc v::r=>(scs r).map (v::·)
 |_=>none
def feq (ks:List Nat) (a b:List AV):Option Bool:=
 match scs a,scs b with
 |some x,some y=>if kOk ks x&&kOk ks y then seqL x y else none
 |_,_=>none
def unA (op:UnOp):AV→Option AV
 | .sc (.bool b)=>match op with| .not=>some (.sc (.bool !b))|_=>none
 | .sc (.int k n)=>match op with| .neg=>some (.sc (.int k (wrapI k (0 - n))))|_=>none
 |_=>none
def intA:AV→Option Int
 | .sc (.int _ n)=>some n
 |_=>none
def addA (d:Nat):AV→Option AV
 | .ptr id off tot=>some (.ptr id (off+d) tot)
 | .ep cs off=>some (.ep cs (off+d))
 |_=>none
def elemsA (o:Store) (sz:Nat):AV→Option (Nat×List AV)
 | .sl n cs=>if cs.length=n*sz then some (n,cs) else none
 | .os id off len tot=>match o[id]? with
  |some (.cells cs _ sz' _)=>if cs.length=tot∧sz'=sz∧off+len*sz≤tot then some (len,(cs.drop off).take (len*sz)) else none
  |_=>none
 | .sc (.slice none 0 0)=>some (0,[])
 |_=>none
def offR (off tot sz:Nat):Nat:=if Nat.ble off tot then off else off - tot - sz
def idxSA (o:Store) (sz:Nat) (x:AV) (i:Int):Option AV:=
 match x with
 | .sl n cs=>if 0≤i∧i<n∧cs.length=n*sz then some (.ep cs (i.toNat*sz)) else none
 | .os id off len tot=>match o[id]? with
  |some (.cells cs _ sz' _)=>if cs.length=tot∧sz'=sz∧0≤i∧i<len∧offR off tot sz+len*sz≤tot then some (.ptr id (offR off tot sz+i.toNat*sz) tot) else none
  |_=>none
 |_=>none
def lenA (o:Store):Nat→AV→Option Nat
 |0,.sl n _=>some n
 |0,.os _ _ len _=>some len
 |0,.sc (.slice _ n _)=>some n
 |1,.sc (.string s)=>some s.size
 |2,.mp id=>match o[id]? with
  |some (.map es _ _)=>some es.length
  |_=>none
 |_,_=>none
def appendA (e:TypeId) (sz a:Nat) (pu:Bool) (s x:AV) (o:Store) (nid:Nat):Option (AV×Store):=
 match elemsA o sz x with
 |none=>none
 |some (m,b)=>
  if oneL b=false then none else
  match s with
  | .sc (.slice none 0 0)=>
   if m=0 then some (.sc nilSl,o)
   else if m*a≤140737488355328∧m≤1000000000000∧(pu=false∨pureL b=true) then(mkO nid (.cells b e sz pu) o).map fun k=>(.os nid 0 m (m*sz),k) else none
  | .os h 0 c d=>match o[h]? with
   |some (.cells g j i f)=>
    if g.length=d∧j=e∧i=sz∧c*sz=d∧(c+m)*a≤140737488355328∧c+m≤1000000000000∧(f=false∨pureL b=true)
    then some (.os h 0 (c+m) (d+m*sz),o.set h (.cells (g++b) e sz f)) else none
   |_=>none
  | .sl n g=>if m=0 then some (.sl n g,o) else none
  |_=>none
def boundA (d:Nat):Option AV→Option Nat
 |none=>some d
 |some (.sc (.int _ n))=>if 0≤n then some n.toNat else none
 |_=>none
def sliceA (o:Store) (sz:Nat) (x:AV) (lo hi:Option AV):Option AV:=
 match x with
 | .sl n cs=>match boundA 0 lo,boundA n hi with
  |some l,some h=>if l≤h∧h≤n∧cs.length=n*sz then some (.sl (h - l) ((cs.drop (l*sz)).take ((h - l)*sz))) else none
  |_,_=>none
 | .os id off len tot=>match boundA 0 lo,boundA len hi with
  |some l,some h=>match o[id]? with
   |some (.cells cs _ sz' _)=>if l≤h∧h≤len∧cs.length=tot∧sz'=sz then some (.os id (off+l*sz) (h - l) tot) else none
   |_=>none
  |_,_=>none
 | .sc (.slice none 0 0)=>match boundA 0 lo,boundA 0 hi with
  |some 0,some 0=>some (.sc nilSl)
  |_,_=>none
 |_=>none
def sliceA3 (o:Store) (sz:Nat) (x:AV) (lo:Option AV) (hi mx:AV):Option AV:=
 match x with
 | .sl n cs=>match boundA 0 lo,boundA n (some hi),boundA n (some mx) with
  |some l,some h,some m=>if l≤h∧h≤m∧m≤n∧cs.length=n*sz then some (.sl (h - l) ((cs.drop (l*sz)).take ((h - l)*sz))) else none
  |_,_,_=>none
 | .os id off len tot=>match boundA 0 lo,boundA len (some hi),boundA len (some mx) with
  |some l,some h,some m=>match o[id]? with
   |some (.cells cs _ sz' _)=>if l≤h∧h≤m∧m≤len∧cs.length=tot∧sz'=sz∧off+len*sz≤tot∧0<sz then some (.os id (off+l*sz+(tot+sz)) (h - l) tot) else none
   |_=>none
  |_,_,_=>none
 |_=>none
def keyA (ks:List Nat) (ka:Bool):AV→Option Value
 | .sc v=>if !ka&&kOk ks [v] then some v else none
 | .agg cs=>match scs cs with
  |some vs=>if ka&&kOk ks vs then some (.agg vs.toArray) else none
  |none=>none
 |_=>none
def keq:Value→Value→Option Bool
 | .agg a,.agg b=>seqL a.toList b.toList
 | .agg _,_=>none
 |_,.agg _=>none
 |a,b=>seq1 a b
def findM (k:Value):List (Value×AV)→Nat→Option (Option (Nat×AV))
 |[],_=>some none
 |e::es,i=>match keq k e.1 with
  |some true=>some (some (i,e.2))
  |some false=>findM k es (i+1)
  |none=>none
def zeroA (z:List Value) (agg:Bool):Option AV:=
 if agg then some (.agg (z.map .sc)) else match z with
  |[v]=>some (.sc v)
  |_=>none
def freeze (o:Store):Nat→AV→Option AV
 |_,.ud=>some .ud
 |_,.sc v=>match v with
  | .slice none 0 0=>some (.sl 0 [])
  |v=>some (.sc v)
 |_,.sl n cs=>some (.sl n cs)
 |_,.ifc t cs=>some (.ifc t cs)
 |d+1,.agg cs=>(cs.mapM (freeze o d)).map .agg
 |d+1,.tup cs=>(cs.mapM (freeze o d)).map .tup
 |d+1,.fn f a b=>match a.mapM (freeze o d),b.mapM (freeze o d) with
  |some a',some b'=>some (.fn f a' b')
  |_,_=>none
 |d+1,.os id off len tot=>match o[id]? with
  |some (.cells cs _ sz pu)=>
   if cs.length=tot∧off+len*sz≤tot then
    if pu then some (.sl len ((cs.drop off).take (len*sz)))
    else match((cs.drop off).take (len*sz)).mapM (freeze o d) with
     |some cs'=>if pureL cs' then some (.sl len cs') else none
     |none=>none
   else none
  |_=>none
 |_,_=>none
mutual
def AV.ren (m:Nat→Option Nat):AV→Option AV
 | .ud=>some .ud
 | .sc v=>some (.sc v)
 | .sl n cs=>some (.sl n cs)
 | .ifc t cs=>some (.ifc t cs)
 | .ep cs off=>some (.ep cs off)
 | .agg cs=>(renL m cs).map .agg
 | .tup cs=>(renL m cs).map .tup
 | .ptr id off tot=>(m id).map fun i=> .ptr i off tot
 | .os id off len tot=>(m id).map fun i=> .os i off len tot
 | .mp id=>(m id).map .mp
 | .fn f a b=>match renL m a,renL m b with
  |some a',some b'=>some (.fn f a' b')
  |_,_=>none
def renL (m:Nat→Option Nat):List AV→Option (List AV)
 |[]=>some []
 |c::cs=>match c.ren m,renL m cs with
  |some c',some cs'=>some (c'::cs')
  |_,_=>none
end
def renM (m:Nat→Option Nat):List (Value×AV)→Option (List (Value×AV))
 |[]=>some []
 |e::es=>match e.2.ren m,renM m es with
  |some v,some es'=>some ((e.1,v)::es')
  |_,_=>none
def AObj.ren (m:Nat→Option Nat):AObj→Option AObj
 | .dead=>some .dead
 | .cells cs e sz pu=>if pu then some (.cells cs e sz pu) else(renL m cs).map fun cs'=> .cells cs' e sz pu
 | .map es kt pu=>if pu then some (.map es kt pu) else(renM m es).map fun es'=> .map es' kt pu
def idxOf (ids:List Nat) (i:Nat) (k:Nat:=0):Option Nat:=
 match ids with
 |[]=>none
 |j::r=>if j==i then some k else idxOf r i (k+1)
def reachF (o:Store):Nat→List AV→List Nat→List Nat
 |0,_,acc=>acc
 |_,[],acc=>acc
 |d+1,v::vs,acc=>
  let visit (id:Nat) (acc:List Nat):List Nat:=
   if acc.contains id then acc else
   match o[id]? with
   |some (.cells cs _ _ pu)=>if pu then acc++[id] else reachF o d cs (acc++[id])
   |some (.map es _ pu)=>if pu then acc++[id] else reachF o d (es.map (·.2)) (acc++[id])
   |_=>acc++[id]
  let acc':=match v with
   | .agg cs| .tup cs=>reachF o d cs acc
   | .ptr id _ _| .os id _ _ _| .mp id=>visit id acc
   | .fn _ a b=>reachF o d b (reachF o d a acc)
   |_=>acc
  reachF o d vs acc'
def reachD:Nat:=400
def subStore (o:Store) (ids:List Nat):List Nat→Option Store
 |[]=>some []
 |i::r=>match o[i]?,subStore o ids r with
  |some x,some l=>(x.ren (fun j=>idxOf ids j)).map (·::l)
  |_,_=>none
def backN (ids:List Nat) (n i:Nat):Option Nat:=
 match ids[i]? with
 |some j=>some j
 |none=>some (n+(i - ids.length))
def renS (m:Nat→Option Nat):Store→Option Store
 |[]=>some []
 |x::r=>match x.ren m,renS m r with
  |some y,some l=>some (y::l)
  |_,_=>none
def putBack (o:Store):List Nat→Store→Store
 |[],_=>o
 |_,[]=>o
 |i::r,x::l=>putBack (o.set i x) r l
abbrev Oracle:=FuncId→List AV→Store→Bool→Option (AV×Store)
def callOwn (call:Oracle) (f:FuncId) (args:List AV) (o:Store):Option (AV×Store):=
 let ids:=reachF o reachD args []
 match renL (fun j=>idxOf ids j) args,subStore o ids ids with
 |some args',some small=>match call f args' small true with
  |some (r,small')=>
   if small'.length<ids.length∨nodupN ids=false then none else
   match r.ren (backN ids o.length),renS (backN ids o.length) small' with
   |some r',some big=>some (r',putBack o ids (big.take ids.length)++big.drop ids.length)
   |_,_=>none
  |none=>none
 |_,_=>none
where nodupN:List Nat→Bool
 |[]=>true
 |a::r=>!r.contains a&&nodupN r
mutual
def AV.noSl:AV→Bool
 | .ud| .sc _=>true
 | .agg cs| .tup cs=>noSlL cs
 | .sl _ cs=>cs.isEmpty
 |_=>false
def noSlL:List AV→Bool
 |[]=>true
 |c::cs=>c.noSl&&noSlL cs
end
def tchF (o:Store):Nat→AV→List Nat
 |d+1,.agg cs=>cs.flatMap (tchF o d)
 |d+1,.tup cs=>cs.flatMap (tchF o d)
 |d+1,.fn _ a b=>a.flatMap (tchF o d)++b.flatMap (tchF o d)
 |d+1,.os id off len _=>id::(match o[id]? with
  |some (.cells cs _ sz pu)=>if pu then[] else((cs.drop off).take (len*sz)).flatMap (tchF o d)
  |_=>[])
 |_,_=>[]
def lookM:List (TypeId×FuncId)→TypeId→Option FuncId
 |[],_=>none
 |p::r,t=>bif Nat.beq p.1 t then some p.2 else lookM r t
def callA (call:Oracle) (f:FuncId) (args:List AV) (o:Store) (own:Bool):Option (AV×Store):=
 if own then callOwn call f args o
 else match args.mapM (freeze o 6) with
  |none=>none
  |some args'=>match call f args' [] false with
   |some (r,[])=>if(args.flatMap (tchF o 6)).isEmpty||r.noSl then some (r,o) else none
   |_=>none
def fillA (parts:List (Nat×Nat×AV)) (cs:List AV):Option (List AV):=
 match parts with
 |[]=>some cs
 |(off,n,v)::rest=>
  if v.cellsOf.length=n∧oneL v.cellsOf=true∧off+n≤cs.length then fillA rest (writeL cs off v.cellsOf) else none
def effS (call:Oracle) (op:IOp) (ρ:Operand→AV) (o:Store) (nid:Nat):Option (AV×Store):=
 match op with
 | .mov x=>some (ρ x,o)
 | .pick c a b=>match ρ c with
  | .sc (.bool true)=>some (ρ a,o)
  | .sc (.bool false)=>some (ρ b,o)
  |_=>none
 | .alloc z e pu=>(mkO nid (.cells (z.map .sc) e z.length pu) o).map fun o'=>(.ptr nid 0 z.length,o')
 | .box e x=>if oneL (ρ x).cellsOf then(mkO nid (.cells (ρ x).cellsOf e (ρ x).cellsOf.length false) o).map fun o'=>(.ptr nid 0 (ρ x).cellsOf.length,o') else none
 | .build z parts=>(fillA (parts.map fun p=>(p.1,p.2.1,ρ p.2.2)) (z.map .sc)).map fun cs=>(.agg cs,o)
 | .mkrow z len parts e sz=>
  match fillA (parts.map fun p=>(p.1,sz,ρ p.2)) ((List.replicate len (z.map AV.sc)).flatten) with
  |some cs=>(mkO nid (.cells (qnL (pureL cs) cs) e sz (pureL cs)) o).map fun o'=>(.os nid 0 len (len*sz),o')
  |none=>none
 | .mkimm z len parts _ sz=>
  match fillA (parts.map fun p=>(p.1,sz,ρ p.2)) ((List.replicate len (z.map AV.sc)).flatten) with
  |some cs=>if pureL cs=true then some (.sl len (qnL true cs),o) else none
  |none=>none
 | .load n a=>match behind o (ρ a) with
  |some (cs,off)=>(partA cs off n).map (·,o)
  |none=>none
 | .store n a x=>match ρ a with
  | .ptr id off tot=>match o[id]? with
   |some (.cells cs e sz pu)=>
    let v:=(ρ x).cellsOf
    if cs.length=tot∧v.length=n∧oneL v=true∧off+n≤cs.length∧(pu=false∨pureL v=true) then some (.ud,o.set id (.cells (writeL cs off (qnL pu v)) e sz pu)) else none
   |_=>none
  |_=>none
 | .nilc x=>match ρ x with
  | .ptr a b c=>some (.ptr a b c,o)
  | .ep a b=>some (.ep a b,o)
  |_=>none
 | .bin op x y=>match ρ x,ρ y with
  | .sc a,.sc b=>(scBin op a b).map fun v=>(.sc v,o)
  |_,_=>none
 | .beq neg x y=>match ρ x,ρ y with
  | .sc (.bool a),.sc (.bool b)=>some (.sc (.bool (if neg then !(a==b) else a==b)),o)
  |_,_=>none
 | .eqf neg ks x y=>match ρ x,ρ y with
  | .agg a,.agg b=>(feq ks a b).map fun r=>(.sc (.bool (if neg then !r else r)),o)
  |_,_=>none
 | .pnil neg x y=>match ρ x,ρ y with
  | .ptr _ _ _,.sc (.pointer none)=>some (.sc (.bool neg),o)
  | .sc (.pointer none),.sc (.pointer none)=>some (.sc (.bool !neg),o)
  |_,_=>none
 | .un op x=>(unA op (ρ x)).map (·,o)
 | .conv k x=>match ρ x with
  | .sc (.int _ n)=>some (.sc (.int k (wrapI k n)),o)
  |_=>none
 | .fieldA off x=>(addA off (ρ x)).map (·,o)
 | .field off n x=>match ρ x with
  | .agg cs=>(partA cs off n).map (·,o)
  |_=>none
 | .idxA len sz x i=>match intA (ρ i) with
  |some n=>if 0≤n∧n<len then(addA (n.toNat*sz) (ρ x)).map (·,o) else none
  |none=>none
 | .idxS sz x i=>match intA (ρ i) with
  |some n=>(idxSA o sz (ρ x) n).map (·,o)
  |none=>none
 | .idx len sz n x i=>match intA (ρ i),ρ x with
  |some k,.agg cs=>if 0≤k∧k<len then(partA cs (k.toNat*sz) n).map (·,o) else none
  |_,_=>none
 | .idxStr x i=>match intA (ρ i),ρ x with
  |some k,.sc (.string s)=>if 0≤k then(s[k.toNat]?).map fun b=>(.sc (.int .u8 b.toNat),o) else none
  |_,_=>none
 | .mkslice z e sz bytes l c pu=>match intA (ρ l),intA (ρ c) with
  |some n,some m=>if 0≤n∧n≤m∧m*bytes≤140737488355328∧m≤1000000000000 then
    (mkO nid (.cells ((List.replicate n.toNat (qnL pu (z.map AV.sc))).flatten) e sz pu) o).map fun o'=>(.os nid 0 n.toNat (n.toNat*sz),o') else none
  |_,_=>none
 | .slice sz x lo hi=>(sliceA o sz (ρ x) (lo.map ρ) (hi.map ρ)).map (·,o)
 | .slice3 sz x lo hi mx=>(sliceA3 o sz (ρ x) (lo.map ρ) (ρ hi) (ρ mx)).map (·,o)
 | .sliceStr x lo hi=>match ρ x with
  | .sc (.string s)=>match boundA 0 (lo.map ρ),boundA s.size (hi.map ρ) with
   |some l,some h=>if l≤h∧h≤s.size then some (.sc (.string (s.extract l h)),o) else none
   |_,_=>none
  |_=>none
 | .append e sz bytes s x pu=>appendA e sz bytes pu (ρ s) (ρ x) o nid
 | .len k x=>(lenA o k (ρ x)).map fun(n:Nat)=>(.sc (.int .i64 n),o)
 | .lenArr n=>some (.sc (.int .i64 n),o)
 | .mm mx x y=>match ρ x,ρ y with
  | .sc (.int k a),.sc (.int k' b)=>if k=k' then some (.sc (.int k (if mx then(if b>a then b else a) else(if b<a then b else a))),o) else none
  |_,_=>none
 | .call f args own=>callA call f (args.map ρ) o own
 | .callv f args own=>match ρ f with
  | .fn (.func g) first captured=>callA call g (first++args.map ρ++captured) o own
  |_=>none
 | .extract x i=>match ρ x with
  | .tup vs=>(vs[i]?).map (·,o)
  |_=>none
 | .mkfn f first captured=>some (.fn f (first.map ρ) (captured.map ρ),o)
 | .mkif t x=>match ρ x with
  | .agg cs=>if pureL cs=true then some (.ifc t cs,o) else none
  |_=>none
 | .callm tab x args=>match ρ x with
  | .ifc t cs=>match lookM tab t with
   |some f=>callA call f (.agg cs::args.map ρ) o false
   |none=>none
  |_=>none
 | .mkmap kt pu=>(mkO nid (.map [] kt pu) o).map fun o'=>(.mp nid,o')
 | .lookup z agg ks ka x k ok=>match ρ x,keyA ks ka (ρ k) with
  | .mp id,some kv=>match o[id]? with
   |some (.map es kt _)=>if kt=(ks,ka) then match findM kv es 0,zeroA z agg with
    |some (some (_,v)),_=>some (if ok then .tup [v,.sc (.bool true)] else v,o)
    |some none,some v=>some (if ok then .tup [v,.sc (.bool false)] else v,o)
    |_,_=>none
    else none
   |_=>none
  |_,_=>none
 | .mapset ks ka x k v=>match ρ x,keyA ks ka (ρ k) with
  | .mp id,some kv=>match o[id]? with
   |some (.map es kt pu)=>
    if(pu=true∧(ρ v).pure=false)∨kt≠(ks,ka) then none else
    match findM kv es 0 with
    |some (some (i,_))=>some (.ud,o.set id (.map (es.modify i fun _=>(kv,ρ v)) kt pu))
    |some none=>some (.ud,o.set id (.map (es++[(kv,ρ v)]) kt pu))
    |none=>none
   |_=>none
  |_,_=>none
def e_mov (x:Operand) (_call:Oracle) (ρ:Operand→AV) (o:Store) (_nid:Nat):Option (AV×Store):=some (ρ x,o)
def e_pick (c:Operand) (a:Operand) (b:Operand) (_call:Oracle) (ρ:Operand→AV) (o:Store) (_nid:Nat):Option (AV×Store):=match ρ c with
  | .sc (.bool true)=>some (ρ a,o)
  | .sc (.bool false)=>some (ρ b,o)
  |_=>none
def e_alloc (z:List Value) (e:TypeId) (pu:Bool) (_call:Oracle) (_ρ:Operand→AV) (o:Store) (nid:Nat):Option (AV×Store):=(mkO nid (.cells (z.map .sc) e z.length pu) o).map fun o'=>(.ptr nid 0 z.length,o')
def e_box (e:TypeId) (x:Operand) (_call:Oracle) (ρ:Operand→AV) (o:Store) (nid:Nat):Option (AV×Store):=if oneL (ρ x).cellsOf then(mkO nid (.cells (ρ x).cellsOf e (ρ x).cellsOf.length false) o).map fun o'=>(.ptr nid 0 (ρ x).cellsOf.length,o') else none
def e_build (z:List Value) (parts:List (Nat×Nat×Operand)) (_call:Oracle) (ρ:Operand→AV) (o:Store) (_nid:Nat):Option (AV×Store):=(fillA (parts.map fun p=>(p.1,p.2.1,ρ p.2.2)) (z.map .sc)).map fun cs=>(.agg cs,o)
def e_mkrow (z:List Value) (len:Nat) (parts:List (Nat×Operand)) (e:TypeId) (sz:Nat) (_call:Oracle) (ρ:Operand→AV) (o:Store) (nid:Nat):Option (AV×Store):=
  match fillA (parts.map fun p=>(p.1,sz,ρ p.2)) ((List.replicate len (z.map AV.sc)).flatten) with
  |some cs=>(mkO nid (.cells (qnL (pureL cs) cs) e sz (pureL cs)) o).map fun o'=>(.os nid 0 len (len*sz),o')
  |none=>none
def e_mkimm (z:List Value) (len:Nat) (parts:List (Nat×Operand)) (_a3:TypeId) (sz:Nat) (_call:Oracle) (ρ:Operand→AV) (o:Store) (_nid:Nat):Option (AV×Store):=
  match fillA (parts.map fun p=>(p.1,sz,ρ p.2)) ((List.replicate len (z.map AV.sc)).flatten) with
  |some cs=>if pureL cs=true then some (.sl len (qnL true cs),o) else none
  |none=>none
def e_load (n:Option Nat) (a:Operand) (_call:Oracle) (ρ:Operand→AV) (o:Store) (_nid:Nat):Option (AV×Store):=match behind o (ρ a) with
  |some (cs,off)=>(partA cs off n).map (·,o)
  |none=>none
def e_store (n:Nat) (a:Operand) (x:Operand) (_call:Oracle) (ρ:Operand→AV) (o:Store) (_nid:Nat):Option (AV×Store):=match ρ a with
  | .ptr id off tot=>match o[id]? with
   |some (.cells cs e sz pu)=>
    let v:=(ρ x).cellsOf
    if cs.length=tot∧v.length=n∧oneL v=true∧off+n≤cs.length∧(pu=false∨pureL v=true) then some (.ud,o.set id (.cells (writeL cs off (qnL pu v)) e sz pu)) else none
   |_=>none
  |_=>none
def e_nilc (x:Operand) (_call:Oracle) (ρ:Operand→AV) (o:Store) (_nid:Nat):Option (AV×Store):=match ρ x with
  | .ptr a b c=>some (.ptr a b c,o)
  | .ep a b=>some (.ep a b,o)
  |_=>none
def e_bin (op:BinOp) (x:Operand) (y:Operand) (_call:Oracle) (ρ:Operand→AV) (o:Store) (_nid:Nat):Option (AV×Store):=match ρ x,ρ y with
  | .sc a,.sc b=>(scBin op a b).map fun v=>(.sc v,o)
  |_,_=>none
def e_beq (neg:Bool) (x:Operand) (y:Operand) (_call:Oracle) (ρ:Operand→AV) (o:Store) (_nid:Nat):Option (AV×Store):=match ρ x,ρ y with
  | .sc (.bool a),.sc (.bool b)=>some (.sc (.bool (if neg then !(a==b) else a==b)),o)
  |_,_=>none
def e_eqf (neg:Bool) (ks:List Nat) (x:Operand) (y:Operand) (_call:Oracle) (ρ:Operand→AV) (o:Store) (_nid:Nat):Option (AV×Store):=match ρ x,ρ y with
  | .agg a,.agg b=>(feq ks a b).map fun r=>(.sc (.bool (if neg then !r else r)),o)
  |_,_=>none
def e_pnil (neg:Bool) (x:Operand) (y:Operand) (_call:Oracle) (ρ:Operand→AV) (o:Store) (_nid:Nat):Option (AV×Store):=match ρ x,ρ y with
  | .ptr _ _ _,.sc (.pointer none)=>some (.sc (.bool neg),o)
  | .sc (.pointer none),.sc (.pointer none)=>some (.sc (.bool !neg),o)
  |_,_=>none
def e_un (op:UnOp) (x:Operand) (_call:Oracle) (ρ:Operand→AV) (o:Store) (_nid:Nat):Option (AV×Store):=(unA op (ρ x)).map (·,o)
def e_conv (k:IntKind) (x:Operand) (_call:Oracle) (ρ:Operand→AV) (o:Store) (_nid:Nat):Option (AV×Store):=match ρ x with
  | .sc (.int _ n)=>some (.sc (.int k (wrapI k n)),o)
  |_=>none
def e_fieldA (off:Nat) (x:Operand) (_call:Oracle) (ρ:Operand→AV) (o:Store) (_nid:Nat):Option (AV×Store):=(addA off (ρ x)).map (·,o)
def e_field (off:Nat) (n:Option Nat) (x:Operand) (_call:Oracle) (ρ:Operand→AV) (o:Store) (_nid:Nat):Option (AV×Store):=match ρ x with
  | .agg cs=>(partA cs off n).map (·,o)
  |_=>none
def e_idxA (len:Nat) (sz:Nat) (x:Operand) (i:Operand) (_call:Oracle) (ρ:Operand→AV) (o:Store) (_nid:Nat):Option (AV×Store):=match intA (ρ i) with
  |some n=>if 0≤n∧n<len then(addA (n.toNat*sz) (ρ x)).map (·,o) else none
  |none=>none
def e_idxS (sz:Nat) (x:Operand) (i:Operand) (_call:Oracle) (ρ:Operand→AV) (o:Store) (_nid:Nat):Option (AV×Store):=match intA (ρ i) with
  |some n=>(idxSA o sz (ρ x) n).map (·,o)
  |none=>none
def e_idx (len:Nat) (sz:Nat) (n:Option Nat) (x:Operand) (i:Operand) (_call:Oracle) (ρ:Operand→AV) (o:Store) (_nid:Nat):Option (AV×Store):=match intA (ρ i),ρ x with
  |some k,.agg cs=>if 0≤k∧k<len then(partA cs (k.toNat*sz) n).map (·,o) else none
  |_,_=>none
def e_idxStr (x:Operand) (i:Operand) (_call:Oracle) (ρ:Operand→AV) (o:Store) (_nid:Nat):Option (AV×Store):=match intA (ρ i),ρ x with
  |some k,.sc (.string s)=>if 0≤k then(s[k.toNat]?).map fun b=>(.sc (.int .u8 b.toNat),o) else none
  |_,_=>none
def e_mkslice (z:List Value) (e:TypeId) (sz:Nat) (a:Nat) (l:Operand) (c:Operand) (pu:Bool) (b:Oracle) (ρ:Operand→AV) (o:Store) (nid:Nat):Option (AV×Store):=match intA (ρ l),intA (ρ c) with
  |some n,some m=>if 0≤n∧n≤m∧m*a≤140737488355328∧m≤1000000000000 then
    (mkO nid (.cells ((List.replicate n.toNat (qnL pu (z.map AV.sc))).flatten) e sz pu) o).map fun d=>(.os nid 0 n.toNat (n.toNat*sz),d) else none
  |_,_=>none
def e_slice (sz:Nat) (x:Operand) (lo:Option Operand) (hi:Option Operand) (_call:Oracle) (ρ:Operand→AV) (o:Store) (_nid:Nat):Option (AV×Store):=(sliceA o sz (ρ x) (lo.map ρ) (hi.map ρ)).map (·,o)
def e_slice3 (sz:Nat) (x:Operand) (lo:Option Operand) (hi:Operand) (mx:Operand) (_call:Oracle) (ρ:Operand→AV) (o:Store) (_nid:Nat):Option (AV×Store):=(sliceA3 o sz (ρ x) (lo.map ρ) (ρ hi) (ρ mx)).map (·,o)
def e_sliceStr (x:Operand) (lo:Option Operand) (hi:Option Operand) (_call:Oracle) (ρ:Operand→AV) (o:Store) (_nid:Nat):Option (AV×Store):=match ρ x with
  | .sc (.string s)=>match boundA 0 (lo.map ρ),boundA s.size (hi.map ρ) with
   |some l,some h=>if l≤h∧h≤s.size then some (.sc (.string (s.extract l h)),o) else none
   |_,_=>none
  |_=>none
def e_append (e:TypeId) (sz:Nat) (a:Nat) (s:Operand) (x:Operand) (pu:Bool) (b:Oracle) (ρ:Operand→AV) (o:Store) (nid:Nat):Option (AV×Store):=appendA e sz a pu (ρ s) (ρ x) o nid
def e_len (k:Nat) (x:Operand) (_call:Oracle) (ρ:Operand→AV) (o:Store) (_nid:Nat):Option (AV×Store):=(lenA o k (ρ x)).map fun(n:Nat)=>(.sc (.int .i64 n),o)
def e_lenArr (n:Nat) (_call:Oracle) (_ρ:Operand→AV) (o:Store) (_nid:Nat):Option (AV×Store):=some (.sc (.int .i64 n),o)
def e_mm (mx:Bool) (x:Operand) (y:Operand) (_call:Oracle) (ρ:Operand→AV) (o:Store) (_nid:Nat):Option (AV×Store):=match ρ x,ρ y with
  | .sc (.int k a),.sc (.int k' b)=>if k=k' then some (.sc (.int k (if mx then(if b>a then b else a) else(if b<a then b else a))),o) else none
  |_,_=>none
def e_call (f:FuncId) (args:List Operand) (own:Bool) (call:Oracle) (ρ:Operand→AV) (o:Store) (_nid:Nat):Option (AV×Store):=callA call f (args.map ρ) o own
def e_callv (f:Operand) (args:List Operand) (own:Bool) (call:Oracle) (ρ:Operand→AV) (o:Store) (_nid:Nat):Option (AV×Store):=match ρ f with
  | .fn (.func g) first captured=>callA call g (first++args.map ρ++captured) o own
  |_=>none
def e_extract (x:Operand) (i:Nat) (_call:Oracle) (ρ:Operand→AV) (o:Store) (_nid:Nat):Option (AV×Store):=match ρ x with
  | .tup vs=>(vs[i]?).map (·,o)
  |_=>none
def e_mkfn (f:Fn) (first:List Operand) (captured:List Operand) (_call:Oracle) (ρ:Operand→AV) (o:Store) (_nid:Nat):Option (AV×Store):=some (.fn f (first.map ρ) (captured.map ρ),o)
def e_mkif (t:TypeId) (x:Operand) (_call:Oracle) (ρ:Operand→AV) (o:Store) (_nid:Nat):Option (AV×Store):=match ρ x with
  | .agg cs=>if pureL cs=true then some (.ifc t cs,o) else none
  |_=>none
def e_callm (tab:List (TypeId×FuncId)) (x:Operand) (args:List Operand) (call:Oracle) (ρ:Operand→AV) (o:Store) (_nid:Nat):Option (AV×Store):=match ρ x with
  | .ifc t cs=>match lookM tab t with
   |some f=>callA call f (.agg cs::args.map ρ) o false
   |none=>none
  |_=>none
def e_mkmap (kt:List Nat×Bool) (pu:Bool) (_call:Oracle) (_ρ:Operand→AV) (o:Store) (nid:Nat):Option (AV×Store):=(mkO nid (.map [] kt pu) o).map fun o'=>(.mp nid,o')
def e_lookup (z:List Value) (agg:Bool) (ks:List Nat) (ka:Bool) (x:Operand) (k:Operand) (ok:Bool) (_call:Oracle) (ρ:Operand→AV) (o:Store) (_nid:Nat):Option (AV×Store):=match ρ x,keyA ks ka (ρ k) with
  | .mp id,some kv=>match o[id]? with
   |some (.map es kt _)=>if kt=(ks,ka) then match findM kv es 0,zeroA z agg with
    |some (some (_,v)),_=>some (if ok then .tup [v,.sc (.bool true)] else v,o)
    |some none,some v=>some (if ok then .tup [v,.sc (.bool false)] else v,o)
    |_,_=>none
    else none
   |_=>none
  |_,_=>none
def e_mapset (ks:List Nat) (ka:Bool) (x:Operand) (k:Operand) (v:Operand) (_call:Oracle) (ρ:Operand→AV) (o:Store) (_nid:Nat):Option (AV×Store):=match ρ x,keyA ks ka (ρ k) with
  | .mp id,some kv=>match o[id]? with
   |some (.map es kt pu)=>
    if(pu=true∧(ρ v).pure=false)∨kt≠(ks,ka) then none else
    match findM kv es 0 with
    |some (some (i,_))=>some (.ud,o.set id (.map (es.modify i fun _=>(kv,ρ v)) kt pu))
    |some none=>some (.ud,o.set id (.map (es++[(kv,ρ v)]) kt pu))
    |none=>none
   |_=>none
  |_,_=>none
def effD (op:IOp):Oracle→(Operand→AV)→Store→Nat→Option (AV×Store):=
 match op with
 | .mov x=>e_mov x
 | .pick c a b=>e_pick c a b
 | .alloc z e pu=>e_alloc z e pu
 | .box e x=>e_box e x
 | .build z parts=>e_build z parts
 | .mkrow z len parts e sz=>e_mkrow z len parts e sz
 | .mkimm z len parts a3 sz=>e_mkimm z len parts a3 sz
 | .load n a=>e_load n a
 | .store n a x=>e_store n a x
 | .nilc x=>e_nilc x
 | .bin op x y=>e_bin op x y
 | .beq neg x y=>e_beq neg x y
 | .eqf neg ks x y=>e_eqf neg ks x y
 | .pnil neg x y=>e_pnil neg x y
 | .un op x=>e_un op x
 | .conv k x=>e_conv k x
 | .fieldA off x=>e_fieldA off x
 | .field off n x=>e_field off n x
 | .idxA len sz x i=>e_idxA len sz x i
 | .idxS sz x i=>e_idxS sz x i
 | .idx len sz n x i=>e_idx len sz n x i
 | .idxStr x i=>e_idxStr x i
 | .mkslice z e sz bytes l c pu=>e_mkslice z e sz bytes l c pu
 | .slice sz x lo hi=>e_slice sz x lo hi
 | .slice3 sz x lo hi mx=>e_slice3 sz x lo hi mx
 | .sliceStr x lo hi=>e_sliceStr x lo hi
 | .append e sz bytes s x pu=>e_append e sz bytes s x pu
 | .len k x=>e_len k x
 | .lenArr n=>e_lenArr n
 | .mm mx x y=>e_mm mx x y
 | .call f args own=>e_call f args own
 | .callv f args own=>e_callv f args own
 | .extract x i=>e_extract x i
 | .mkfn f first captured=>e_mkfn f first captured
 | .mkif t x=>e_mkif t x
 | .callm tab x args=>e_callm tab x args
 | .mkmap kt pu=>e_mkmap kt pu
 | .lookup z agg ks ka x k ok=>e_lookup z agg ks ka x k ok
 | .mapset ks ka x k v=>e_mapset ks ka x k v
def eff (call:Oracle) (op:IOp) (ρ:Operand→AV) (o:Store) (nid:Nat):Option (AV×Store):=effD op call ρ o nid
theorem eff_eq (call:Oracle) (a:IOp) (ρ:Operand→AV) (o:Store) (nid:Nat):eff call a ρ o nid=effS call a ρ o nid:=by
 cases a<;>rfl
def wantA (env:EnvA) (g:Option (Option Nat×Bool)):Option Bool:=
 match g with
 |none=>some true
 |some (none,_)=>none
 |some (some s,b)=>match getE env s with
  | .sc (.bool c)=>some (c==b)
  | .tup []=>some false
  |_=>none
def runOp (call:Oracle) (base:Nat) (i:IOper) (st:St):Option St:=
 match wantA st.env i.guard with
 |none=>none
 |some false=>some ⟨putE st.env i.dst (.tup []),st.o⟩
 |some true=>match eff call i.op (evA st.env) st.o (base+i.nid) with
  |some (v,o')=>some ⟨putE st.env i.dst v,o'⟩
  |none=>none
def runOps (call:Oracle) (base:Nat):List IOper→St→Option St
 |[],st=>some st
 |i::r,st=>match runOp call base i st with
  |some st'=>runOps call base r st'
  |none=>none
def tchAV:AV→List Nat
 | .ptr id _ _=>[id]
 | .os id _ _ _=>[id]
 | .mp id=>[id]
 |_=>[]
def tch (op:IOp) (ρ:Operand→AV) (o:Store) (nid:Nat):List Nat:=
 match op with
 | .load _ a=>tchAV (ρ a)
 | .idxS _ x _=>tchAV (ρ x)
 | .slice _ x _ _=>tchAV (ρ x)
 | .slice3 _ x _ _ _=>tchAV (ρ x)
 | .len _ x=>tchAV (ρ x)
 | .lookup _ _ _ _ x _ _=>tchAV (ρ x)
 | .call _ args false=>(args.map ρ).flatMap (tchF o 6)
 | .callv f args false=>match ρ f with
  | .fn _ first captured=>(first++args.map ρ++captured).flatMap (tchF o 6)
  |_=>[]
 | .call _ args true=>reachF o reachD (args.map ρ) []
 | .callv f args true=>match ρ f with
  | .fn _ first captured=>reachF o reachD (first++args.map ρ++captured) []
  |_=>[]
 | .callm _ x args=>match ρ x with
  | .ifc _ cs=>(.agg cs::args.map ρ).flatMap (tchF o 6)
  |_=>[]
 | .alloc .. | .box .. | .mkrow .. | .mkslice .. | .mkmap .. =>[nid]
 | .store _ a _=>tchAV (ρ a)
 | .append _ _ _ s x _=>nid::(tchAV (ρ s)++tchAV (ρ x))
 | .mapset _ _ x _ _=>tchAV (ρ x)
 |_=>[]
def wrt (op:IOp) (ρ:Operand→AV) (o:Store) (nid:Nat):List Nat:=
 match op with
 | .alloc .. | .box .. | .mkrow .. | .mkslice .. | .mkmap .. =>[nid]
 | .store _ a _=>tchAV (ρ a)
 | .append _ _ _ s _ _=>nid::tchAV (ρ s)
 | .call _ args true=>reachF o reachD (args.map ρ) []
 | .callv f args true=>match ρ f with
  | .fn _ first captured=>reachF o reachD (first++args.map ρ++captured) []
  |_=>[]
 | .mapset _ _ x _ _=>tchAV (ρ x)
 |_=>[]
open Classical in
noncomputable def wrtC (call:Oracle) (op:IOp) (ρ:Operand→AV) (o:Store) (nid:Nat):List Nat:=
 match op with
 | .call f args true=>match callOwn call f (args.map ρ) o with
  |some (_,o')=>(reachF o reachD (args.map ρ) []).filter fun j=>decide (o'[j]?≠o[j]?)
  |none=>[]
 |op=>wrt op ρ o nid
abbrev Trace:=List (Nat×List Nat×List Nat)
noncomputable def traceOps (call:Oracle) (base:Nat):List IOper→St→Trace
 |[],_=>[]
 |i::r,st=>(match wantA st.env i.guard with
   |some true=>(i.idx,tch i.op (evA st.env) st.o (base+i.nid),wrtC call i.op (evA st.env) st.o (base+i.nid))
   |_=>(i.idx,[],[]))::match runOp call base i st with
  |some st'=>traceOps call base r st'
  |none=>[]
def apartL (a b:List Nat):Bool:=a.all fun x=>!b.contains x
def lookT (tr:Trace) (i:Nat):List Nat×List Nat:=
 match tr with
 |[]=>([],[])
 |(j,x)::r=>if j==i then x else lookT r i
def chkOk (n:Nat) (tr:Trace) (chk:List (Nat×Nat)):Bool:=
 chk.all fun p=>let a:=lookT tr p.1;let b:=lookT tr p.2;apartL a.2 b.1&&apartL b.2 a.1&&a.1.all (fun i=>decide (i<n))&&b.1.all (fun i=>decide (i<n))
def deads (k:Nat):Store:=List.replicate k .dead
def sweep (base:Nat) (o:Store):Store:=if(o.drop base).all (·.isDead) then o.take base else o
noncomputable def runReg (call:Oracle) (k:Nat) (ops:List IOper) (chk:List (Nat×Nat)) (st:St):Option St:=
 let st0:St:=⟨st.env,st.o++deads k⟩
 match runOps call st.o.length ops st0 with
 |some st'=>if chk.isEmpty||chkOk st0.o.length (traceOps call st.o.length ops st0) chk then some ⟨st'.env,if k=0 then st'.o else sweep st.o.length st'.o⟩ else none
 |none=>none
mutual
def AV.frz (o:Store) (p:Nat→Bool):AV→Option AV
 | .os id off len tot=>if p id then match o[id]? with
   |some (.cells cs _ sz pu)=>if pu then(if cs.length=tot∧off+len*sz≤tot then some (.sl len ((cs.drop off).take (len*sz))) else none) else some (.os id off len tot)
   |_=>some (.os id off len tot)
  else some (.os id off len tot)
 | .ptr id off tot=>if p id then match o[id]? with
   |some (.cells _ _ _ pu)=>if pu then none else some (.ptr id off tot)
   |_=>some (.ptr id off tot)
  else some (.ptr id off tot)
 | .agg cs=>(frzL o p cs).map .agg
 | .tup cs=>(frzL o p cs).map .tup
 | .fn f a b=>match frzL o p a,frzL o p b with
  |some a',some b'=>some (.fn f a' b')
  |_,_=>none
 |v=>some v
def frzL (o:Store) (p:Nat→Bool):List AV→Option (List AV)
 |[]=>some []
 |c::cs=>match c.frz o p,frzL o p cs with
  |some c',some cs'=>some (c'::cs')
  |_,_=>none
end
def frzM (o:Store) (p:Nat→Bool):List (Value×AV)→Option (List (Value×AV))
 |[]=>some []
 |e::es=>match e.2.frz o p,frzM o p es with
  |some v,some es'=>some ((e.1,v)::es')
  |_,_=>none
def AObj.frz (o:Store) (p:Nat→Bool):AObj→Option AObj
 | .dead=>some .dead
 | .cells cs e sz pu=>if pu then some (.cells cs e sz pu) else(frzL o p cs).map fun cs'=> .cells cs' e sz pu
 | .map es kt pu=>if pu then some (.map es kt pu) else(frzM o p es).map fun es'=> .map es' kt pu
def frzS (o:Store) (p:Nat→Bool):Store→Option Store
 |[]=>some []
 |x::r=>match x.frz o p,frzS o p r with
  |some y,some l=>some (y::l)
  |_,_=>none
def dropPu (p:Nat→Bool):Nat→Store→Store
 |_,[]=>[]
 |i,x::r=>(match x with
  | .cells cs e sz true=>if p i then .dead else .cells cs e sz true
  |x=>x)::dropPu p (i+1) r
def frzE (o:Store) (p:Nat→Bool):EnvA→Option EnvA
 |[]=>some []
 |(k,v)::r=>match v.frz o p,frzE o p r with
  |some v',some r'=>some ((k,v')::r')
  |_,_=>none
def cellH (h:OwnH) (st:St):Option AV:=
 match h.off with
 |none=>some (getE st.env h.slot)
 |some k=>match behind st.o (getE st.env h.slot) with
  |some (cs,off)=>cs[off+k]?
  |none=>none
def unpH (id:Nat) (st:St):St:=
 match st.o[id]? with
 |some (.cells cs e sz true)=>⟨st.env,st.o.set id (.cells cs e sz false)⟩
 |_=>st
def ownH1 (h:OwnH) (st:St):St:=
 match h.off with
 |none=>match getE st.env h.slot with
  | .sc (.slice none 0 0)=>⟨(h.slot,.os st.o.length 0 0 0)::st.env,st.o++[.cells [] h.e h.sz h.pu]⟩
  | .os id _ _ _=>if h.sz=0 then unpH id st else st
  |_=>st
 |some k=>match getE st.env h.slot with
  | .ptr id off tot=>match st.o[id]? with
   |some (.cells cs e sz pu)=>match cs[off+k]? with
    |some (.sc (.slice none 0 0))=>
     if cs.length=tot∧pu=false then⟨st.env,(st.o.set id (.cells (cs.set (off+k) (.os st.o.length 0 0 0)) e sz pu))++[.cells [] h.e h.sz h.pu]⟩ else st
    |_=>st
   |_=>st
  |_=>st
def frzH (id:Nat) (st:St):St:=
 let p:Nat→Bool:=fun i=>i==id
 match frzE st.o p st.env,frzS st.o p st.o with
 |some env,some o=>⟨env,dropPu p 0 o⟩
 |_,_=>st
def purH (id:Nat) (st:St):St:=
 match st.o[id]? with
 |some (.cells cs e sz false)=>if pureL cs then⟨st.env,st.o.set id (.cells cs e sz true)⟩ else st
 |_=>st
def ownH (lo:Nat) (h:OwnH) (st:St):St:=
 if h.own then ownH1 h st
 else match cellH h st with
  |some (.os id _ _ _)=>if Nat.ble lo id then frzH id (purH id st) else st
  |_=>st
def prune (live:List Nat) (env:EnvA):EnvA:=live.map fun s=>(s,getE env s)
inductive Out where
 |norm
 |exit (id:Nat)
 |ret
 |goto (l:Nat)
 deriving DecidableEq
def trim (k:Nat) (st:St):St:=
 if st.o.length≤k then st
 else if(st.env.all fun p=>p.2.bel k)&&((st.o.take k).all fun x=>x.bel k) then⟨st.env,st.o.take k⟩ else st
structure IRes where
 slot:Nat
 cell:Option (Option Nat)
structure IFn where
 params:Nat
 ntmps:Nat
 body:IR
 res:List IRes
def resA (st:St) (r:IRes):Option AV:=
 match r.cell with
 |none=>some (getE st.env r.slot)
 |some n=>match behind st.o (getE st.env r.slot) with
  |some (cs,off)=>partA cs off n
  |none=>none
def resultsA (st:St) (rs:List IRes):Option AV:=
 match rs.mapM (resA st) with
 |some [v]=>some v
 |some vs=>some (.tup vs)
 |none=>none
def finishOwn (k:Nat) (r:AV) (o:Store):Option (AV×Store):=
 match r.frz o (fun i=>decide (k≤i)),frzS o (fun i=>decide (k≤i)) o with
 |some r1,some o1=>
  let o2:=dropPu (fun i=>decide (k≤i)) 0 o1
  let ids:=reachF o2 reachD (r1::(o2.take k).flatMap AObj.avs) (List.range k)
  if callOwn.nodupN ids then
   match r1.ren (fun j=>idxOf ids j),subStore o2 ids ids with
   |some r2,some s2=>some (r2,s2)
   |_,_=>none
  else none
 |_,_=>none
where AObj.avs:AObj→List AV
 | .cells cs _ _ pu=>if pu then[] else cs
 | .map es _ pu=>if pu then[] else es.map (·.2)
 | .dead=>[]
def finish (own:Bool) (k:Nat) (r:AV) (o:Store):Option (AV×Store):=
 if own then finishOwn k r o
 else match k with
  |0=>match freeze o 6 r with
   |some r'=>some (r',[])
   |none=>none
  |_+1=>none
def bindArgs:Nat→List AV→EnvA
 |_,[]=>[]
 |i,v::vs=>(i,v)::bindArgs (i+1) vs
structure Tab where
 fn:FuncId→Option IFn
 K:Oracle
def spineX (ex:IR→St→Option (Out×St)):IR→St→Option St
 | .skip,st=>some st
 | .seq x y,st=>match ex x st with
  |some (.norm,st')=>spineX ex y st'
  |_=>none
 |_,_=>none
def isEnd:Out→Bool
 | .norm| .ret=>true
 |_=>false
def dfrX (ex:Nat→IR→St→Option (Out×St)) (F:Option IFn) (cs:List AV) (s:St):Option (Out×St):=match F with
 |some F=>if cs.length=F.params∧F.res.isEmpty=true then match ex s.o.length F.body ⟨bindArgs 0 cs,s.o⟩ with
  |some (out,s3)=>if isEnd out=true then some (.ret,⟨s.env,s3.o⟩) else none
  |none=>none else none
 |none=>none
def runB (T:Tab) (ex:Nat→IR→St→Option (Out×St)) (lo:Nat) (c:IR) (st:St):Option (Out×St):=match c with
 | .dfr g caps d a b=>match spineX (ex lo) a st with
  |some s0=>match ex s0.o.length b ⟨(d,.ud)::s0.env,s0.o⟩ with
   |some (out,s2)=>if isEnd out=true then dfrX ex (T.fn g) (caps.map (evA s0.env)) s2 else none
   |none=>none
  |none=>none
 |c=>ex lo c st
def callF (T:Tab) (ex:Nat→IR→St→Option (Out×St)):Oracle:=fun f args o own=>
 match T.K f args o own with
 |some r=>some r
 |none=>match T.fn f with
  |none=>none
  |some F=>if args.length=F.params then
    match runB T ex o.length F.body ⟨bindArgs 0 args,o⟩ with
    |some (.norm,st)|some (.ret,st)=>match resultsA st F.res with
     |some r=>finish own o.length r st.o
     |none=>none
    |_=>none
   else none
def dropL (t:Nat):EnvA→EnvA
 |[]=>[]
 |p::r=>bif Nat.beq p.1 t then dropL t r else p::dropL t r
def dropE (x:Operand) (env:EnvA):EnvA:=
 match x with
 | .tmp t=>dropL t env
 |_=>env
inductive Md where
 |plain
noncomputable def runRegM (_:Md) (_:Bool) (call:Oracle) (k:Nat) (ops:List IOper) (chk:List (Nat×Nat)) (st:St):Option St:=runReg call k ops chk st
noncomputable def exec (T:Tab):Md→Nat→Nat→IR→St→Option (Out×St)
 |_,0,_,_,_=>none
 |md,n+1,lo,c,st=>
  match c with
  | .skip=>some (.norm,st)
  | .region _ draw k ops chk live pre post=>match runRegM md draw (callF T (exec T .plain n)) k ops chk (pre.foldl (fun s h=>ownH lo h s) st) with
   |some st'=>some (.norm,post.foldl (fun s h=>ownH lo h s) ⟨prune live st'.env,st'.o⟩)
   |none=>none
  | .seq a b=>match exec T md n lo a st with
   |some (.norm,st')=>exec T md n lo b st'
   |r=>r
  | .cond x a b=>match evA st.env x with
   | .sc (.bool true)=>exec T md n lo a ⟨dropE x st.env,st.o⟩
   | .sc (.bool false)=>exec T md n lo b ⟨dropE x st.env,st.o⟩
   |_=>none
  | .block id b=>match exec T md n lo b st with
   |some (.exit id',st')=>if id'=id then some (.norm,st') else some (.exit id',st')
   |r=>r
  | .loop b=>match exec T md n lo b st with
   |some (.norm,st')=>exec T md n lo (.loop b) (trim st.o.length st')
   |r=>r
  | .exit id=>some (.exit id,st)
  | .ret=>some (.ret,st)
  | .goto l=>some (.goto l,st)
  | .condK x a b=>match evA st.env x with
   | .sc (.bool true)=>exec T md n lo a st
   | .sc (.bool false)=>exec T md n lo b st
   |_=>none
  | .turns l b=>match exec T md n lo b st with
   |some (.goto l',st')=>if l=some l' then exec T md n lo (.turns l b) (trim st.o.length st') else none
   |r=>r
  | .dfr .. =>none
def IOp.opds:IOp→List Operand
 | .mov x| .box _ x| .load _ x| .nilc x| .un _ x| .conv _ x| .fieldA _ x| .field _ _ x| .len _ x| .extract x _=>[x]
 | .pick c a b=>[c,a,b]
 | .alloc .. | .lenArr _| .mkmap .. =>[]
 | .build _ ps=>ps.map (·.2.2)
 | .mkrow _ _ ps _ _| .mkimm _ _ ps _ _=>ps.map (·.2)
 | .store _ a x=>[a,x]
 | .bin _ x y| .beq _ x y| .eqf _ _ x y| .pnil _ x y| .mm _ x y=>[x,y]
 | .idxA _ _ x i| .idxS _ x i| .idx _ _ _ x i| .idxStr x i=>[x,i]
 | .mkslice _ _ _ _ l c _=>[l,c]
 | .slice _ x lo hi| .sliceStr x lo hi=>x::(lo.toList++hi.toList)
 | .slice3 _ x lo hi mx=>x::hi::mx::lo.toList
 | .append _ _ _ s x _=>[s,x]
 | .call _ args _=>args
 | .callv f args _=>f::args
 | .mkfn _ a b=>a++b
 | .mkif _ x=>[x]
 | .callm _ x args=>x::args
 | .lookup _ _ _ _ x k _=>[x,k]
 | .mapset _ _ x k v=>[x,k,v]
def IOp.cls:IOp→Nat
 | .mov _| .pick .. | .build .. | .mkimm .. | .nilc _| .bin .. | .beq .. | .eqf .. | .pnil .. | .un .. | .conv .. | .fieldA .. | .field .. | .idxA .. | .idx .. | .idxStr .. | .sliceStr .. | .lenArr _
 | .mm .. | .extract .. | .mkfn .. | .mkif .. =>0
 | .load .. | .idxS .. | .slice .. | .slice3 .. | .len .. | .lookup .. | .callm .. | .call _ _ false| .callv _ _ false=>1
 | .alloc .. | .box .. | .mkrow .. | .mkslice .. | .mkmap .. | .store .. | .append .. | .mapset .. =>2
 | .call _ _ true| .callv _ _ true=>3
def IOp.makes:IOp→Bool
 | .alloc .. | .box .. | .mkrow .. | .mkslice .. | .mkmap .. | .append .. =>true
 |_=>false
def tmpsOf (l:List Operand):List Nat:=l.filterMap fun| .tmp t=>some t|_=>none
def IOper.reads (i:IOper):List Nat:=
 tmpsOf i.op.opds++(match i.guard with|some (some s,_)=>[s]|_=>[])
def disj (d:Option Nat) (l:List Nat):Bool:=match d with|none=>true|some d=>!l.contains d
def apartT (a b:IOper):Bool:=
 disj a.dst b.reads&&disj b.dst a.reads&&(match a.dst,b.dst with|some x,some y=>x !=y|_,_=>true)
def freeM (a b:IOper):Bool:=a.op.cls==0||b.op.cls==0||(a.op.cls==1&&b.op.cls==1)
def mayM (a b:IOper):Bool:=a.op.cls !=3||b.op.cls !=3
def edgesB:Nat→List Oper→Bool
 |_,[]=>true
 |i,o::r=>o.after.toList.all (fun e=>!Region.binds .any e||decide (e.on<i))&&edgesB (i+1) r
structure RH where
 id:Nat
 live:List Nat
 perm:List Nat:=[]
 flags:List Nat:=[]
 pre:List OwnH:=[]
 post:List OwnH:=[]
def kindsFs (c:TypeId→Option (List Nat)):Nat→List Field→Option (List Nat)
 |_,[]=>some []
 |b,f::d=>if f.name= "_" ∨f.offset≠b then none else match c f.type with
  |some a=>match kindsFs c (b+a.length) d with
   |some r=>some (a++r)
   |none=>none
  |none=>none
def kindsT (P:Program):Nat→TypeId→Option (List Nat)
 |0,_=>none
 |d+1,t=>match P.underlying t,(P.info? t).map (·.size) with
  |some (.int _),some 1=>some [0]
  |some .bool,some 1=>some [1]
  |some .string,some 1=>some [2]
  |some (.struct b),some n=>if P.stoodInHeld t then none else match kindsFs (kindsT P d) 0 b.toList with
   |some a=>if a.length=n then some a else none
   |none=>none
  |some (.array k e),some n=>match kindsT P d e with
   |some a=>if n=k*a.length then some ((List.replicate k a).flatten) else none
   |none=>none
  |_,_=>none
def isAggT (P:Program) (t:TypeId):Option Bool:=
 match P.underlying t with
 |some (.struct _)|some (.array _ _)=>some true
 |some _=>some false
 |none=>none
def sizeT (P:Program) (t:TypeId):Option Nat:=(P.info? t).map (·.size)
def bytesT (P:Program) (t:TypeId):Option Nat:=(P.info? t).map (·.bytes)
def shapeT (P:Program) (t:TypeId):Option (Option Nat):=
 match isAggT P t,sizeT P t with
 |some true,some n=>some (some n)
 |some false,some _=>some none
 |_,_=>none
def zeroT (P:Program) (t:TypeId):Option (List Value):=
 match(P.info? t).bind (·.zero),sizeT P t with
 |some z,some n=>if z.cells.toList.all (·.oneCell')&&z.cells.size==n then some z.cells.toList else none
 |_,_=>none
def zeroOk (P:Program) (t:TypeId) (g:Bool):Bool:=
 match(P.info? t).bind (·.zero) with
 |some (.agg _)=>g
 |some _=>!g
 |none=>false
def methF (P:Program) (name:String) (t:TypeId):Option FuncId:=
 match P.underlying t,P.info? t with
 |some (.struct _),some i=>match i.methods.find? (·.name==name) with
  |some m=>match m.path.toList,m.func with
   |[],some (f,false)=>some f
   |_,_=>none
  |none=>none
 |_,_=>none
def methL (P:Program) (name:String):Nat→List (TypeId×FuncId)
 |0=>[]
 |t+1=>match methF P name t with
  |some f=>(t,f)::methL P name t
  |none=>methL P name t
def methT (P:Program) (name:String):List (TypeId×FuncId):=methL P name P.types.size
def optAll {d c:Type} (f:d→Option c):List d→Option (List c)
 |[]=>some []
 |a::l=>match f a,optAll f l with
  |some b,some r=>some (b::r)
  |_,_=>none
def goodF (P:Program) (f:FuncId):Bool:=(P.funcs[f]?).any fun a=>a.body.isSome&&!(a.name== "runtime.NumGoroutine")
def placesT (P:Program) (a:Array Field):Option (List (Nat×Nat)):=a.toList.mapM fun f=>(P.info? f.type).map fun i=>(f.offset,i.size)
def placeT (a:List (Nat×Nat)) (p:Nat×Operand):Option (Nat×Nat×Operand):=(a[p.1]?).map fun q=>(q.1,q.2,p.2)
def compOp (P:Program) (fl:Bool) (o:Oper):Option IOp:=
 match o.op with
 | .move x| .assign x=>some (.mov x)
 | .pick c a b=>some (.pick c a b)
 | .alloc e=>(zeroT P e).map fun z=> .alloc z e fl
 | .box e x=>some (.box e x)
 | .build t parts=>match zeroT P t,P.underlying t with
  |some z,some (.struct fields)=>match placesT P fields with
   |some places=>(optAll (placeT places) parts.toList).map fun ps=> .build z ps
   |none=>none
  |some z,some (.array _ e)=>(sizeT P e).map fun n=> .build z (parts.toList.map fun p=>(p.1*n,n,p.2))
  |_,_=>none
 | .buildSlice t len parts=>match P.underlying t with
  |some (.slice e)=>match zeroT P e with
   |some z=>if len*z.length≤16777216∧0<z.length then some (if fl then .mkimm z len (parts.toList.map fun p=>(p.1*z.length,p.2)) e z.length else .mkrow z len (parts.toList.map fun p=>(p.1*z.length,p.2)) e z.length) else none
   |none=>none
  |_=>none
 | .load t a=>(shapeT P t).map fun n=> .load n a
 | .store t a x=>(sizeT P t).map fun n=> .store n a x
 | .nilCheck x=>some (.nilc x)
 | .binOp op t x y _=>match op with
  | .eql| .neq=>match P.underlying t with
   |some (.struct _)|some (.array _ _)=>if 20≤P.depth then(kindsT P 20 t).map fun ks=> .eqf (op matches .neq) ks x y else none
   |some .bool=>some (.beq (op matches .neq) x y)
   |some (.int _)|some .string=>some (.bin op x y)
   |some (.pointer _)=>some (.pnil (op matches .neq) x y)
   |_=>none
  |_=>some (.bin op x y)
 | .unOp op _ x=>some (.un op x)
 | .convert s d x=>match P.underlying s,P.underlying d with
  |some _,some (.int k)=>some (.conv k x)
  |_,_=>none
 | .fieldAddr s x f=>match P.underlying s with
  |some (.struct fs)=>match fs[f]? with
   |some g=>match sizeT P g.type with
    |some n=>if n=0 then none else some (.fieldA g.offset x)
    |none=>none
   |none=>none
  |_=>none
 | .field t x f=>match P.underlying t with
  |some (.struct fs)=>match fs[f]? with
   |some g=>(shapeT P g.type).map fun n=> .field g.offset n x
   |none=>none
  |_=>none
 | .indexAddr t x i=>match P.underlying t with
  |some (.array len e)=>(sizeT P e).map fun n=> .idxA len n x i
  |some (.slice e)=>match sizeT P e with
   |some n=>if n=0 then none else some (.idxS n x i)
   |none=>none
  |_=>none
 | .index t x i=>match P.underlying t with
  |some (.array len e)=>match sizeT P e,shapeT P e with
   |some s,some n=>some (.idx len s n x i)
   |_,_=>none
  |some .string=>some (.idxStr x i)
  |_=>none
 | .makeSlice t l c=>match P.underlying t with
  |some (.slice e)=>match zeroT P e,bytesT P e with
   |some z,some b=>if 0<z.length then some (.mkslice z e z.length b l c fl) else none
   |_,_=>none
  |_=>none
 | .slice t x lo hi none=>match P.underlying t with
  |some (.slice e)=>match sizeT P e with
   |some n=>if n=0 then none else some (.slice n x lo hi)
   |none=>none
  |some .string=>some (.sliceStr x lo hi)
  |_=>none
 | .slice t x lo (some hi) (some mx)=>match P.underlying t with
  |some (.slice e)=>match sizeT P e with
   |some n=>if n=0 then none else some (.slice3 n x lo hi mx)
   |none=>none
  |_=>none
 | .call c=>match c.callee with
  | .value (.func f)=>if goodF P f then some (.call f c.args.toList fl) else none
  | .value v=>some (.callv v c.args.toList fl)
  | .invoke x name=>if fl then none else some (.callm (methT P name) x c.args.toList)
  | .builtin .append=>match c.args.toList,c.argTypes.toList with
   |[s,x],[t,t']=>if t=t' then match P.underlying t with
     |some (.slice e)=>match zeroT P e,bytesT P e with
      |some z,some b=>if 0<z.length then some (.append e z.length b s x fl) else none
      |_,_=>none
     |_=>none
    else none
   |_,_=>none
  | .builtin .len=>match c.args.toList,c.argTypes.toList with
   |[x],[t]=>match P.underlying t with
    |some (.slice _)=>some (.len 0 x)
    |some .string=>some (.len 1 x)
    |some (.map _ _)=>some (.len 2 x)
    |some (.array n _)=>some (.lenArr n)
    |_=>none
   |_,_=>none
  | .builtin .min=>match c.args.toList with
   |[x,y]=>some (.mm false x y)
   |_=>none
  | .builtin .max=>match c.args.toList with
   |[x,y]=>some (.mm true x y)
   |_=>none
  |_=>none
 | .extract x i=>some (.extract x i)
 | .makeFunc f a b=>match f with
  | .func g=>some (.mkfn (.func g) a.toList b.toList)
  |_=>none
 | .makeInterface t x=>match P.underlying t with
  |some (.struct _)=>some (.mkif t x)
  |_=>none
 | .makeMap t none=>match P.underlying t with
  |some (.map kt _)=>match kindsT P 20 kt,isAggT P kt with
    |some ks,some ka=>some (.mkmap (ks,ka) fl)
    |_,_=>none
  |_=>none
 | .lookup t x k ok=>match P.underlying t with
  |some (.map kt et)=>match kindsT P 20 kt,isAggT P kt,zeroT P et,isAggT P et with
    |some ks,some ka,some z,some g=>if zeroOk P et g then some (.lookup z g ks ka x k ok) else none
    |_,_,_,_=>none
  |_=>none
 | .mapUpdate t m k v| .insert t m k v=>match P.underlying t with
  |some (.map kt _)=>match kindsT P 20 kt,isAggT P kt with
    |some ks,some ka=>some (.mapset ks ka m k v)
    |_,_=>none
  |_=>none
 |_=>none
def dstOk (a:Nat):Option Nat→Bool
 |none=>true
 |some d=>decide (d<a)
def compOper (P:Program) (c:Nat) (fl:List Nat) (a:Array Oper) (nid i:Nat):Option IOper:=
 match a[i]? with
 |none=>none
 |some o=>if dstOk c o.dst then(compOp P (fl.contains i) o).map fun b=>⟨i,nid,o.dst,b,o.guard.map fun g=>(((a[g.1]?).bind (·.dst)),g.2)⟩ else none
def compOpers (P:Program) (b:Nat) (fl:List Nat) (a:Array Oper):Nat→List Nat→Option (List IOper×Nat)
 |k,[]=>some ([],k)
 |k,i::r=>match compOper P b fl a k i with
  |none=>none
  |some x=>match compOpers P b fl a (if x.op.makes then k+1 else k) r with
   |none=>none
   |some (l,n)=>some (x::l,n)
def ancStep (acc:List Nat) (s:Nat) (e:Edge):Nat:=if Region.binds .any e then s |||(2^e.on |||acc.getD e.on 0) else s
def ancs (b:Array Oper):List Nat:=
 b.toList.foldl (fun a o=>a++[o.after.toList.foldl (ancStep a) 0]) []
def pairsOf (c:List Nat):List IOper→List (Nat×Nat)
 |[]=>[]
 |a::r=>(r.filterMap fun b=>if(c.getD b.idx 0).testBit a.idx||freeM a b then none else some (a.idx,b.idx))++pairsOf c r
def swapsOk (c:List Nat):List IOper→Bool
 |[]=>true
 |a::r=>r.all (fun b=>(c.getD b.idx 0).testBit a.idx||(apartT a b&&(freeM a b||mayM a b)))&&swapsOk c r
def nodupB:List Nat→Bool
 |[]=>true
 |a::r=>!r.contains a&&nodupB r
def compReg (P:Program) (d:Nat) (H:List RH) (id:Nat) (a:Array Oper) (c:Bool):Option IR:=
 match H.find? (·.id==id) with
 |none=>none
 |some h=>
  if c then
   let b:=if h.perm.isEmpty then List.range a.size else h.perm
   match compOpers P d h.flags a 0 b with
   |some (l,k)=>if P.follows .mixedOrders&&b.length==a.size&&nodupB b&&swapsOk (ancs a) l&&edgesB 0 a.toList&&(List.range a.size).all b.contains then some (.region id true k l (pairsOf (ancs a) l) h.live h.pre h.post) else none
   |none=>none
  else(compOpers P d h.flags a 0 (List.range a.size)).map fun(l,k)=> .region id false k l [] h.live h.pre h.post
def hasGoto:Code→Bool
 | .seq a b| .cond _ a b=>hasGoto a||hasGoto b
 | .block _ b| .loop b| .scope b=>hasGoto b
 | .goto _=>true
 |_=>false
def labelOf:Code→Option Nat
 | .seq (.label l) c=>if hasGoto c then some l else none
 |_=>none
def keptS (H:List RH):Operand→Bool
 | .tmp t=>match H.find? (·.id==999999) with
  |some h=>h.live.contains t
  |none=>false
 |_=>false
def comp (P:Program) (nt:Nat) (H:List RH):Code→Option IR
 | .skip=>some .skip
 | .region id ops draw=>compReg P nt H id ops draw
 | .seq a b=>match comp P nt H a,comp P nt H b with
  |some x,some y=>some (.seq x y)
  |_,_=>none
 | .cond c a b=>match comp P nt H a,comp P nt H b with
  |some x,some y=>some (if keptS H c then .condK c x y else .cond c x y)
  |_,_=>none
 | .block id b=>(comp P nt H b).map (.block id)
 | .loop b=>(comp P nt H b).map .loop
 | .exit id=>some (.exit id)
 | .ret=>some .ret
 | .label _=>some .skip
 | .goto l=>some (.goto l)
 | .scope b=>(comp P nt H b).map fun x=> .turns (labelOf b) x
 |_=>none
def isDfr (h:Array Oper):Option (FuncId×List Operand×Nat):=match h.toList with
 |[f,e]=>match f.dst,f.op,f.guard,e.op,e.dst,e.guard with
  |some d,.makeFunc (.func g) a b,none,.defer c,none,none=>match c.callee with
   | .value (.tmp i)=>if i=d∧a.toList=[]∧c.args.toList=[] then some (g,b.toList,d) else none
   |_=>none
  |_,_,_,_,_,_=>none
 |_=>none
def compD (P:Program) (f:Nat) (H:List RH):Code→Option (IR×(FuncId×List Operand×Nat)×IR)
 | .seq (.region g e d) c=>match isDfr e,d with
  |some x,false=>if x.2.2<f∧goodF P x.1=true then(comp P f H c).map fun b=>(.skip,x,b) else none
  |_,_=>match compReg P f H g e d,compD P f H c with
   |some r,some (a,x,b)=>some (.seq r a,x,b)
   |_,_=>none
 |_=>none
def compB (P:Program) (a:Nat) (H:List RH) (c:Code):Option IR:=match comp P a H c with
 |some b=>some b
 |none=>(compD P a H c).map fun x=> .dfr x.2.1.1 x.2.1.2.1 x.2.1.2.2 x.1 x.2.2
def compRes (P:Program):ResultVar→Option IRes
 | .tmp t=>some ⟨t,none⟩
 | .cell a t=>(shapeT P t).map fun n=>⟨a,some n⟩
def compFn (P:Program) (H:List RH) (a:Func):Option IFn:=
 match a.body with
 |none=>none
 |some c=>match compB P a.ntmps H c,optAll (compRes P) a.results.toList with
  |some b,some d=>if a.ntmps<a.params.size+a.nfree then none else some ⟨a.params.size+a.nfree,a.ntmps,b,d⟩
  |_,_=>none
end Go.Vi
