/-
  The abstract interpreter: its values, its small code, and its run. Plain definitions: no proof stands here.
  Conditions: none.
-/
import Derived.Orders
import Derived.RowKit3
set_option maxRecDepth 100000
set_option maxHeartbeats 4000000
set_option linter.unusedSimpArgs false
set_option linter.unusedVariables false
namespace Go.Vi
inductive AV where
 |ud
 |sc (v:Value)
 |agg (cs:List AV)
 |aD (cs:List AV)
 |sl (n:Nat) (cs:List AV)
 |ep (cs:List AV) (off:Nat)
 |ptr (id off tot:Nat)
 |os (id off len tot:Nat)
 |mp (id:Nat)
 |fn (f:Fn) (first captured:List AV)
 deriving Inhabited
inductive aP where
 |dead
 |cells (cs:List AV) (e:TypeId) (sz:Nat) (pu:Bool)
 |map (es:List (Value×AV)) (kt:List Nat×Bool) (pu:Bool)
 deriving Inhabited
def sN:Value:=.slice none 0 0
def AV.qn:AV→AV
 | .sc (.slice none 0 0)=> .sl 0 []
 |v=>v
def cp (pu:Bool) (cs:List AV):List AV:=if pu then cs.map .qn else cs
def AV.cellsOf:AV→List AV
 | .agg cs=>cs
 |v=>[v]
def AV.one:AV→Bool
 | .agg _| .aD _| .ud=>false
 | .sc v=>v.oneCell'
 |_=>true
mutual
def AV.pure:AV→Bool
 | .sc _=>true
 | .sl _ cs=>bJ cs
 |_=>false
def bJ:List AV→Bool
 |[]=>true
 |c::cs=>c.pure&&bJ cs
end
mutual
def AV.a6 (k:Nat):AV→Bool
 | .ud=>true
 | .sc _=>true
 | .agg cs=>b7 k cs
 | .aD cs=>b7 k cs
 | .sl _ _=>true
 | .ep _ _=>true
 | .ptr id _ _=>decide (id<k)
 | .os id _ _ _=>decide (id<k)
 | .mp id=>decide (id<k)
 | .fn _ a b=>b7 k a&&b7 k b
def b7 (k:Nat):List AV→Bool
 |[]=>true
 |c::cs=>c.a6 k&&b7 k cs
end
def aP.a6 (k:Nat):aP→Bool
 | .dead=>true
 | .cells cs _ _ pu=>pu||b7 k cs
 | .map es _ pu=>pu||b7 k (es.map (·.2))
abbrev Store:=List aP
def aP.iK:aP→Bool
 | .dead=>true
 |_=>false
def fU (am:Nat) (x:aP) (o:Store):Option Store:=
 match o[am]? with
 |some .dead=>some (o.set am x)
 |_=>none
abbrev dI:=List (Nat×AV)
def bE:dI→Nat→AV
 |[],_=> .ud
 |p::r,s=>bif Nat.beq p.1 s then p.2 else bE r s
def jl (env:dI) (dst:Option Nat) (v:AV):dI:=
 match dst with
 |none=>env
 |some d=>(d,v)::env
def AV.l9:Value→AV
 | .agg cs=>if cs.toList.all (·.oneCell') then .agg (cs.toList.map .sc) else .ud
 | .tuple _=> .ud
 |v=> .sc v
def b8 (env:dI):Operand→AV
 | .tmp t=>bE env t
 | .const v=> .l9 v
 | .global _=> .ud
 | .func f=> .fn (.func f) [] []
inductive bk where
 |oG (x:Operand)
 |pick (c a b:Operand)
 |alloc (z:List Value) (e:TypeId) (pu:Bool)
 |box (e:TypeId) (x:Operand)
 |build (z:List Value) (parts:List (Nat×Nat×Operand))
 |kg (z:List Value) (len:Nat) (parts:List (Nat×Operand)) (e:TypeId) (sz:Nat)
 |ng (z:List Value) (len:Nat) (parts:List (Nat×Operand)) (e:TypeId) (sz:Nat)
 |load (n:Option Nat) (a:Operand)
 |store (n:Nat) (a x:Operand)
 |oH (x:Operand)
 |bin (op:BinOp) (x y:Operand)
 |beq (neg:Bool) (x y:Operand)
 |mb (neg:Bool) (ks:List Nat) (x y:Operand)
 |un (op:UnOp) (x:Operand)
 |conv (k:IntKind) (x:Operand)
 |oJ (off:Nat) (x:Operand)
 |field (off:Nat) (n:Option Nat) (x:Operand)
 |oK (len sz:Nat) (x i:Operand)
 |me (sz:Nat) (x i:Operand)
 |idx (len sz:Nat) (n:Option Nat) (x i:Operand)
 |qs (x i:Operand)
 |kJ (z:List Value) (e:TypeId) (sz bytes:Nat) (l c:Operand) (pu:Bool)
 |slice (sz:Nat) (x:Operand) (lo hi:Option Operand)
 |slice3 (sz:Nat) (x:Operand) (lo:Option Operand) (hi mx:Operand)
 |oL (x:Operand) (lo hi:Option Operand)
 |append (e:TypeId) (sz bytes:Nat) (s x:Operand) (pu:Bool)
 |len (k:Nat) (x:Operand)
 |oM (n:Nat)
 |mm (mx:Bool) (x y:Operand)
 |call (f:FuncId) (args:List Operand) (own:Bool)
 |eF (f:Operand) (args:List Operand) (own:Bool)
 |extract (x:Operand) (i:Nat)
 |nh (f:Fn) (first captured:List Operand)
 |kK (kt:List Nat×Bool) (pu:Bool)
 |lookup (z:List Value) (agg:Bool) (ks:List Nat) (ka:Bool) (x k:Operand) (ok:Bool)
 |lv (ks:List Nat) (ka:Bool) (x k v:Operand)
structure bA where
 idx:Nat
 am:Nat
 dst:Option Nat
 op:bk
 guard:Option (Option Nat×Bool)
structure gq where
 own:Bool
 slot:Nat
 off:Option Nat
 e:TypeId
 sz:Nat
 pu:Bool
inductive IR where
 |skip
 |region (id:Nat) (draw:Bool) (k:Nat) (ops:List bA) (b6:List (Nat×Nat)) (live:List Nat) (pre post:List gq)
 |seq (a b:IR)
 |cond (c:Operand) (a b:IR)
 |block (id:Nat) (c:IR)
 |loop (c:IR)
 |exit (id:Nat)
 |ret
 |each (x:Operand) (ps:List Nat) (az bd:IR)
 |goto (l:Nat)
 |turns (l:Option Nat) (b:IR)
 |jE (c:Operand) (a b:IR)
 |qt (g:FuncId) (caps:List Operand) (d:Nat) (a b:IR)
structure St where
 env:dI
 o:Store
def behind (o:Store):AV→Option (List AV×Nat)
 | .ptr id off tot=>match o[id]? with
  |some (.cells cs _ _ _)=>if cs.length=tot then some (cs,off) else none
  |_=>none
 | .ep cs off=>some (cs,off)
 |_=>none
def dJ (cs:List AV) (off:Nat):Option Nat→Option AV
 |none=>cs[off]?
 |some n=>if off+n≤cs.length then some (.agg ((cs.drop off).take n)) else none
def dE (cs:List AV) (off:Nat):List AV→List AV
 |[]=>cs
 |v::vs=>dE (cs.set off v) (off+1) vs
def cz (l:List AV):Bool:=l.all (·.one)
def cO (k:IntKind) (n:Int):Int:=
 match k with
 | .i64=>if decide (-9223372036854775808≤n)&&decide (n≤9223372036854775807) then n else IntKind.wrap .i64 n
 | .u32=>if decide (0≤n)&&decide (n≤4294967295) then n else IntKind.wrap .u32 n
 | .u64=>if decide (0≤n)&&decide (n≤18446744073709551615) then n else IntKind.wrap .u64 n
 |k=>k.wrap n
def vh (n:Nat):Int:=Int.ofNat (Nat.pow 2 n)
def gr (op:BinOp) (k:IntKind) (a b:Int):Option Value:=
 match op with
 | .add=>some (.int k (cO k (a+b)))
 | .sub=>some (.int k (cO k (a - b)))
 | .mul=>some (.int k (cO k (a*b)))
 | .quo=>if b=0 then none else some (.int k (cO k (a.tdiv b)))
 | .rem=>if b=0 then none else some (.int k (a.tmod b))
 | .and=>some (.int k (cO k (BitVec.ofInt k.bits a &&&BitVec.ofInt k.bits b).toNat))
 | .or=>some (.int k (cO k (BitVec.ofInt k.bits a |||BitVec.ofInt k.bits b).toNat))
 | .xor=>some (.int k (cO k (BitVec.ofInt k.bits a ^^^BitVec.ofInt k.bits b).toNat))
 | .andNot=>some (.int k (cO k (BitVec.ofInt k.bits a &&&~~~(BitVec.ofInt k.bits b)).toNat))
 | .eql=>some (.bool (a==b))
 | .neq=>some (.bool (a !=b))
 | .lss=>some (.bool (decide (a<b)))
 | .leq=>some (.bool (decide (a≤b)))
 | .gtr=>some (.bool (decide (b<a)))
 | .geq=>some (.bool (decide (b≤a)))
 |_=>none
def dO (op:BinOp):Value→Value→Option Value
 | .int k a,.int k' b=>
  match op with
  | .shl=>if b<0 then none else some (.int k (cO k (a*vh (min b.toNat k.bits))))
  | .shr=>if b<0 then none else some (.int k (a.fdiv (vh (min b.toNat k.bits))))
  |_=>if k=k' then gr op k a b else none
 | .string a,.string b=>match op with
  | .eql=>some (.bool (a.toList==b.toList))
  | .neq=>some (.bool (!(a.toList==b.toList)))
  | .add=>if a.size+b.size≤1000000000 then some (.string (a++b)) else none
  |_=>none
 |_,_=>none
def seq1:Value→Value→Option Bool
 | .int k a,.int k' b=>if k=k' then some (a==b) else none
 | .bool a,.bool b=>some (a==b)
 | .string a,.string b=>some (a.toList==b.toList)
 |_,_=>none
def dq:List Value→List Value→Option Bool
 |[],[]=>some true
 |x::xs,y::ys=>match seq1 x y,dq xs ys with
  |some a,some b=>some (a&&b)
  |_,_=>none
 |_,_=>none
def cq:List Nat→List Value→Bool
 |[],[]=>true
 |0::ks,.int _ _::vs=>cq ks vs
 |1::ks,.bool _::vs=>cq ks vs
 |2::ks,.string _::vs=>cq ks vs
 |_,_=>false
def mf:List AV→Option (List Value)
 |[]=>some []
 | .sc v::r=>(mf r).map (v::·)
 |_=>none
def qu (ks:List Nat) (a b:List AV):Option Bool:=
 match mf a,mf b with
 |some x,some y=>if cq ks x&&cq ks y then dq x y else none
 |_,_=>none
def ni (op:UnOp):AV→Option AV
 | .sc (.bool b)=>match op with| .not=>some (.sc (.bool !b))|_=>none
 | .sc (.int k n)=>match op with| .neg=>some (.sc (.int k (cO k (0 - n))))|_=>none
 |_=>none
def dU:AV→Option Int
 | .sc (.int _ n)=>some n
 |_=>none
def iL (d:Nat):AV→Option AV
 | .ptr id off tot=>some (.ptr id (off+d) tot)
 | .ep cs off=>some (.ep cs (off+d))
 |_=>none
def iM (o:Store) (sz:Nat):AV→Option (Nat×List AV)
 | .sl n cs=>if cs.length=n*sz then some (n,cs) else none
 | .os id off len tot=>match o[id]? with
  |some (.cells cs _ sz' _)=>if cs.length=tot∧sz'=sz∧off+len*sz≤tot then some (len,(cs.drop off).take (len*sz)) else none
  |_=>none
 | .sc (.slice none 0 0)=>some (0,[])
 |_=>none
def kL (off tot sz:Nat):Nat:=if Nat.ble off tot then off else off - tot - sz
def kM (o:Store) (sz:Nat) (x:AV) (i:Int):Option AV:=
 match x with
 | .sl n cs=>if 0≤i∧i<n∧cs.length=n*sz then some (.ep cs (i.toNat*sz)) else none
 | .os id off len tot=>match o[id]? with
  |some (.cells cs _ sz' _)=>if cs.length=tot∧sz'=sz∧0≤i∧i<len∧kL off tot sz+len*sz≤tot then some (.ptr id (kL off tot sz+i.toNat*sz) tot) else none
  |_=>none
 |_=>none
def gV (o:Store):Nat→AV→Option Nat
 |0,.sl n _=>some n
 |0,.os _ _ len _=>some len
 |0,.sc (.slice _ n _)=>some n
 |1,.sc (.string s)=>some s.size
 |2,.mp id=>match o[id]? with
  |some (.map es _ _)=>some es.length
  |_=>none
 |_,_=>none
def kN (e:TypeId) (sz bytes:Nat) (pu:Bool) (s x:AV) (o:Store) (am:Nat):Option (AV×Store):=
 match iM o sz x with
 |none=>none
 |some (m,new)=>
  if cz new=false then none else
  match s with
  | .sc (.slice none 0 0)=>
   if m=0 then some (.sc sN,o)
   else if m*bytes≤140737488355328∧m≤1000000000000∧(pu=false∨bJ new=true) then(fU am (.cells new e sz pu) o).map fun o'=>(.os am 0 m (m*sz),o') else none
  | .os id 0 len tot=>match o[id]? with
   |some (.cells cs e' sz' dV)=>
    if cs.length=tot∧e'=e∧sz'=sz∧len*sz=tot∧(len+m)*bytes≤140737488355328∧len+m≤1000000000000∧(dV=false∨bJ new=true)
    then some (.os id 0 (len+m) (tot+m*sz),o.set id (.cells (cs++new) e sz dV)) else none
   |_=>none
  | .sl n cs=>if m=0 then some (.sl n cs,o) else none
  |_=>none
def dP (d:Nat):Option AV→Option Nat
 |none=>some d
 |some (.sc (.int _ n))=>if 0≤n then some n.toNat else none
 |_=>none
def kO (o:Store) (sz:Nat) (x:AV) (lo hi:Option AV):Option AV:=
 match x with
 | .sl n cs=>match dP 0 lo,dP n hi with
  |some l,some h=>if l≤h∧h≤n∧cs.length=n*sz then some (.sl (h - l) ((cs.drop (l*sz)).take ((h - l)*sz))) else none
  |_,_=>none
 | .os id off len tot=>match dP 0 lo,dP len hi with
  |some l,some h=>match o[id]? with
   |some (.cells cs _ sz' _)=>if l≤h∧h≤len∧cs.length=tot∧sz'=sz then some (.os id (off+l*sz) (h - l) tot) else none
   |_=>none
  |_,_=>none
 | .sc (.slice none 0 0)=>match dP 0 lo,dP 0 hi with
  |some 0,some 0=>some (.sc sN)
  |_,_=>none
 |_=>none
def mh (o:Store) (sz:Nat) (x:AV) (lo:Option AV) (hi mx:AV):Option AV:=
 match x with
 | .sl n cs=>match dP 0 lo,dP n (some hi),dP n (some mx) with
  |some l,some h,some m=>if l≤h∧h≤m∧m≤n∧cs.length=n*sz then some (.sl (h - l) ((cs.drop (l*sz)).take ((h - l)*sz))) else none
  |_,_,_=>none
 | .os id off len tot=>match dP 0 lo,dP len (some hi),dP len (some mx) with
  |some l,some h,some m=>match o[id]? with
   |some (.cells cs _ sz' _)=>if l≤h∧h≤m∧m≤len∧cs.length=tot∧sz'=sz∧off+len*sz≤tot∧0<sz then some (.os id (off+l*sz+(tot+sz)) (h - l) tot) else none
   |_=>none
  |_,_,_=>none
 |_=>none
def kP (ks:List Nat) (ka:Bool):AV→Option Value
 | .sc v=>if !ka&&cq ks [v] then some v else none
 | .agg cs=>match mf cs with
  |some vs=>if ka&&cq ks vs then some (.agg vs.toArray) else none
  |none=>none
 |_=>none
def keq:Value→Value→Option Bool
 | .agg a,.agg b=>dq a.toList b.toList
 | .agg _,_=>none
 |_,.agg _=>none
 |a,b=>seq1 a b
def jm (k:Value):List (Value×AV)→Nat→Option (Option (Nat×AV))
 |[],_=>some none
 |e::es,i=>match keq k e.1 with
  |some true=>some (some (i,e.2))
  |some false=>jm k es (i+1)
  |none=>none
def lx (z:List Value) (agg:Bool):Option AV:=
 if agg then some (.agg (z.map .sc)) else match z with
  |[v]=>some (.sc v)
  |_=>none
def freeze (o:Store):Nat→AV→Option AV
 |_,.ud=>some .ud
 |_,.sc v=>match v with
  | .slice none 0 0=>some (.sl 0 [])
  |v=>some (.sc v)
 |_,.sl n cs=>some (.sl n cs)
 |d+1,.agg cs=>(cs.mapM (freeze o d)).map .agg
 |d+1,.aD cs=>(cs.mapM (freeze o d)).map .aD
 |d+1,.fn f a b=>match a.mapM (freeze o d),b.mapM (freeze o d) with
  |some a',some b'=>some (.fn f a' b')
  |_,_=>none
 |d+1,.os id off len tot=>match o[id]? with
  |some (.cells cs _ sz pu)=>
   if cs.length=tot∧off+len*sz≤tot then
    if pu then some (.sl len ((cs.drop off).take (len*sz)))
    else match((cs.drop off).take (len*sz)).mapM (freeze o d) with
     |some cs'=>if bJ cs' then some (.sl len cs') else none
     |none=>none
   else none
  |_=>none
 |_,_=>none
mutual
def AV.ren (m:Nat→Option Nat):AV→Option AV
 | .ud=>some .ud
 | .sc v=>some (.sc v)
 | .sl n cs=>some (.sl n cs)
 | .ep cs off=>some (.ep cs off)
 | .agg cs=>(eM m cs).map .agg
 | .aD cs=>(eM m cs).map .aD
 | .ptr id off tot=>(m id).map fun i=> .ptr i off tot
 | .os id off len tot=>(m id).map fun i=> .os i off len tot
 | .mp id=>(m id).map .mp
 | .fn f a b=>match eM m a,eM m b with
  |some a',some b'=>some (.fn f a' b')
  |_,_=>none
def eM (m:Nat→Option Nat):List AV→Option (List AV)
 |[]=>some []
 |c::cs=>match c.ren m,eM m cs with
  |some c',some cs'=>some (c'::cs')
  |_,_=>none
end
def jF (m:Nat→Option Nat):List (Value×AV)→Option (List (Value×AV))
 |[]=>some []
 |e::es=>match e.2.ren m,jF m es with
  |some v,some es'=>some ((e.1,v)::es')
  |_,_=>none
def aP.ren (m:Nat→Option Nat):aP→Option aP
 | .dead=>some .dead
 | .cells cs e sz pu=>if pu then some (.cells cs e sz pu) else(eM m cs).map fun cs'=> .cells cs' e sz pu
 | .map es kt pu=>if pu then some (.map es kt pu) else(jF m es).map fun es'=> .map es' kt pu
def idxOf (ids:List Nat) (i:Nat) (k:Nat:=0):Option Nat:=
 match ids with
 |[]=>none
 |j::r=>if j==i then some k else idxOf r i (k+1)
def bq (o:Store):Nat→List AV→List Nat→List Nat
 |0,_,acc=>acc
 |_,[],acc=>acc
 |d+1,v::vs,acc=>
  let visit (id:Nat) (acc:List Nat):List Nat:=
   if acc.contains id then acc else
   match o[id]? with
   |some (.cells cs _ _ pu)=>if pu then acc++[id] else bq o d cs (acc++[id])
   |some (.map es _ pu)=>if pu then acc++[id] else bq o d (es.map (·.2)) (acc++[id])
   |_=>acc++[id]
  let acc':=match v with
   | .agg cs| .aD cs=>bq o d cs acc
   | .ptr id _ _| .os id _ _ _| .mp id=>visit id acc
   | .fn _ a b=>bq o d b (bq o d a acc)
   |_=>acc
  bq o d vs acc'
def dr:Nat:=400
def fV (o:Store) (ids:List Nat):List Nat→Option Store
 |[]=>some []
 |i::r=>match o[i]?,fV o ids r with
  |some x,some l=>(x.ren (fun j=>idxOf ids j)).map (·::l)
  |_,_=>none
def jG (ids:List Nat) (n i:Nat):Option Nat:=
 match ids[i]? with
 |some j=>some j
 |none=>some (n+(i - ids.length))
def mi (m:Nat→Option Nat):Store→Option Store
 |[]=>some []
 |x::r=>match x.ren m,mi m r with
  |some y,some l=>some (y::l)
  |_,_=>none
def gW (o:Store):List Nat→Store→Store
 |[],_=>o
 |_,[]=>o
 |i::r,x::l=>gW (o.set i x) r l
abbrev bB:=FuncId→List AV→Store→Bool→Option (AV×Store)
def eA (call:bB) (f:FuncId) (args:List AV) (o:Store):Option (AV×Store):=
 let ids:=bq o dr args []
 match eM (fun j=>idxOf ids j) args,fV o ids ids with
 |some args',some small=>match call f args' small true with
  |some (r,kh)=>
   if kh.length<ids.length∨ki ids=false then none else
   match r.ren (jG ids o.length),mi (jG ids o.length) kh with
   |some r',some big=>some (r',gW o ids (big.take ids.length)++big.drop ids.length)
   |_,_=>none
  |none=>none
 |_,_=>none
where ki:List Nat→Bool
 |[]=>true
 |a::r=>!r.contains a&&ki r
mutual
def AV.fW:AV→Bool
 | .ud| .sc _=>true
 | .agg cs| .aD cs=>oN cs
 | .sl _ cs=>cs.isEmpty
 |_=>false
def oN:List AV→Bool
 |[]=>true
 |c::cs=>c.fW&&oN cs
end
def cY (o:Store):Nat→AV→List Nat
 |d+1,.agg cs=>cs.flatMap (cY o d)
 |d+1,.aD cs=>cs.flatMap (cY o d)
 |d+1,.fn _ a b=>a.flatMap (cY o d)++b.flatMap (cY o d)
 |d+1,.os id off len _=>id::(match o[id]? with
  |some (.cells cs _ sz pu)=>if pu then[] else((cs.drop off).take (len*sz)).flatMap (cY o d)
  |_=>[])
 |_,_=>[]
def ee (call:bB) (f:FuncId) (args:List AV) (o:Store) (own:Bool):Option (AV×Store):=
 if own then eA call f args o
 else match args.mapM (freeze o 6) with
  |none=>none
  |some args'=>match call f args' [] false with
   |some (r,[])=>if(args.flatMap (cY o 6)).isEmpty||r.fW then some (r,o) else none
   |_=>none
def gu (parts:List (Nat×Nat×AV)) (cs:List AV):Option (List AV):=
 match parts with
 |[]=>some cs
 |(off,n,v)::rest=>
  if v.cellsOf.length=n∧cz v.cellsOf=true∧off+n≤cs.length then gu rest (dE cs off v.cellsOf) else none
def aL (call:bB) (op:bk) (ρ:Operand→AV) (o:Store) (am:Nat):Option (AV×Store):=
 match op with
 | .oG x=>some (ρ x,o)
 | .pick c a b=>match ρ c with
  | .sc (.bool true)=>some (ρ a,o)
  | .sc (.bool false)=>some (ρ b,o)
  |_=>none
 | .alloc z e pu=>(fU am (.cells (z.map .sc) e z.length pu) o).map fun o'=>(.ptr am 0 z.length,o')
 | .box e x=>if cz (ρ x).cellsOf then(fU am (.cells (ρ x).cellsOf e (ρ x).cellsOf.length false) o).map fun o'=>(.ptr am 0 (ρ x).cellsOf.length,o') else none
 | .build z parts=>(gu (parts.map fun p=>(p.1,p.2.1,ρ p.2.2)) (z.map .sc)).map fun cs=>(.agg cs,o)
 | .kg z len parts e sz=>
  match gu (parts.map fun p=>(p.1,sz,ρ p.2)) ((List.replicate len (z.map AV.sc)).flatten) with
  |some cs=>(fU am (.cells (cp (bJ cs) cs) e sz (bJ cs)) o).map fun o'=>(.os am 0 len (len*sz),o')
  |none=>none
 | .ng z len parts _ sz=>
  match gu (parts.map fun p=>(p.1,sz,ρ p.2)) ((List.replicate len (z.map AV.sc)).flatten) with
  |some cs=>if bJ cs=true then some (.sl len (cp true cs),o) else none
  |none=>none
 | .load n a=>match behind o (ρ a) with
  |some (cs,off)=>(dJ cs off n).map (·,o)
  |none=>none
 | .store n a x=>match ρ a with
  | .ptr id off tot=>match o[id]? with
   |some (.cells cs e sz pu)=>
    let v:=(ρ x).cellsOf
    if cs.length=tot∧v.length=n∧cz v=true∧off+n≤cs.length∧(pu=false∨bJ v=true) then some (.ud,o.set id (.cells (dE cs off (cp pu v)) e sz pu)) else none
   |_=>none
  |_=>none
 | .oH x=>match ρ x with
  | .ptr a b c=>some (.ptr a b c,o)
  | .ep a b=>some (.ep a b,o)
  |_=>none
 | .bin op x y=>match ρ x,ρ y with
  | .sc a,.sc b=>(dO op a b).map fun v=>(.sc v,o)
  |_,_=>none
 | .beq neg x y=>match ρ x,ρ y with
  | .sc (.bool a),.sc (.bool b)=>some (.sc (.bool (if neg then !(a==b) else a==b)),o)
  |_,_=>none
 | .mb neg ks x y=>match ρ x,ρ y with
  | .agg a,.agg b=>(qu ks a b).map fun r=>(.sc (.bool (if neg then !r else r)),o)
  |_,_=>none
 | .un op x=>(ni op (ρ x)).map (·,o)
 | .conv k x=>match ρ x with
  | .sc (.int _ n)=>some (.sc (.int k (cO k n)),o)
  |_=>none
 | .oJ off x=>(iL off (ρ x)).map (·,o)
 | .field off n x=>match ρ x with
  | .agg cs=>(dJ cs off n).map (·,o)
  |_=>none
 | .oK len sz x i=>match dU (ρ i) with
  |some n=>if 0≤n∧n<len then(iL (n.toNat*sz) (ρ x)).map (·,o) else none
  |none=>none
 | .me sz x i=>match dU (ρ i) with
  |some n=>(kM o sz (ρ x) n).map (·,o)
  |none=>none
 | .idx len sz n x i=>match dU (ρ i),ρ x with
  |some k,.agg cs=>if 0≤k∧k<len then(dJ cs (k.toNat*sz) n).map (·,o) else none
  |_,_=>none
 | .qs x i=>match dU (ρ i),ρ x with
  |some k,.sc (.string s)=>if 0≤k then(s[k.toNat]?).map fun b=>(.sc (.int .u8 b.toNat),o) else none
  |_,_=>none
 | .kJ z e sz bytes l c pu=>match dU (ρ l),dU (ρ c) with
  |some n,some m=>if 0≤n∧n≤m∧m*bytes≤140737488355328∧m≤1000000000000 then
    (fU am (.cells ((List.replicate n.toNat (cp pu (z.map AV.sc))).flatten) e sz pu) o).map fun o'=>(.os am 0 n.toNat (n.toNat*sz),o') else none
  |_,_=>none
 | .slice sz x lo hi=>(kO o sz (ρ x) (lo.map ρ) (hi.map ρ)).map (·,o)
 | .slice3 sz x lo hi mx=>(mh o sz (ρ x) (lo.map ρ) (ρ hi) (ρ mx)).map (·,o)
 | .oL x lo hi=>match ρ x with
  | .sc (.string s)=>match dP 0 (lo.map ρ),dP s.size (hi.map ρ) with
   |some l,some h=>if l≤h∧h≤s.size then some (.sc (.string (s.extract l h)),o) else none
   |_,_=>none
  |_=>none
 | .append e sz bytes s x pu=>kN e sz bytes pu (ρ s) (ρ x) o am
 | .len k x=>(gV o k (ρ x)).map fun(n:Nat)=>(.sc (.int .i64 n),o)
 | .oM n=>some (.sc (.int .i64 n),o)
 | .mm mx x y=>match ρ x,ρ y with
  | .sc (.int k a),.sc (.int k' b)=>if k=k' then some (.sc (.int k (if mx then(if b>a then b else a) else(if b<a then b else a))),o) else none
  |_,_=>none
 | .call f args own=>ee call f (args.map ρ) o own
 | .eF f args own=>match ρ f with
  | .fn (.func g) first captured=>ee call g (first++args.map ρ++captured) o own
  |_=>none
 | .extract x i=>match ρ x with
  | .aD vs=>(vs[i]?).map (·,o)
  |_=>none
 | .nh f first captured=>some (.fn f (first.map ρ) (captured.map ρ),o)
 | .kK kt pu=>(fU am (.map [] kt pu) o).map fun o'=>(.mp am,o')
 | .lookup z agg ks ka x k ok=>match ρ x,kP ks ka (ρ k) with
  | .mp id,some kv=>match o[id]? with
   |some (.map es kt _)=>if kt=(ks,ka) then match jm kv es 0,lx z agg with
    |some (some (_,v)),_=>some (if ok then .aD [v,.sc (.bool true)] else v,o)
    |some none,some v=>some (if ok then .aD [v,.sc (.bool false)] else v,o)
    |_,_=>none
    else none
   |_=>none
  |_,_=>none
 | .lv ks ka x k v=>match ρ x,kP ks ka (ρ k) with
  | .mp id,some kv=>match o[id]? with
   |some (.map es kt pu)=>
    if(pu=true∧(ρ v).pure=false)∨kt≠(ks,ka) then none else
    match jm kv es 0 with
    |some (some (i,_))=>some (.ud,o.set id (.map (es.modify i fun _=>(kv,ρ v)) kt pu))
    |some none=>some (.ud,o.set id (.map (es++[(kv,ρ v)]) kt pu))
    |none=>none
   |_=>none
  |_,_=>none
def M6 (x:Operand) (_call:bB) (ρ:Operand→AV) (o:Store) (_nid:Nat):Option (AV×Store):=some (ρ x,o)
def M7 (c:Operand) (a:Operand) (b:Operand) (_call:bB) (ρ:Operand→AV) (o:Store) (_nid:Nat):Option (AV×Store):=match ρ c with
  | .sc (.bool true)=>some (ρ a,o)
  | .sc (.bool false)=>some (ρ b,o)
  |_=>none
def M8 (z:List Value) (e:TypeId) (pu:Bool) (_call:bB) (_ρ:Operand→AV) (o:Store) (am:Nat):Option (AV×Store):=(fU am (.cells (z.map .sc) e z.length pu) o).map fun o'=>(.ptr am 0 z.length,o')
def M9 (e:TypeId) (x:Operand) (_call:bB) (ρ:Operand→AV) (o:Store) (am:Nat):Option (AV×Store):=if cz (ρ x).cellsOf then(fU am (.cells (ρ x).cellsOf e (ρ x).cellsOf.length false) o).map fun o'=>(.ptr am 0 (ρ x).cellsOf.length,o') else none
def Na (z:List Value) (parts:List (Nat×Nat×Operand)) (_call:bB) (ρ:Operand→AV) (o:Store) (_nid:Nat):Option (AV×Store):=(gu (parts.map fun p=>(p.1,p.2.1,ρ p.2.2)) (z.map .sc)).map fun cs=>(.agg cs,o)
def Nb (z:List Value) (len:Nat) (parts:List (Nat×Operand)) (e:TypeId) (sz:Nat) (_call:bB) (ρ:Operand→AV) (o:Store) (am:Nat):Option (AV×Store):=
  match gu (parts.map fun p=>(p.1,sz,ρ p.2)) ((List.replicate len (z.map AV.sc)).flatten) with
  |some cs=>(fU am (.cells (cp (bJ cs) cs) e sz (bJ cs)) o).map fun o'=>(.os am 0 len (len*sz),o')
  |none=>none
def Nc (z:List Value) (len:Nat) (parts:List (Nat×Operand)) (_a3:TypeId) (sz:Nat) (_call:bB) (ρ:Operand→AV) (o:Store) (_nid:Nat):Option (AV×Store):=
  match gu (parts.map fun p=>(p.1,sz,ρ p.2)) ((List.replicate len (z.map AV.sc)).flatten) with
  |some cs=>if bJ cs=true then some (.sl len (cp true cs),o) else none
  |none=>none
def Nh (n:Option Nat) (a:Operand) (_call:bB) (ρ:Operand→AV) (o:Store) (_nid:Nat):Option (AV×Store):=match behind o (ρ a) with
  |some (cs,off)=>(dJ cs off n).map (·,o)
  |none=>none
def Ni (n:Nat) (a:Operand) (x:Operand) (_call:bB) (ρ:Operand→AV) (o:Store) (_nid:Nat):Option (AV×Store):=match ρ a with
  | .ptr id off tot=>match o[id]? with
   |some (.cells cs e sz pu)=>
    let v:=(ρ x).cellsOf
    if cs.length=tot∧v.length=n∧cz v=true∧off+n≤cs.length∧(pu=false∨bJ v=true) then some (.ud,o.set id (.cells (dE cs off (cp pu v)) e sz pu)) else none
   |_=>none
  |_=>none
def Nj (x:Operand) (_call:bB) (ρ:Operand→AV) (o:Store) (_nid:Nat):Option (AV×Store):=match ρ x with
  | .ptr a b c=>some (.ptr a b c,o)
  | .ep a b=>some (.ep a b,o)
  |_=>none
def Nk (op:BinOp) (x:Operand) (y:Operand) (_call:bB) (ρ:Operand→AV) (o:Store) (_nid:Nat):Option (AV×Store):=match ρ x,ρ y with
  | .sc a,.sc b=>(dO op a b).map fun v=>(.sc v,o)
  |_,_=>none
def Nl (neg:Bool) (x:Operand) (y:Operand) (_call:bB) (ρ:Operand→AV) (o:Store) (_nid:Nat):Option (AV×Store):=match ρ x,ρ y with
  | .sc (.bool a),.sc (.bool b)=>some (.sc (.bool (if neg then !(a==b) else a==b)),o)
  |_,_=>none
def Nn (neg:Bool) (ks:List Nat) (x:Operand) (y:Operand) (_call:bB) (ρ:Operand→AV) (o:Store) (_nid:Nat):Option (AV×Store):=match ρ x,ρ y with
  | .agg a,.agg b=>(qu ks a b).map fun r=>(.sc (.bool (if neg then !r else r)),o)
  |_,_=>none
def Np (op:UnOp) (x:Operand) (_call:bB) (ρ:Operand→AV) (o:Store) (_nid:Nat):Option (AV×Store):=(ni op (ρ x)).map (·,o)
def Nq (k:IntKind) (x:Operand) (_call:bB) (ρ:Operand→AV) (o:Store) (_nid:Nat):Option (AV×Store):=match ρ x with
  | .sc (.int _ n)=>some (.sc (.int k (cO k n)),o)
  |_=>none
def Nr (off:Nat) (x:Operand) (_call:bB) (ρ:Operand→AV) (o:Store) (_nid:Nat):Option (AV×Store):=(iL off (ρ x)).map (·,o)
def Ns (off:Nat) (n:Option Nat) (x:Operand) (_call:bB) (ρ:Operand→AV) (o:Store) (_nid:Nat):Option (AV×Store):=match ρ x with
  | .agg cs=>(dJ cs off n).map (·,o)
  |_=>none
def Nu (len:Nat) (sz:Nat) (x:Operand) (i:Operand) (_call:bB) (ρ:Operand→AV) (o:Store) (_nid:Nat):Option (AV×Store):=match dU (ρ i) with
  |some n=>if 0≤n∧n<len then(iL (n.toNat*sz) (ρ x)).map (·,o) else none
  |none=>none
def Nv (sz:Nat) (x:Operand) (i:Operand) (_call:bB) (ρ:Operand→AV) (o:Store) (_nid:Nat):Option (AV×Store):=match dU (ρ i) with
  |some n=>(kM o sz (ρ x) n).map (·,o)
  |none=>none
def Nw (len:Nat) (sz:Nat) (n:Option Nat) (x:Operand) (i:Operand) (_call:bB) (ρ:Operand→AV) (o:Store) (_nid:Nat):Option (AV×Store):=match dU (ρ i),ρ x with
  |some k,.agg cs=>if 0≤k∧k<len then(dJ cs (k.toNat*sz) n).map (·,o) else none
  |_,_=>none
def Nx (x:Operand) (i:Operand) (_call:bB) (ρ:Operand→AV) (o:Store) (_nid:Nat):Option (AV×Store):=match dU (ρ i),ρ x with
  |some k,.sc (.string s)=>if 0≤k then(s[k.toNat]?).map fun b=>(.sc (.int .u8 b.toNat),o) else none
  |_,_=>none
def Ny (z:List Value) (e:TypeId) (sz:Nat) (bytes:Nat) (l:Operand) (c:Operand) (pu:Bool) (_call:bB) (ρ:Operand→AV) (o:Store) (am:Nat):Option (AV×Store):=match dU (ρ l),dU (ρ c) with
  |some n,some m=>if 0≤n∧n≤m∧m*bytes≤140737488355328∧m≤1000000000000 then
    (fU am (.cells ((List.replicate n.toNat (cp pu (z.map AV.sc))).flatten) e sz pu) o).map fun o'=>(.os am 0 n.toNat (n.toNat*sz),o') else none
  |_,_=>none
def Nz (sz:Nat) (x:Operand) (lo:Option Operand) (hi:Option Operand) (_call:bB) (ρ:Operand→AV) (o:Store) (_nid:Nat):Option (AV×Store):=(kO o sz (ρ x) (lo.map ρ) (hi.map ρ)).map (·,o)
def NA (sz:Nat) (x:Operand) (lo:Option Operand) (hi:Operand) (mx:Operand) (_call:bB) (ρ:Operand→AV) (o:Store) (_nid:Nat):Option (AV×Store):=(mh o sz (ρ x) (lo.map ρ) (ρ hi) (ρ mx)).map (·,o)
def NB (x:Operand) (lo:Option Operand) (hi:Option Operand) (_call:bB) (ρ:Operand→AV) (o:Store) (_nid:Nat):Option (AV×Store):=match ρ x with
  | .sc (.string s)=>match dP 0 (lo.map ρ),dP s.size (hi.map ρ) with
   |some l,some h=>if l≤h∧h≤s.size then some (.sc (.string (s.extract l h)),o) else none
   |_,_=>none
  |_=>none
def NC (e:TypeId) (sz:Nat) (bytes:Nat) (s:Operand) (x:Operand) (pu:Bool) (_call:bB) (ρ:Operand→AV) (o:Store) (am:Nat):Option (AV×Store):=kN e sz bytes pu (ρ s) (ρ x) o am
def ND (k:Nat) (x:Operand) (_call:bB) (ρ:Operand→AV) (o:Store) (_nid:Nat):Option (AV×Store):=(gV o k (ρ x)).map fun(n:Nat)=>(.sc (.int .i64 n),o)
def NE (n:Nat) (_call:bB) (_ρ:Operand→AV) (o:Store) (_nid:Nat):Option (AV×Store):=some (.sc (.int .i64 n),o)
def NF (mx:Bool) (x:Operand) (y:Operand) (_call:bB) (ρ:Operand→AV) (o:Store) (_nid:Nat):Option (AV×Store):=match ρ x,ρ y with
  | .sc (.int k a),.sc (.int k' b)=>if k=k' then some (.sc (.int k (if mx then(if b>a then b else a) else(if b<a then b else a))),o) else none
  |_,_=>none
def NG (f:FuncId) (args:List Operand) (own:Bool) (call:bB) (ρ:Operand→AV) (o:Store) (_nid:Nat):Option (AV×Store):=ee call f (args.map ρ) o own
def FY (f:Operand) (args:List Operand) (own:Bool) (call:bB) (ρ:Operand→AV) (o:Store) (_nid:Nat):Option (AV×Store):=match ρ f with
  | .fn (.func g) first captured=>ee call g (first++args.map ρ++captured) o own
  |_=>none
def NH (x:Operand) (i:Nat) (_call:bB) (ρ:Operand→AV) (o:Store) (_nid:Nat):Option (AV×Store):=match ρ x with
  | .aD vs=>(vs[i]?).map (·,o)
  |_=>none
def NI (f:Fn) (first:List Operand) (captured:List Operand) (_call:bB) (ρ:Operand→AV) (o:Store) (_nid:Nat):Option (AV×Store):=some (.fn f (first.map ρ) (captured.map ρ),o)
def NJ (kt:List Nat×Bool) (pu:Bool) (_call:bB) (_ρ:Operand→AV) (o:Store) (am:Nat):Option (AV×Store):=(fU am (.map [] kt pu) o).map fun o'=>(.mp am,o')
def NK (z:List Value) (agg:Bool) (ks:List Nat) (ka:Bool) (x:Operand) (k:Operand) (ok:Bool) (_call:bB) (ρ:Operand→AV) (o:Store) (_nid:Nat):Option (AV×Store):=match ρ x,kP ks ka (ρ k) with
  | .mp id,some kv=>match o[id]? with
   |some (.map es kt _)=>if kt=(ks,ka) then match jm kv es 0,lx z agg with
    |some (some (_,v)),_=>some (if ok then .aD [v,.sc (.bool true)] else v,o)
    |some none,some v=>some (if ok then .aD [v,.sc (.bool false)] else v,o)
    |_,_=>none
    else none
   |_=>none
  |_,_=>none
def NL (ks:List Nat) (ka:Bool) (x:Operand) (k:Operand) (v:Operand) (_call:bB) (ρ:Operand→AV) (o:Store) (_nid:Nat):Option (AV×Store):=match ρ x,kP ks ka (ρ k) with
  | .mp id,some kv=>match o[id]? with
   |some (.map es kt pu)=>
    if(pu=true∧(ρ v).pure=false)∨kt≠(ks,ka) then none else
    match jm kv es 0 with
    |some (some (i,_))=>some (.ud,o.set id (.map (es.modify i fun _=>(kv,ρ v)) kt pu))
    |some none=>some (.ud,o.set id (.map (es++[(kv,ρ v)]) kt pu))
    |none=>none
   |_=>none
  |_,_=>none
def FZ (op:bk):bB→(Operand→AV)→Store→Nat→Option (AV×Store):=
 match op with
 | .oG x=>M6 x
 | .pick c a b=>M7 c a b
 | .alloc z e pu=>M8 z e pu
 | .box e x=>M9 e x
 | .build z parts=>Na z parts
 | .kg z len parts e sz=>Nb z len parts e sz
 | .ng z len parts a3 sz=>Nc z len parts a3 sz
 | .load n a=>Nh n a
 | .store n a x=>Ni n a x
 | .oH x=>Nj x
 | .bin op x y=>Nk op x y
 | .beq neg x y=>Nl neg x y
 | .mb neg ks x y=>Nn neg ks x y
 | .un op x=>Np op x
 | .conv k x=>Nq k x
 | .oJ off x=>Nr off x
 | .field off n x=>Ns off n x
 | .oK len sz x i=>Nu len sz x i
 | .me sz x i=>Nv sz x i
 | .idx len sz n x i=>Nw len sz n x i
 | .qs x i=>Nx x i
 | .kJ z e sz bytes l c pu=>Ny z e sz bytes l c pu
 | .slice sz x lo hi=>Nz sz x lo hi
 | .slice3 sz x lo hi mx=>NA sz x lo hi mx
 | .oL x lo hi=>NB x lo hi
 | .append e sz bytes s x pu=>NC e sz bytes s x pu
 | .len k x=>ND k x
 | .oM n=>NE n
 | .mm mx x y=>NF mx x y
 | .call f args own=>NG f args own
 | .eF f args own=>FY f args own
 | .extract x i=>NH x i
 | .nh f first captured=>NI f first captured
 | .kK kt pu=>NJ kt pu
 | .lookup z agg ks ka x k ok=>NK z agg ks ka x k ok
 | .lv ks ka x k v=>NL ks ka x k v
def ly (call:bB) (op:bk) (ρ:Operand→AV) (o:Store) (am:Nat):Option (AV×Store):=FZ op call ρ o am
theorem qw (call:bB) (op:bk) (ρ:Operand→AV) (o:Store) (am:Nat):ly call op ρ o am=aL call op ρ o am:=by
 cases op<;>rfl
def fY (env:dI) (g:Option (Option Nat×Bool)):Option Bool:=
 match g with
 |none=>some true
 |some (none,_)=>none
 |some (some s,b)=>match bE env s with
  | .sc (.bool c)=>some (c==b)
  | .aD []=>some false
  |_=>none
def dh (call:bB) (base:Nat) (i:bA) (st:St):Option St:=
 match fY st.env i.guard with
 |none=>none
 |some false=>some ⟨jl st.env i.dst (.aD []),st.o⟩
 |some true=>match ly call i.op (b8 st.env) st.o (base+i.am) with
  |some (v,o')=>some ⟨jl st.env i.dst v,o'⟩
  |none=>none
def dF (call:bB) (base:Nat):List bA→St→Option St
 |[],st=>some st
 |i::r,st=>match dh call base i st with
  |some st'=>dF call base r st'
  |none=>none
def cZ:AV→List Nat
 | .ptr id _ _=>[id]
 | .os id _ _ _=>[id]
 | .mp id=>[id]
 |_=>[]
def bV (op:bk) (ρ:Operand→AV) (o:Store) (am:Nat):List Nat:=
 match op with
 | .load _ a=>cZ (ρ a)
 | .me _ x _=>cZ (ρ x)
 | .slice _ x _ _=>cZ (ρ x)
 | .slice3 _ x _ _ _=>cZ (ρ x)
 | .len _ x=>cZ (ρ x)
 | .lookup _ _ _ _ x _ _=>cZ (ρ x)
 | .call _ args false=>(args.map ρ).flatMap (cY o 6)
 | .eF f args false=>match ρ f with
  | .fn _ first captured=>(first++args.map ρ++captured).flatMap (cY o 6)
  |_=>[]
 | .call _ args true=>bq o dr (args.map ρ) []
 | .eF f args true=>match ρ f with
  | .fn _ first captured=>bq o dr (first++args.map ρ++captured) []
  |_=>[]
 | .alloc .. | .box .. | .kg .. | .kJ .. | .kK .. =>[am]
 | .store _ a _=>cZ (ρ a)
 | .append _ _ _ s x _=>am::(cZ (ρ s)++cZ (ρ x))
 | .lv _ _ x _ _=>cZ (ρ x)
 |_=>[]
def wrt (op:bk) (ρ:Operand→AV) (o:Store) (am:Nat):List Nat:=
 match op with
 | .alloc .. | .box .. | .kg .. | .kJ .. | .kK .. =>[am]
 | .store _ a _=>cZ (ρ a)
 | .append _ _ _ s _ _=>am::cZ (ρ s)
 | .call _ args true=>bq o dr (args.map ρ) []
 | .eF f args true=>match ρ f with
  | .fn _ first captured=>bq o dr (first++args.map ρ++captured) []
  |_=>[]
 | .lv _ _ x _ _=>cZ (ρ x)
 |_=>[]
open Classical in
noncomputable def cu (call:bB) (op:bk) (ρ:Operand→AV) (o:Store) (am:Nat):List Nat:=
 match op with
 | .call f args true=>match eA call f (args.map ρ) o with
  |some (_,o')=>(bq o dr (args.map ρ) []).filter fun j=>decide (o'[j]?≠o[j]?)
  |none=>[]
 |op=>wrt op ρ o am
abbrev Trace:=List (Nat×List Nat×List Nat)
noncomputable def ix (call:bB) (base:Nat):List bA→St→Trace
 |[],_=>[]
 |i::r,st=>(match fY st.env i.guard with
   |some true=>(i.idx,bV i.op (b8 st.env) st.o (base+i.am),cu call i.op (b8 st.env) st.o (base+i.am))
   |_=>(i.idx,[],[]))::match dh call base i st with
  |some st'=>ix call base r st'
  |none=>[]
def qx (a b:List Nat):Bool:=a.all fun x=>!b.contains x
def kQ (tr:Trace) (i:Nat):List Nat×List Nat:=
 match tr with
 |[]=>([],[])
 |(j,x)::r=>if j==i then x else kQ r i
def nj (n:Nat) (tr:Trace) (b6:List (Nat×Nat)):Bool:=
 b6.all fun p=>let a:=kQ tr p.1;let b:=kQ tr p.2;qx a.2 b.1&&qx b.2 a.1&&a.1.all (fun i=>decide (i<n))&&b.1.all (fun i=>decide (i<n))
def di (k:Nat):Store:=List.replicate k .dead
def kj (base:Nat) (o:Store):Store:=if(o.drop base).all (·.iK) then o.take base else o
noncomputable def km (call:bB) (k:Nat) (ops:List bA) (b6:List (Nat×Nat)) (st:St):Option St:=
 let st0:St:=⟨st.env,st.o++di k⟩
 match dF call st.o.length ops st0 with
 |some st'=>if b6.isEmpty||nj st0.o.length (ix call st.o.length ops st0) b6 then some ⟨st'.env,if k=0 then st'.o else kj st.o.length st'.o⟩ else none
 |none=>none
mutual
def AV.aX (o:Store) (p:Nat→Bool):AV→Option AV
 | .os id off len tot=>if p id then match o[id]? with
   |some (.cells cs _ sz pu)=>if pu then(if cs.length=tot∧off+len*sz≤tot then some (.sl len ((cs.drop off).take (len*sz))) else none) else some (.os id off len tot)
   |_=>some (.os id off len tot)
  else some (.os id off len tot)
 | .ptr id off tot=>if p id then match o[id]? with
   |some (.cells _ _ _ pu)=>if pu then none else some (.ptr id off tot)
   |_=>some (.ptr id off tot)
  else some (.ptr id off tot)
 | .agg cs=>(dL o p cs).map .agg
 | .aD cs=>(dL o p cs).map .aD
 | .fn f a b=>match dL o p a,dL o p b with
  |some a',some b'=>some (.fn f a' b')
  |_,_=>none
 |v=>some v
def dL (o:Store) (p:Nat→Bool):List AV→Option (List AV)
 |[]=>some []
 |c::cs=>match c.aX o p,dL o p cs with
  |some c',some cs'=>some (c'::cs')
  |_,_=>none
end
def kR (o:Store) (p:Nat→Bool):List (Value×AV)→Option (List (Value×AV))
 |[]=>some []
 |e::es=>match e.2.aX o p,kR o p es with
  |some v,some es'=>some ((e.1,v)::es')
  |_,_=>none
def aP.aX (o:Store) (p:Nat→Bool):aP→Option aP
 | .dead=>some .dead
 | .cells cs e sz pu=>if pu then some (.cells cs e sz pu) else(dL o p cs).map fun cs'=> .cells cs' e sz pu
 | .map es kt pu=>if pu then some (.map es kt pu) else(kR o p es).map fun es'=> .map es' kt pu
def eV (o:Store) (p:Nat→Bool):Store→Option Store
 |[]=>some []
 |x::r=>match x.aX o p,eV o p r with
  |some y,some l=>some (y::l)
  |_,_=>none
def dx (p:Nat→Bool):Nat→Store→Store
 |_,[]=>[]
 |i,x::r=>(match x with
  | .cells cs e sz true=>if p i then .dead else .cells cs e sz true
  |x=>x)::dx p (i+1) r
def oO (o:Store) (p:Nat→Bool):dI→Option dI
 |[]=>some []
 |(k,v)::r=>match v.aX o p,oO o p r with
  |some v',some r'=>some ((k,v')::r')
  |_,_=>none
def vi (h:gq) (st:St):Option AV:=
 match h.off with
 |none=>some (bE st.env h.slot)
 |some k=>match behind st.o (bE st.env h.slot) with
  |some (cs,off)=>cs[off+k]?
  |none=>none
def vj (id:Nat) (st:St):St:=
 match st.o[id]? with
 |some (.cells cs e sz true)=>⟨st.env,st.o.set id (.cells cs e sz false)⟩
 |_=>st
def vk (h:gq) (st:St):St:=
 match h.off with
 |none=>match bE st.env h.slot with
  | .sc (.slice none 0 0)=>⟨(h.slot,.os st.o.length 0 0 0)::st.env,st.o++[.cells [] h.e h.sz h.pu]⟩
  | .os id _ _ _=>if h.sz=0 then vj id st else st
  |_=>st
 |some k=>match bE st.env h.slot with
  | .ptr id off tot=>match st.o[id]? with
   |some (.cells cs e sz pu)=>match cs[off+k]? with
    |some (.sc (.slice none 0 0))=>
     if cs.length=tot∧pu=false then⟨st.env,(st.o.set id (.cells (cs.set (off+k) (.os st.o.length 0 0 0)) e sz pu))++[.cells [] h.e h.sz h.pu]⟩ else st
    |_=>st
   |_=>st
  |_=>st
def vl (id:Nat) (st:St):St:=
 let p:Nat→Bool:=fun i=>i==id
 match oO st.o p st.env,eV st.o p st.o with
 |some env,some o=>⟨env,dx p 0 o⟩
 |_,_=>st
def oP (id:Nat) (st:St):St:=
 match st.o[id]? with
 |some (.cells cs e sz false)=>if bJ cs then⟨st.env,st.o.set id (.cells cs e sz true)⟩ else st
 |_=>st
def eN (lo:Nat) (h:gq) (st:St):St:=
 if h.own then vk h st
 else match vi h st with
  |some (.os id _ _ _)=>if Nat.ble lo id then vl id (oP id st) else st
  |_=>st
def prune (live:List Nat) (env:dI):dI:=live.map fun s=>(s,bE env s)
inductive Out where
 |norm
 |exit (id:Nat)
 |ret
 |goto (l:Nat)
 deriving DecidableEq
def trim (k:Nat) (st:St):St:=
 if st.o.length≤k then st
 else if(st.env.all fun p=>p.2.a6 k)&&((st.o.take k).all fun x=>x.a6 k) then⟨st.env,st.o.take k⟩ else st
structure iN where
 slot:Nat
 cell:Option (Option Nat)
structure aT where
 params:Nat
 ntmps:Nat
 body:IR
 res:List iN
def lz (st:St) (r:iN):Option AV:=
 match r.cell with
 |none=>some (bE st.env r.slot)
 |some n=>match behind st.o (bE st.env r.slot) with
  |some (cs,off)=>dJ cs off n
  |none=>none
def gX (st:St) (rs:List iN):Option AV:=
 match rs.mapM (lz st) with
 |some [v]=>some v
 |some vs=>some (.aD vs)
 |none=>none
def fe (k:Nat) (r:AV) (o:Store):Option (AV×Store):=
 match r.aX o (fun i=>decide (k≤i)),eV o (fun i=>decide (k≤i)) o with
 |some r1,some o1=>
  let o2:=dx (fun i=>decide (k≤i)) 0 o1
  let ids:=bq o2 dr (r1::(o2.take k).flatMap aP.oQ) (List.range k)
  if eA.ki ids then
   match r1.ren (fun j=>idxOf ids j),fV o2 ids ids with
   |some r2,some s2=>some (r2,s2)
   |_,_=>none
  else none
 |_,_=>none
where aP.oQ:aP→List AV
 | .cells cs _ _ pu=>if pu then[] else cs
 | .map es _ pu=>if pu then[] else es.map (·.2)
 | .dead=>[]
def finish (own:Bool) (k:Nat) (r:AV) (o:Store):Option (AV×Store):=
 if own then fe k r o
 else match k with
  |0=>match freeze o 6 r with
   |some r'=>some (r',[])
   |none=>none
  |_+1=>none
def dW:Nat→List AV→dI
 |_,[]=>[]
 |i,v::vs=>(i,v)::dW (i+1) vs
structure Tab where
 fn:FuncId→Option aT
 K:bB
def oR (ex:IR→St→Option (Out×St)):IR→St→Option St
 | .skip,st=>some st
 | .seq x y,st=>match ex x st with
  |some (.norm,st')=>oR ex y st'
  |_=>none
 |_,_=>none
def qy:Out→Bool
 | .norm| .ret=>true
 |_=>false
def F3 (ex:Nat→IR→St→Option (Out×St)) (F:Option aT) (cs:List AV) (s:St):Option (Out×St):=match F with
 |some F=>if cs.length=F.params∧F.res.isEmpty=true then match ex s.o.length F.body ⟨dW 0 cs,s.o⟩ with
  |some (out,s3)=>if qy out=true then some (.ret,⟨s.env,s3.o⟩) else none
  |none=>none else none
 |none=>none
def oU (T:Tab) (ex:Nat→IR→St→Option (Out×St)) (lo:Nat) (c:IR) (st:St):Option (Out×St):=match c with
 | .qt g caps d a b=>match oR (ex lo) a st with
  |some s0=>match ex s0.o.length b ⟨(d,.ud)::s0.env,s0.o⟩ with
   |some (out,s2)=>if qy out=true then F3 ex (T.fn g) (caps.map (b8 s0.env)) s2 else none
   |none=>none
  |none=>none
 |c=>ex lo c st
def kS (T:Tab) (ex:Nat→IR→St→Option (Out×St)):bB:=fun f args o own=>
 match T.K f args o own with
 |some r=>some r
 |none=>match T.fn f with
  |none=>none
  |some F=>if args.length=F.params then
    match oU T ex o.length F.body ⟨dW 0 args,o⟩ with
    |some (.norm,st)|some (.ret,st)=>match gX st F.res with
     |some r=>finish own o.length r st.o
     |none=>none
    |_=>none
   else none
def lA (t:Nat):dI→dI
 |[]=>[]
 |p::r=>bif Nat.beq p.1 t then lA t r else p::lA t r
def kn (x:Operand) (env:dI):dI:=
 match x with
 | .tmp t=>lA t env
 |_=>env
abbrev YO:=List AV→Store→Option (AV×Store)
inductive Md where
 |plain
 |round
 |iter (y:YO)
mutual
def AV.bL:AV→Bool
 | .agg cs| .aD cs=>dX cs
 | .fn (.yield _) _ _=>false
 | .fn _ a b=>dX a&&dX b
 |_=>true
def dX:List AV→Bool
 |[]=>true
 |c::cs=>c.bL&&dX cs
end
def aP.bL:aP→Bool
 | .dead=>true
 | .cells cs _ _ pu=>pu||dX cs
 | .map es _ pu=>pu||dX (es.map (·.2))
def mj (call:bB) (y:YO) (base:Nat) (i:bA) (st:St):Option St:=
 match i.op with
 | .eF x args _=>match b8 st.env x with
  | .fn (.yield _) [] []=>match fY st.env i.guard with
   |none=>none
   |some false=>some ⟨jl st.env i.dst (.aD []),st.o⟩
   |some true=>match y (args.map (b8 st.env)) st.o with
    |some (v,o')=>some ⟨jl st.env i.dst v,o'⟩
    |none=>none
  |_=>dh call base i st
 |_=>dh call base i st
def mo (call:bB) (y:YO) (base:Nat):List bA→St→Option St
 |[],st=>some st
 |i::r,st=>match mj call y base i st with
  |some st'=>mo call y base r st'
  |none=>none
def sO (call:bB) (y:YO) (k:Nat) (ops:List bA) (st:St):Option St:=
 match mo call y st.o.length ops ⟨st.env,st.o++di k⟩ with
 |some st'=>some ⟨st'.env,if k=0 then st'.o else kj st.o.length st'.o⟩
 |none=>none
noncomputable def qA (md:Md) (draw:Bool) (call:bB) (k:Nat) (ops:List bA) (b6:List (Nat×Nat)) (st:St):Option St:=
 match md,draw with
 | .iter y,false=>sO call y k ops st
 |_,_=>km call k ops b6 st
def ko:List Nat→List AV→dI→dI
 |p::ps,v::vs,env=>ko ps vs ((p,v)::env)
 |_,_,env=>env
noncomputable def exec (T:Tab):Md→Nat→Nat→IR→St→Option (Out×St)
 |_,0,_,_,_=>none
 |md,n+1,lo,c,st=>
  match c with
  | .skip=>some (.norm,st)
  | .region _ draw k ops b6 live pre post=>match qA md draw (kS T (exec T .plain n)) k ops b6 (pre.foldl (fun s h=>eN lo h s) st) with
   |some st'=>some (.norm,post.foldl (fun s h=>eN lo h s) ⟨prune live st'.env,st'.o⟩)
   |none=>none
  | .seq a b=>match exec T md n lo a st with
   |some (.norm,st')=>exec T md n lo b st'
   |r=>r
  | .cond x a b=>match b8 st.env x with
   | .sc (.bool true)=>exec T md n lo a ⟨kn x st.env,st.o⟩
   | .sc (.bool false)=>exec T md n lo b ⟨kn x st.env,st.o⟩
   |_=>none
  | .block id b=>match exec T md n lo b st with
   |some (.exit id',st')=>if id'=id then some (.norm,st') else some (.exit id',st')
   |r=>r
  | .loop b=>match exec T md n lo b st with
   |some (.norm,st')=>exec T md n lo (.loop b) (trim st.o.length st')
   |r=>r
  | .exit id=>some (.exit id,st)
  | .ret=>some (.ret,st)
  | .goto l=>some (.goto l,st)
  | .jE x a b=>match b8 st.env x with
   | .sc (.bool true)=>exec T md n lo a st
   | .sc (.bool false)=>exec T md n lo b st
   |_=>none
  | .turns l b=>match exec T md n lo b st with
   |some (.goto l',st')=>if l=some l' then exec T md n lo (.turns l b) (trim st.o.length st') else none
   |r=>r
  | .qt .. =>none
  | .each x ps az bd=>match md,b8 st.env x with
   | .plain,.fn (.func f) first captured=>match T.fn f with
    |some F=>
     if first.length+1+captured.length=F.params∧st.env.all (fun p=>p.2.bL)=true∧st.o.all aP.bL=true then
      match exec T (.iter fun vs o=>if vs.length=ps.length then
        match exec T .round n o.length az ⟨ko ps vs st.env,o⟩ with
        |some (.norm,st1)=>match exec T .round n st1.o.length bd st1 with
         |some (.norm,st2)=>some (.sc (.bool true),(trim o.length ⟨[],st2.o⟩).o)
         |_=>none
        |_=>none
       else none) n st.o.length F.body ⟨dW 0 (first++[.fn (.yield 0) [] []]++captured),st.o⟩ with
      |some (.norm,st2)|some (.ret,st2)=>match gX st2 F.res with
       |some r=>match fe st.o.length r st2.o with
        |some (_,o')=>if o'.all aP.bL=true then some (.norm,⟨st.env,o'⟩) else none
        |none=>none
       |none=>none
      |_=>none
     else none
    |none=>none
   |_,_=>none
def bk.ff:bk→List Operand
 | .oG x| .box _ x| .load _ x| .oH x| .un _ x| .conv _ x| .oJ _ x| .field _ _ x| .len _ x| .extract x _=>[x]
 | .pick c a b=>[c,a,b]
 | .alloc .. | .oM _| .kK .. =>[]
 | .build _ ps=>ps.map (·.2.2)
 | .kg _ _ ps _ _| .ng _ _ ps _ _=>ps.map (·.2)
 | .store _ a x=>[a,x]
 | .bin _ x y| .beq _ x y| .mb _ _ x y| .mm _ x y=>[x,y]
 | .oK _ _ x i| .me _ x i| .idx _ _ _ x i| .qs x i=>[x,i]
 | .kJ _ _ _ _ l c _=>[l,c]
 | .slice _ x lo hi| .oL x lo hi=>x::(lo.toList++hi.toList)
 | .slice3 _ x lo hi mx=>x::hi::mx::lo.toList
 | .append _ _ _ s x _=>[s,x]
 | .call _ args _=>args
 | .eF f args _=>f::args
 | .nh _ a b=>a++b
 | .lookup _ _ _ _ x k _=>[x,k]
 | .lv _ _ x k v=>[x,k,v]
def bk.cls:bk→Nat
 | .oG _| .pick .. | .build .. | .ng .. | .oH _| .bin .. | .beq .. | .mb .. | .un .. | .conv .. | .oJ .. | .field .. | .oK .. | .idx .. | .qs .. | .oL .. | .oM _
 | .mm .. | .extract .. | .nh .. =>0
 | .load .. | .me .. | .slice .. | .slice3 .. | .len .. | .lookup .. | .call _ _ false| .eF _ _ false=>1
 | .alloc .. | .box .. | .kg .. | .kJ .. | .kK .. | .store .. | .append .. | .lv .. =>2
 | .call _ _ true| .eF _ _ true=>3
def bk.makes:bk→Bool
 | .alloc .. | .box .. | .kg .. | .kJ .. | .kK .. | .append .. =>true
 |_=>false
def tmpsOf (l:List Operand):List Nat:=l.filterMap fun| .tmp t=>some t|_=>none
def bA.reads (i:bA):List Nat:=
 tmpsOf i.op.ff++(match i.guard with|some (some s,_)=>[s]|_=>[])
def vm (d:Option Nat) (l:List Nat):Bool:=match d with|none=>true|some d=>!l.contains d
def sP (a b:bA):Bool:=
 vm a.dst b.reads&&vm b.dst a.reads&&(match a.dst,b.dst with|some x,some y=>x !=y|_,_=>true)
def qB (a b:bA):Bool:=a.op.cls==0||b.op.cls==0||(a.op.cls==1&&b.op.cls==1)
def vn (a b:bA):Bool:=a.op.cls !=3||b.op.cls !=3
def qC:Nat→List Oper→Bool
 |_,[]=>true
 |i,o::r=>o.after.toList.all (fun e=>!Region.binds .any e||decide (e.on<i))&&qC (i+1) r
structure RH where
 id:Nat
 live:List Nat
 perm:List Nat:=[]
 flags:List Nat:=[]
 pre:List gq:=[]
 post:List gq:=[]
def lB (kt:TypeId→Option (List Nat)):Nat→List Field→Option (List Nat)
 |_,[]=>some []
 |off,f::fs=>if f.name= "_" ∨f.offset≠off then none else match kt f.type with
  |some a=>match lB kt (off+a.length) fs with
   |some r=>some (a++r)
   |none=>none
  |none=>none
def dK (P:Program):Nat→TypeId→Option (List Nat)
 |0,_=>none
 |d+1,t=>match P.underlying t,(P.info? t).map (·.size) with
  |some (.int _),some 1=>some [0]
  |some .bool,some 1=>some [1]
  |some .string,some 1=>some [2]
  |some (.struct fs),some n=>if P.stoodInHeld t then none else match lB (dK P d) 0 fs.toList with
   |some ks=>if ks.length=n then some ks else none
   |none=>none
  |some (.array k e),some n=>match dK P d e with
   |some ks=>if n=k*ks.length then some ((List.replicate k ks).flatten) else none
   |none=>none
  |_,_=>none
def cB (P:Program) (t:TypeId):Option Bool:=
 match P.underlying t with
 |some (.struct _)|some (.array _ _)=>some true
 |some _=>some false
 |none=>none
def sizeT (P:Program) (t:TypeId):Option Nat:=(P.info? t).map (·.size)
def qD (P:Program) (t:TypeId):Option Nat:=(P.info? t).map (·.bytes)
def jH (P:Program) (t:TypeId):Option (Option Nat):=
 match cB P t,sizeT P t with
 |some true,some n=>some (some n)
 |some false,some _=>some none
 |_,_=>none
def gY (P:Program) (t:TypeId):Option (List Value):=
 match(P.info? t).bind (·.zero),sizeT P t with
 |some z,some n=>if z.cells.toList.all (·.oneCell')&&z.cells.size==n then some z.cells.toList else none
 |_,_=>none
def sQ (P:Program) (t:TypeId) (g:Bool):Bool:=
 match(P.info? t).bind (·.zero) with
 |some (.agg _)=>g
 |some _=>!g
 |none=>false
def lC {α β:Type} (f:α→Option β):List α→Option (List β)
 |[]=>some []
 |a::l=>match f a,lC f l with
  |some b,some r=>some (b::r)
  |_,_=>none
def eG (P:Program) (f:FuncId):Bool:=(P.funcs[f]?).any fun fn=>fn.body.isSome&&!(fn.name== "runtime.NumGoroutine")
def F4 (P:Program) (fields:Array Field):Option (List (Nat×Nat)):=fields.toList.mapM fun f=>(P.info? f.type).map fun i=>(f.offset,i.size)
def F5 (places:List (Nat×Nat)) (p:Nat×Operand):Option (Nat×Nat×Operand):=(places[p.1]?).map fun q=>(q.1,q.2,p.2)
def kp (P:Program) (fl:Bool) (o:Oper):Option bk:=
 match o.op with
 | .move x| .assign x=>some (.oG x)
 | .pick c a b=>some (.pick c a b)
 | .alloc e=>(gY P e).map fun z=> .alloc z e fl
 | .box e x=>some (.box e x)
 | .build t parts=>match gY P t,P.underlying t with
  |some z,some (.struct fields)=>match F4 P fields with
   |some places=>(lC (F5 places) parts.toList).map fun ps=> .build z ps
   |none=>none
  |some z,some (.array _ e)=>(sizeT P e).map fun n=> .build z (parts.toList.map fun p=>(p.1*n,n,p.2))
  |_,_=>none
 | .buildSlice t len parts=>match P.underlying t with
  |some (.slice e)=>match gY P e with
   |some z=>if len*z.length≤16777216∧0<z.length then some (if fl then .ng z len (parts.toList.map fun p=>(p.1*z.length,p.2)) e z.length else .kg z len (parts.toList.map fun p=>(p.1*z.length,p.2)) e z.length) else none
   |none=>none
  |_=>none
 | .load t a=>(jH P t).map fun n=> .load n a
 | .store t a x=>(sizeT P t).map fun n=> .store n a x
 | .nilCheck x=>some (.oH x)
 | .binOp op t x y _=>match op with
  | .eql| .neq=>match P.underlying t with
   |some (.struct _)|some (.array _ _)=>if 20≤P.depth then(dK P 20 t).map fun ks=> .mb (op matches .neq) ks x y else none
   |some .bool=>some (.beq (op matches .neq) x y)
   |some (.int _)|some .string=>some (.bin op x y)
   |_=>none
  |_=>some (.bin op x y)
 | .unOp op _ x=>some (.un op x)
 | .convert s d x=>match P.underlying s,P.underlying d with
  |some _,some (.int k)=>some (.conv k x)
  |_,_=>none
 | .fieldAddr s x f=>match P.underlying s with
  |some (.struct fs)=>match fs[f]? with
   |some g=>match sizeT P g.type with
    |some n=>if n=0 then none else some (.oJ g.offset x)
    |none=>none
   |none=>none
  |_=>none
 | .field t x f=>match P.underlying t with
  |some (.struct fs)=>match fs[f]? with
   |some g=>(jH P g.type).map fun n=> .field g.offset n x
   |none=>none
  |_=>none
 | .indexAddr t x i=>match P.underlying t with
  |some (.array len e)=>(sizeT P e).map fun n=> .oK len n x i
  |some (.slice e)=>match sizeT P e with
   |some n=>if n=0 then none else some (.me n x i)
   |none=>none
  |_=>none
 | .index t x i=>match P.underlying t with
  |some (.array len e)=>match sizeT P e,jH P e with
   |some s,some n=>some (.idx len s n x i)
   |_,_=>none
  |some .string=>some (.qs x i)
  |_=>none
 | .makeSlice t l c=>match P.underlying t with
  |some (.slice e)=>match gY P e,qD P e with
   |some z,some b=>if 0<z.length then some (.kJ z e z.length b l c fl) else none
   |_,_=>none
  |_=>none
 | .slice t x lo hi none=>match P.underlying t with
  |some (.slice e)=>match sizeT P e with
   |some n=>if n=0 then none else some (.slice n x lo hi)
   |none=>none
  |some .string=>some (.oL x lo hi)
  |_=>none
 | .slice t x lo (some hi) (some mx)=>match P.underlying t with
  |some (.slice e)=>match sizeT P e with
   |some n=>if n=0 then none else some (.slice3 n x lo hi mx)
   |none=>none
  |_=>none
 | .call c=>match c.callee with
  | .value (.func f)=>if eG P f then some (.call f c.args.toList fl) else none
  | .value v=>some (.eF v c.args.toList fl)
  | .builtin .append=>match c.args.toList,c.argTypes.toList with
   |[s,x],[t,t']=>if t=t' then match P.underlying t with
     |some (.slice e)=>match gY P e,qD P e with
      |some z,some b=>if 0<z.length then some (.append e z.length b s x fl) else none
      |_,_=>none
     |_=>none
    else none
   |_,_=>none
  | .builtin .len=>match c.args.toList,c.argTypes.toList with
   |[x],[t]=>match P.underlying t with
    |some (.slice _)=>some (.len 0 x)
    |some .string=>some (.len 1 x)
    |some (.map _ _)=>some (.len 2 x)
    |some (.array n _)=>some (.oM n)
    |_=>none
   |_,_=>none
  | .builtin .min=>match c.args.toList with
   |[x,y]=>some (.mm false x y)
   |_=>none
  | .builtin .max=>match c.args.toList with
   |[x,y]=>some (.mm true x y)
   |_=>none
  |_=>none
 | .extract x i=>some (.extract x i)
 | .makeFunc f a b=>match f with
  | .func g=>some (.nh (.func g) a.toList b.toList)
  |_=>none
 | .makeMap t none=>match P.underlying t with
  |some (.map kt _)=>match dK P 20 kt,cB P kt with
    |some ks,some ka=>some (.kK (ks,ka) fl)
    |_,_=>none
  |_=>none
 | .lookup t x k ok=>match P.underlying t with
  |some (.map kt et)=>match dK P 20 kt,cB P kt,gY P et,cB P et with
    |some ks,some ka,some z,some g=>if sQ P et g then some (.lookup z g ks ka x k ok) else none
    |_,_,_,_=>none
  |_=>none
 | .mapUpdate t m k v| .insert t m k v=>match P.underlying t with
  |some (.map kt _)=>match dK P 20 kt,cB P kt with
    |some ks,some ka=>some (.lv ks ka m k v)
    |_,_=>none
  |_=>none
 |_=>none
def vo (nt:Nat):Option Nat→Bool
 |none=>true
 |some d=>decide (d<nt)
def jI (P:Program) (nt:Nat) (fl:List Nat) (ops:Array Oper) (am i:Nat):Option bA:=
 match ops[i]? with
 |none=>none
 |some o=>if vo nt o.dst then(kp P (fl.contains i) o).map fun op=>⟨i,am,o.dst,op,o.guard.map fun g=>(((ops[g.1]?).bind (·.dst)),g.2)⟩ else none
def oV (P:Program) (nt:Nat) (fl:List Nat) (ops:Array Oper):Nat→List Nat→Option (List bA×Nat)
 |k,[]=>some ([],k)
 |k,i::r=>match jI P nt fl ops k i with
  |none=>none
  |some x=>match oV P nt fl ops (if x.op.makes then k+1 else k) r with
   |none=>none
   |some (l,n)=>some (x::l,n)
def vp (acc:List Nat) (s:Nat) (e:Edge):Nat:=if Region.binds .any e then s |||(2^e.on |||acc.getD e.on 0) else s
def jJ (ops:Array Oper):List Nat:=
 ops.toList.foldl (fun acc o=>acc++[o.after.toList.foldl (vp acc) 0]) []
def kT (an:List Nat):List bA→List (Nat×Nat)
 |[]=>[]
 |a::r=>(r.filterMap fun b=>if(an.getD b.idx 0).testBit a.idx||qB a b then none else some (a.idx,b.idx))++kT an r
def qE (an:List Nat):List bA→Bool
 |[]=>true
 |a::r=>r.all (fun b=>(an.getD b.idx 0).testBit a.idx||(sP a b&&(qB a b||vn a b)))&&qE an r
def nodupB:List Nat→Bool
 |[]=>true
 |a::r=>!r.contains a&&nodupB r
def oW (P:Program) (nt:Nat) (H:List RH) (id:Nat) (ops:Array Oper) (draw:Bool):Option IR:=
 match H.find? (·.id==id) with
 |none=>none
 |some h=>
  if draw then
   let perm:=if h.perm.isEmpty then List.range ops.size else h.perm
   match oV P nt h.flags ops 0 perm with
   |some (l,k)=>if P.follows .mixedOrders&&perm.length==ops.size&&nodupB perm&&qE (jJ ops) l&&qC 0 ops.toList&&(List.range ops.size).all perm.contains then some (.region id true k l (kT (jJ ops) l) h.live h.pre h.post) else none
   |none=>none
  else(oV P nt h.flags ops 0 (List.range ops.size)).map fun(l,k)=> .region id false k l [] h.live h.pre h.post
def vq:Code→Bool
 | .seq a b| .cond _ a b=>vq a||vq b
 | .block _ b| .loop b| .scope b=>vq b
 | .goto _=>true
 |_=>false
def vr:Code→Option Nat
 | .seq (.label l) c=>if vq c then some l else none
 |_=>none
def F6 (H:List RH):Operand→Bool
 | .tmp t=>match H.find? (·.id==999999) with
  |some h=>h.live.contains t
  |none=>false
 |_=>false
def comp (P:Program) (nt:Nat) (H:List RH):Code→Option IR
 | .skip=>some .skip
 | .region id ops draw=>oW P nt H id ops draw
 | .seq a b=>match comp P nt H a,comp P nt H b with
  |some x,some y=>some (.seq x y)
  |_,_=>none
 | .cond c a b=>match comp P nt H a,comp P nt H b with
  |some x,some y=>some (if F6 H c then .jE c x y else .cond c x y)
  |_,_=>none
 | .block id b=>(comp P nt H b).map (.block id)
 | .loop b=>(comp P nt H b).map .loop
 | .exit id=>some (.exit id)
 | .ret=>some .ret
 | .label _=>some .skip
 | .goto l=>some (.goto l)
 | .scope b=>(comp P nt H b).map fun x=> .turns (vr b) x
 | .rangeFunc g ps a b=>match comp P nt H a,comp P nt H b with
  |some x,some y=>if ps.toList.all (fun t=>decide (t<nt)) then some (.each g ps.toList x y) else none
  |_,_=>none
 |_=>none
def vt (ops:Array Oper):Option (FuncId×List Operand×Nat):=match ops.toList with
 |[mk,df]=>match mk.dst,mk.op,mk.guard,df.op,df.dst,df.guard with
  |some d,.makeFunc (.func g) a b,none,.defer c,none,none=>match c.callee with
   | .value (.tmp d')=>if d'=d∧a.toList=[]∧c.args.toList=[] then some (g,b.toList,d) else none
   |_=>none
  |_,_,_,_,_,_=>none
 |_=>none
def oY (P:Program) (nt:Nat) (H:List RH):Code→Option (IR×(FuncId×List Operand×Nat)×IR)
 | .seq (.region id ops draw) rest=>match vt ops,draw with
  |some x,false=>if x.2.2<nt∧eG P x.1=true then(comp P nt H rest).map fun b=>(.skip,x,b) else none
  |_,_=>match oW P nt H id ops draw,oY P nt H rest with
   |some r,some (a,x,b)=>some (.seq r a,x,b)
   |_,_=>none
 |_=>none
def vu (P:Program) (nt:Nat) (H:List RH) (c:Code):Option IR:=match comp P nt H c with
 |some b=>some b
 |none=>(oY P nt H c).map fun x=> .qt x.2.1.1 x.2.1.2.1 x.2.1.2.2 x.1 x.2.2
def mq (P:Program):ResultVar→Option iN
 | .tmp t=>some ⟨t,none⟩
 | .cell a t=>(jH P t).map fun n=>⟨a,some n⟩
def aB (P:Program) (H:List RH) (fn:Func):Option aT:=
 match fn.body with
 |none=>none
 |some c=>match vu P fn.ntmps H c,lC (mq P) fn.results.toList with
  |some b,some rs=>if fn.ntmps<fn.params.size+fn.nfree then none else some ⟨fn.params.size+fn.nfree,fn.ntmps,b,rs⟩
  |_,_=>none
end Go.Vi
