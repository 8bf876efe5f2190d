/-
  The abstract interpreter: its values, its small code, and its run. Plain definitions: no proof stands here.
  Conditions: none.
-/
import Derived.Orders
import Derived.RowKit3
set_option maxRecDepth 100000
set_option maxHeartbeats 4000000
set_option linter.all false
open BitVec renaming ofInt->γs
open List renaming replicate->ε,range->π
open Nat renaming beq->δx
namespace Go.Vi
inductive AV where
 |ud
 |sc (v:Value)
 |agg (cs:List AV)
 |bH (cs:List AV)
 |sl (n:Nat) (cs:List AV)
 |ep (cs:List AV) (off:Nat)
 |ptr (id off tot:Nat)
 |os (id off len tot:Nat)
 |mp (id:Nat)
 |fn (f:Fn) (first captured:List AV)
 |iU (t:TypeId) (cs:List AV)
 deriving Inhabited
inductive bP where
 |dead
 |cells (cs:List AV) (e:TypeId) (sz:Nat) (pu:Bool)
 |map (es:List (Value×AV)) (kt:List Nat×Bool) (pu:Bool)
 deriving Inhabited
def yZ:Value:=.slice none 0 0
def AV.qn:AV->AV
 | .sc (.slice none 0 0)=> .sl 0 []
 |v=>v
def eu (pu:Bool) (cs:List AV):List AV:=if pu then cs.map .qn else cs
def AV.cellsOf:AV->List AV
 | .agg cs=>cs
 |v=>[v]
def AV.one:AV->Bool
 | .agg _| .bH _| .ud=>false
 | .sc v=>v.oneCell'
 |_=>true
mutual
def AV.pure:AV->Bool
 | .sc _=>true
 | .sl _ cs=>dr cs
 |_=>false
def dr:List AV->Bool
 |[]=>true
 |c::cs=>c.pure&&dr cs
end
mutual
def AV.bY (k:Nat):AV->Bool
 | .ud=>true
 | .sc _=>true
 | .agg cs=>dZ k cs
 | .bH cs=>dZ k cs
 | .sl _ _=>true
 | .ep _ _=>true
 | .ptr id _ _=>decide (id<k)
 | .os id _ _ _=>decide (id<k)
 | .mp id=>decide (id<k)
 | .fn _ a b=>dZ k a&&dZ k b
 | .iU _ _=>true
def dZ (k:Nat):List AV->Bool
 |[]=>true
 |c::cs=>c.bY k&&dZ k cs
end
def bP.bY (k:Nat):bP->Bool
 | .dead=>true
 | .cells cs _ _ pu=>pu||dZ k cs
 | .map es _ pu=>pu||dZ k (es.map (·.2))
abbrev Store:=List bP
def bP.ni:bP->Bool
 | .dead=>true
 |_=>false
def kX (bB:Nat) (x:bP) (o:Store):Option Store:=
 match o[bB]? with
 |some .dead=>some (o.set bB x)
 |_=>none
abbrev jg:=List (Nat×AV)
def dI:jg->Nat->AV
 |[],_=> .ud
 |p::r,s=>bif δx p.1 s then p.2 else dI r s
def oH (env:jg) (dst:Option Nat) (v:AV):jg:=
 match dst with
 |none=>env
 |some d=>(d,v)::env
def AV.uP:Value->AV
 | .agg cs=>if cs.toList.all (·.oneCell') then .agg (cs.toList.map .sc) else .ud
 | .tuple _=> .ud
 |v=> .sc v
def eC (env:jg):Operand->AV
 | .tmp t=>dI env t
 | .const v=> .uP v
 | .global _=> .ud
 | .func f=> .fn (.func f) [] []
inductive cE where
 |uQ (x:Operand)
 |pick (c a b:Operand)
 |alloc (z:List Value) (e:TypeId) (pu:Bool)
 |box (e:TypeId) (x:Operand)
 |build (z:List Value) (parts:List (Nat×Nat×Operand))
 |pE (z:List Value) (len:Nat) (parts:List (Nat×Operand)) (e:TypeId) (sz:Nat)
 |tn (z:List Value) (len:Nat) (parts:List (Nat×Operand)) (e:TypeId) (sz:Nat)
 |load (n:Option Nat) (a:Operand)
 |store (n:Nat) (a x:Operand)
 |uR (x:Operand)
 |bin (op:BinOp) (x y:Operand)
 |beq (neg:Bool) (x y:Operand)
 |sg (neg:Bool) (ks:List Nat) (x y:Operand)
 |un (op:UnOp) (x:Operand)
 |conv (k:IntKind) (x:Operand)
 |uS (off:Nat) (x:Operand)
 |field (off:Nat) (n:Option Nat) (x:Operand)
 |uT (len sz:Nat) (x i:Operand)
 |sj (sz:Nat) (x i:Operand)
 |idx (len sz:Nat) (n:Option Nat) (x i:Operand)
 |wF (x i:Operand)
 |ql (z:List Value) (e:TypeId) (sz bytes:Nat) (l c:Operand) (pu:Bool)
 |slice (sz:Nat) (x:Operand) (lo hi:Option Operand)
 |slice3 (sz:Nat) (x:Operand) (lo:Option Operand) (hi mx:Operand)
 |uU (x:Operand) (lo hi:Option Operand)
 |append (e:TypeId) (sz bytes:Nat) (s x:Operand) (pu:Bool)
 |len (k:Nat) (x:Operand)
 |uV (n:Nat)
 |mm (mx:Bool) (x y:Operand)
 |call (f:FuncId) (args:List Operand) (own:Bool)
 |jG (f:Operand) (args:List Operand) (own:Bool)
 |extract (x:Operand) (i:Nat)
 |tq (f:Fn) (first captured:List Operand)
 |uW (t:TypeId) (x:Operand)
 |oJ (tab:List (TypeId×FuncId)) (x:Operand) (args:List Operand)
 |qm (kt:List Nat×Bool) (pu:Bool)
 |lookup (z:List Value) (agg:Bool) (ks:List Nat) (ka:Bool) (x k:Operand) (ok:Bool)
 |rc (ks:List Nat) (ka:Bool) (x k v:Operand)
structure dp where
 idx:Nat
 bB:Nat
 dst:Option Nat
 op:cE
 guard:Option (Option Nat×Bool)
structure ky where
 own:Bool
 slot:Nat
 off:Option Nat
 e:TypeId
 sz:Nat
 pu:Bool
inductive IR where
 |skip
 |region (id:Nat) (draw:Bool) (k:Nat) (ops:List dp) (kz:List (Nat×Nat)) (live:List Nat) (pre post:List ky)
 |seq (a b:IR)
 |cond (c:Operand) (a b:IR)
 |block (id:Nat) (c:IR)
 |loop (c:IR)
 |exit (id:Nat)
 |ret
 |goto (l:Nat)
 |turns (l:Option Nat) (b:IR)
 |oK (c:Operand) (a b:IR)
 |tt (g:FuncId) (caps:List Operand) (d:Nat) (a b:IR)
structure St where
 env:jg
 o:Store
def behind (o:Store):AV->Option (List AV×Nat)
 | .ptr id off tot=>match o[id]? with
  |some (.cells cs _ _ _)=>if cs.length=tot then some (cs,off) else none
  |_=>none
 | .ep cs off=>some (cs,off)
 |_=>none
def gp (cs:List AV) (off:Nat):Option Nat->Option AV
 |none=>cs[off]?
 |some n=>if off+n<=cs.length then some (.agg ((cs.drop off).take n)) else none
def fZ (cs:List AV) (off:Nat):List AV->List AV
 |[]=>cs
 |v::vs=>fZ (cs.set off v) (off+1) vs
def eF (l:List AV):Bool:=l.all (·.one)
def eQ (k:IntKind) (n:Int):Int:=
 match k with
 | .i64=>if decide (-9223372036854775808<=n)&&decide (n<=9223372036854775807) then n else IntKind.wrap .i64 n
 | .u32=>if decide (0<=n)&&decide (n<=4294967295) then n else IntKind.wrap .u32 n
 | .u64=>if decide (0<=n)&&decide (n<=18446744073709551615) then n else IntKind.wrap .u64 n
 |k=>k.wrap n
def BE (n:Nat):Int:=Int.ofNat (Nat.pow 2 n)
def lv (op:BinOp) (k:IntKind) (a b:Int):Option Value:=
 match op with
 | .add=>some (.int k (eQ k (a+b)))
 | .sub=>some (.int k (eQ k (a - b)))
 | .mul=>some (.int k (eQ k (a*b)))
 | .quo=>if b=0 then none else some (.int k (eQ k (a.tdiv b)))
 | .rem=>if b=0 then none else some (.int k (a.tmod b))
 | .and=>some (.int k (eQ k (γs k.bits a &&&γs k.bits b).toNat))
 | .or=>some (.int k (eQ k (γs k.bits a |||γs k.bits b).toNat))
 | .xor=>some (.int k (eQ k (γs k.bits a ^^^γs k.bits b).toNat))
 | .andNot=>some (.int k (eQ k (γs k.bits a &&&~~~(γs k.bits b)).toNat))
 | .eql=>some (.bool (a==b))
 | .neq=>some (.bool (a !=b))
 | .lss=>some (.bool (decide (a<b)))
 | .leq=>some (.bool (decide (a<=b)))
 | .gtr=>some (.bool (decide (b<a)))
 | .geq=>some (.bool (decide (b<=a)))
 |_=>none
def gK (op:BinOp):Value->Value->Option Value
 | .int k a,.int k' b=>
  match op with
  | .shl=>if b<0 then none else some (.int k (eQ k (a*BE (min b.toNat k.bits))))
  | .shr=>if b<0 then none else some (.int k (a.fdiv (BE (min b.toNat k.bits))))
  |_=>if k=k' then lv op k a b else none
 | .string a,.string b=>match op with
  | .eql=>some (.bool (a.toList==b.toList))
  | .neq=>some (.bool (!(a.toList==b.toList)))
  | .add=>if a.size+b.size<=1000000000 then some (.string (a++b)) else none
  |_=>none
 |_,_=>none
def seq1:Value->Value->Option Bool
 | .int k a,.int k' b=>if k=k' then some (a==b) else none
 | .bool a,.bool b=>some (a==b)
 | .string a,.string b=>some (a.toList==b.toList)
 |_,_=>none
def gq:List Value->List Value->Option Bool
 |[],[]=>some true
 |x::xs,y::ys=>match seq1 x y,gq xs ys with
  |some a,some b=>some (a&&b)
  |_,_=>none
 |_,_=>none
def ey:List Nat->List Value->Bool
 |[],[]=>true
 |0::ks,.int _ _::vs=>ey ks vs
 |1::ks,.bool _::vs=>ey ks vs
 |2::ks,.string _::vs=>ey ks vs
 |_,_=>false
def sr:List AV->Option (List Value)
 |[]=>some []
 | .sc v::r=>(sr r).map (v::·)
 |_=>none
def wG (ks:List Nat) (a b:List AV):Option Bool:=
 match sr a,sr b with
 |some x,some y=>if ey ks x&&ey ks y then gq x y else none
 |_,_=>none
def y5 (op:UnOp):AV->Option AV
 | .sc (.bool b)=>match op with| .not=>some (.sc (.bool !b))|_=>none
 | .sc (.int k n)=>match op with| .neg=>some (.sc (.int k (eQ k (0 - n))))|_=>none
 |_=>none
def gZ:AV->Option Int
 | .sc (.int _ n)=>some n
 |_=>none
def oL (d:Nat):AV->Option AV
 | .ptr id off tot=>some (.ptr id (off+d) tot)
 | .ep cs off=>some (.ep cs (off+d))
 |_=>none
def nj (o:Store) (sz:Nat):AV->Option (Nat×List AV)
 | .sl n cs=>if cs.length=n*sz then some (n,cs) else none
 | .os id off len tot=>match o[id]? with
  |some (.cells cs _ sz' _)=>if cs.length=tot/\sz'=sz/\off+len*sz<=tot then some (len,(cs.drop off).take (len*sz)) else none
  |_=>none
 | .sc (.slice none 0 0)=>some (0,[])
 |_=>none
def su (off tot sz:Nat):Nat:=if Nat.ble off tot then off else off - tot - sz
def qo (o:Store) (sz:Nat) (x:AV) (i:Int):Option AV:=
 match x with
 | .sl n cs=>if 0<=i/\i<n/\cs.length=n*sz then some (.ep cs (i.toNat*sz)) else none
 | .os id off len tot=>match o[id]? with
  |some (.cells cs _ sz' _)=>if cs.length=tot/\sz'=sz/\0<=i/\i<len/\su off tot sz+len*sz<=tot then some (.ptr id (su off tot sz+i.toNat*sz) tot) else none
  |_=>none
 |_=>none
def lx (o:Store):Nat->AV->Option Nat
 |0,.sl n _=>some n
 |0,.os _ _ len _=>some len
 |0,.sc (.slice _ n _)=>some n
 |1,.sc (.string s)=>some s.size
 |2,.mp id=>match o[id]? with
  |some (.map es _ _)=>some es.length
  |_=>none
 |_,_=>none
def qp (e:TypeId) (sz a:Nat) (pu:Bool) (s x:AV) (o:Store) (bB:Nat):Option (AV×Store):=
 match nj o sz x with
 |none=>none
 |some (m,b)=>
  if eF b=false then none else
  match s with
  | .sc (.slice none 0 0)=>
   if m=0 then some (.sc yZ,o)
   else if m*a<=140737488355328/\m<=1000000000000/\(pu=false\/dr b=true) then(kX bB (.cells b e sz pu) o).map λk=>(.os bB 0 m (m*sz),k) else none
  | .os h 0 c d=>match o[h]? with
   |some (.cells g j i f)=>
    if g.length=d/\j=e/\i=sz/\c*sz=d/\(c+m)*a<=140737488355328/\c+m<=1000000000000/\(f=false\/dr b=true)
    then some (.os h 0 (c+m) (d+m*sz),o.set h (.cells (g++b) e sz f)) else none
   |_=>none
  | .sl n g=>if m=0 then some (.sl n g,o) else none
  |_=>none
def hJ (d:Nat):Option AV->Option Nat
 |none=>some d
 |some (.sc (.int _ n))=>if 0<=n then some n.toNat else none
 |_=>none
def qq (o:Store) (sz:Nat) (x:AV) (lo hi:Option AV):Option AV:=
 match x with
 | .sl n cs=>match hJ 0 lo,hJ n hi with
  |some l,some h=>if l<=h/\h<=n/\cs.length=n*sz then some (.sl (h - l) ((cs.drop (l*sz)).take ((h - l)*sz))) else none
  |_,_=>none
 | .os id off len tot=>match hJ 0 lo,hJ len hi with
  |some l,some h=>match o[id]? with
   |some (.cells cs _ sz' _)=>if l<=h/\h<=len/\cs.length=tot/\sz'=sz then some (.os id (off+l*sz) (h - l) tot) else none
   |_=>none
  |_,_=>none
 | .sc (.slice none 0 0)=>match hJ 0 lo,hJ 0 hi with
  |some 0,some 0=>some (.sc yZ)
  |_,_=>none
 |_=>none
def sw (o:Store) (sz:Nat) (x:AV) (lo:Option AV) (hi mx:AV):Option AV:=
 match x with
 | .sl n cs=>match hJ 0 lo,hJ n (some hi),hJ n (some mx) with
  |some l,some h,some m=>if l<=h/\h<=m/\m<=n/\cs.length=n*sz then some (.sl (h - l) ((cs.drop (l*sz)).take ((h - l)*sz))) else none
  |_,_,_=>none
 | .os id off len tot=>match hJ 0 lo,hJ len (some hi),hJ len (some mx) with
  |some l,some h,some m=>match o[id]? with
   |some (.cells cs _ sz' _)=>if l<=h/\h<=m/\m<=len/\cs.length=tot/\sz'=sz/\off+len*sz<=tot/\0<sz then some (.os id (off+l*sz+(tot+sz)) (h - l) tot) else none
   |_=>none
  |_,_,_=>none
 |_=>none
def ly (ks:List Nat) (ka:Bool):AV->Option Value
 | .sc v=>if !ka&&ey ks [v] then some v else none
 | .agg cs=>match sr cs with
  |some vs=>if ka&&ey ks vs then some (.agg vs.toArray) else none
  |none=>none
 |_=>none
def keq:Value->Value->Option Bool
 | .agg a,.agg b=>gq a.toList b.toList
 | .agg _,_=>none
 |_,.agg _=>none
 |a,b=>seq1 a b
def nV (k:Value):List (Value×AV)->Nat->Option (Option (Nat×AV))
 |[],_=>some none
 |e::es,i=>match keq k e.1 with
  |some true=>some (some (i,e.2))
  |some false=>nV k es (i+1)
  |none=>none
def rf (z:List Value) (agg:Bool):Option AV:=
 if agg then some (.agg (z.map .sc)) else match z with
  |[v]=>some (.sc v)
  |_=>none
def freeze (o:Store):Nat->AV->Option AV
 |_,.ud=>some .ud
 |_,.sc v=>match v with
  | .slice none 0 0=>some (.sl 0 [])
  |v=>some (.sc v)
 |_,.sl n cs=>some (.sl n cs)
 |_,.iU t cs=>some (.iU t cs)
 |d+1,.agg cs=>(cs.mapM (freeze o d)).map .agg
 |d+1,.bH cs=>(cs.mapM (freeze o d)).map .bH
 |d+1,.fn f a b=>match a.mapM (freeze o d),b.mapM (freeze o d) with
  |some a',some b'=>some (.fn f a' b')
  |_,_=>none
 |d+1,.os id off len tot=>match o[id]? with
  |some (.cells cs _ sz pu)=>
   if cs.length=tot/\off+len*sz<=tot then
    if pu then some (.sl len ((cs.drop off).take (len*sz)))
    else match((cs.drop off).take (len*sz)).mapM (freeze o d) with
     |some cs'=>if dr cs' then some (.sl len cs') else none
     |none=>none
   else none
  |_=>none
 |_,_=>none
mutual
def AV.ren (m:Nat->Option Nat):AV->Option AV
 | .ud=>some .ud
 | .sc v=>some (.sc v)
 | .sl n cs=>some (.sl n cs)
 | .iU t cs=>some (.iU t cs)
 | .ep cs off=>some (.ep cs off)
 | .agg cs=>(iG m cs).map .agg
 | .bH cs=>(iG m cs).map .bH
 | .ptr id off tot=>(m id).map λi=> .ptr i off tot
 | .os id off len tot=>(m id).map λi=> .os i off len tot
 | .mp id=>(m id).map .mp
 | .fn f a b=>match iG m a,iG m b with
  |some a',some b'=>some (.fn f a' b')
  |_,_=>none
def iG (m:Nat->Option Nat):List AV->Option (List AV)
 |[]=>some []
 |c::cs=>match c.ren m,iG m cs with
  |some c',some cs'=>some (c'::cs')
  |_,_=>none
end
def oM (m:Nat->Option Nat):List (Value×AV)->Option (List (Value×AV))
 |[]=>some []
 |e::es=>match e.2.ren m,oM m es with
  |some v,some es'=>some ((e.1,v)::es')
  |_,_=>none
def bP.ren (m:Nat->Option Nat):bP->Option bP
 | .dead=>some .dead
 | .cells cs e sz pu=>if pu then some (.cells cs e sz pu) else(iG m cs).map λcs'=> .cells cs' e sz pu
 | .map es kt pu=>if pu then some (.map es kt pu) else(oM m es).map λes'=> .map es' kt pu
def idxOf (ids:List Nat) (i:Nat) (k:Nat:=0):Option Nat:=
 match ids with
 |[]=>none
 |j::r=>if j==i then some k else idxOf r i (k+1)
def cJ (o:Store):Nat->List AV->List Nat->List Nat
 |0,_,acc=>acc
 |_,[],acc=>acc
 |d+1,v::vs,acc=>
  let visit (id:Nat) (acc:List Nat):List Nat:=
   if acc.contains id then acc else
   match o[id]? with
   |some (.cells cs _ _ pu)=>if pu then acc++[id] else cJ o d cs (acc++[id])
   |some (.map es _ pu)=>if pu then acc++[id] else cJ o d (es.map (·.2)) (acc++[id])
   |_=>acc++[id];let acc':=match v with
   | .agg cs| .bH cs=>cJ o d cs acc
   | .ptr id _ _| .os id _ _ _| .mp id=>visit id acc
   | .fn _ a b=>cJ o d b (cJ o d a acc)
   |_=>acc;cJ o d vs acc'
def fD:Nat:=400
def kY (o:Store) (ids:List Nat):List Nat->Option Store
 |[]=>some []
 |i::r=>match o[i]?,kY o ids r with
  |some x,some l=>(x.ren (λj=>idxOf ids j)).map (·::l)
  |_,_=>none
def oN (ids:List Nat) (n i:Nat):Option Nat:=
 match ids[i]? with
 |some j=>some j
 |none=>some (n+(i - ids.length))
def sx (m:Nat->Option Nat):Store->Option Store
 |[]=>some []
 |x::r=>match x.ren m,sx m r with
  |some y,some l=>some (y::l)
  |_,_=>none
def lO (o:Store):List Nat->Store->Store
 |[],_=>o
 |_,[]=>o
 |i::r,x::l=>lO (o.set i x) r l
abbrev cV:=FuncId->List AV->Store->Bool->Option (AV×Store)
def iH (call:cV) (f:FuncId) (args:List AV) (o:Store):Option (AV×Store):=
 let ids:=cJ o fD args [];match iG (λj=>idxOf ids j) args,kY o ids ids with
 |some args',some small=>match call f args' small true with
  |some (r,Nb)=>
   if Nb.length<ids.length\/pF ids=false then none else
   match r.ren (oN ids o.length),sx (oN ids o.length) Nb with
   |some r',some big=>some (r',lO o ids (big.take ids.length)++big.drop ids.length)
   |_,_=>none
  |none=>none
 |_,_=>none
where pF:List Nat->Bool
 |[]=>true
 |a::r=>!r.contains a&&pF r
mutual
def AV.kZ:AV->Bool
 | .ud| .sc _=>true
 | .agg cs| .bH cs=>uX cs
 | .sl _ cs=>cs.isEmpty
 |_=>false
def uX:List AV->Bool
 |[]=>true
 |c::cs=>c.kZ&&uX cs
end
def fh (o:Store):Nat->AV->List Nat
 |d+1,.agg cs=>cs.flatMap (fh o d)
 |d+1,.bH cs=>cs.flatMap (fh o d)
 |d+1,.fn _ a b=>a.flatMap (fh o d)++b.flatMap (fh o d)
 |d+1,.os id off len _=>id::(match o[id]? with
  |some (.cells cs _ sz pu)=>if pu then[] else((cs.drop off).take (len*sz)).flatMap (fh o d)
  |_=>[])
 |_,_=>[]
def uY:List (TypeId×FuncId)->TypeId->Option FuncId
 |[],_=>none
 |p::r,t=>bif δx p.1 t then some p.2 else uY r t
def gA (call:cV) (f:FuncId) (args:List AV) (o:Store) (own:Bool):Option (AV×Store):=
 if own then iH call f args o
 else match args.mapM (freeze o 6) with
  |none=>none
  |some args'=>match call f args' [] false with
   |some (r,[])=>if(args.flatMap (fh o 6)).isEmpty||r.kZ then some (r,o) else none
   |_=>none
def lz (parts:List (Nat×Nat×AV)) (cs:List AV):Option (List AV):=
 match parts with
 |[]=>some cs
 |(off,n,v)::rest=>
  if v.cellsOf.length=n/\eF v.cellsOf=true/\off+n<=cs.length then lz rest (fZ cs off v.cellsOf) else none
def bK (call:cV) (op:cE) (ρ:Operand->AV) (o:Store) (bB:Nat):Option (AV×Store):=
 match op with
 | .uQ x=>some (ρ x,o)
 | .pick c a b=>match ρ c with
  | .sc (.bool true)=>some (ρ a,o)
  | .sc (.bool false)=>some (ρ b,o)
  |_=>none
 | .alloc z e pu=>(kX bB (.cells (z.map .sc) e z.length pu) o).map λo'=>(.ptr bB 0 z.length,o')
 | .box e x=>if eF (ρ x).cellsOf then(kX bB (.cells (ρ x).cellsOf e (ρ x).cellsOf.length false) o).map λo'=>(.ptr bB 0 (ρ x).cellsOf.length,o') else none
 | .build z parts=>(lz (parts.map λp=>(p.1,p.2.1,ρ p.2.2)) (z.map .sc)).map λcs=>(.agg cs,o)
 | .pE z len parts e sz=>
  match lz (parts.map λp=>(p.1,sz,ρ p.2)) ((ε len (z.map AV.sc)).flatten) with
  |some cs=>(kX bB (.cells (eu (dr cs) cs) e sz (dr cs)) o).map λo'=>(.os bB 0 len (len*sz),o')
  |none=>none
 | .tn z len parts _ sz=>
  match lz (parts.map λp=>(p.1,sz,ρ p.2)) ((ε len (z.map AV.sc)).flatten) with
  |some cs=>if dr cs=true then some (.sl len (eu true cs),o) else none
  |none=>none
 | .load n a=>match behind o (ρ a) with
  |some (cs,off)=>(gp cs off n).map (·,o)
  |none=>none
 | .store n a x=>match ρ a with
  | .ptr id off tot=>match o[id]? with
   |some (.cells cs e sz pu)=>
    let v:=(ρ x).cellsOf;if cs.length=tot/\v.length=n/\eF v=true/\off+n<=cs.length/\(pu=false\/dr v=true) then some (.ud,o.set id (.cells (fZ cs off (eu pu v)) e sz pu)) else none
   |_=>none
  |_=>none
 | .uR x=>match ρ x with
  | .ptr a b c=>some (.ptr a b c,o)
  | .ep a b=>some (.ep a b,o)
  |_=>none
 | .bin op x y=>match ρ x,ρ y with
  | .sc a,.sc b=>(gK op a b).map λv=>(.sc v,o)
  |_,_=>none
 | .beq neg x y=>match ρ x,ρ y with
  | .sc (.bool a),.sc (.bool b)=>some (.sc (.bool (if neg then !(a==b) else a==b)),o)
  |_,_=>none
 | .sg neg ks x y=>match ρ x,ρ y with
  | .agg a,.agg b=>(wG ks a b).map λr=>(.sc (.bool (if neg then !r else r)),o)
  |_,_=>none
 | .un op x=>(y5 op (ρ x)).map (·,o)
 | .conv k x=>match ρ x with
  | .sc (.int _ n)=>some (.sc (.int k (eQ k n)),o)
  |_=>none
 | .uS off x=>(oL off (ρ x)).map (·,o)
 | .field off n x=>match ρ x with
  | .agg cs=>(gp cs off n).map (·,o)
  |_=>none
 | .uT len sz x i=>match gZ (ρ i) with
  |some n=>if 0<=n/\n<len then(oL (n.toNat*sz) (ρ x)).map (·,o) else none
  |none=>none
 | .sj sz x i=>match gZ (ρ i) with
  |some n=>(qo o sz (ρ x) n).map (·,o)
  |none=>none
 | .idx len sz n x i=>match gZ (ρ i),ρ x with
  |some k,.agg cs=>if 0<=k/\k<len then(gp cs (k.toNat*sz) n).map (·,o) else none
  |_,_=>none
 | .wF x i=>match gZ (ρ i),ρ x with
  |some k,.sc (.string s)=>if 0<=k then(s[k.toNat]?).map λb=>(.sc (.int .u8 b.toNat),o) else none
  |_,_=>none
 | .ql z e sz bytes l c pu=>match gZ (ρ l),gZ (ρ c) with
  |some n,some m=>if 0<=n/\n<=m/\m*bytes<=140737488355328/\m<=1000000000000 then
    (kX bB (.cells ((ε n.toNat (eu pu (z.map AV.sc))).flatten) e sz pu) o).map λo'=>(.os bB 0 n.toNat (n.toNat*sz),o') else none
  |_,_=>none
 | .slice sz x lo hi=>(qq o sz (ρ x) (lo.map ρ) (hi.map ρ)).map (·,o)
 | .slice3 sz x lo hi mx=>(sw o sz (ρ x) (lo.map ρ) (ρ hi) (ρ mx)).map (·,o)
 | .uU x lo hi=>match ρ x with
  | .sc (.string s)=>match hJ 0 (lo.map ρ),hJ s.size (hi.map ρ) with
   |some l,some h=>if l<=h/\h<=s.size then some (.sc (.string (s.extract l h)),o) else none
   |_,_=>none
  |_=>none
 | .append e sz bytes s x pu=>qp e sz bytes pu (ρ s) (ρ x) o bB
 | .len k x=>(lx o k (ρ x)).map λ(n:Nat)=>(.sc (.int .i64 n),o)
 | .uV n=>some (.sc (.int .i64 n),o)
 | .mm mx x y=>match ρ x,ρ y with
  | .sc (.int k a),.sc (.int k' b)=>if k=k' then some (.sc (.int k (if mx then(if b>a then b else a) else(if b<a then b else a))),o) else none
  |_,_=>none
 | .call f args own=>gA call f (args.map ρ) o own
 | .jG f args own=>match ρ f with
  | .fn (.func g) first captured=>gA call g (first++args.map ρ++captured) o own
  |_=>none
 | .extract x i=>match ρ x with
  | .bH vs=>(vs[i]?).map (·,o)
  |_=>none
 | .tq f first captured=>some (.fn f (first.map ρ) (captured.map ρ),o)
 | .uW t x=>match ρ x with
  | .agg cs=>if dr cs=true then some (.iU t cs,o) else none
  |_=>none
 | .oJ tab x args=>match ρ x with
  | .iU t cs=>match uY tab t with
   |some f=>gA call f (.agg cs::args.map ρ) o false
   |none=>none
  |_=>none
 | .qm kt pu=>(kX bB (.map [] kt pu) o).map λo'=>(.mp bB,o')
 | .lookup z agg ks ka x k ok=>match ρ x,ly ks ka (ρ k) with
  | .mp id,some kv=>match o[id]? with
   |some (.map es kt _)=>if kt=(ks,ka) then match nV kv es 0,rf z agg with
    |some (some (_,v)),_=>some (if ok then .bH [v,.sc (.bool true)] else v,o)
    |some none,some v=>some (if ok then .bH [v,.sc (.bool false)] else v,o)
    |_,_=>none
    else none
   |_=>none
  |_,_=>none
 | .rc ks ka x k v=>match ρ x,ly ks ka (ρ k) with
  | .mp id,some kv=>match o[id]? with
   |some (.map es kt pu)=>
    if(pu=true/\(ρ v).pure=false)\/kt≠(ks,ka) then none else
    match nV kv es 0 with
    |some (some (i,_))=>some (.ud,o.set id (.map (es.modify i λ_=>(kv,ρ v)) kt pu))
    |some none=>some (.ud,o.set id (.map (es++[(kv,ρ v)]) kt pu))
    |none=>none
   |_=>none
  |_,_=>none
def V7 (x:Operand) (_call:cV) (ρ:Operand->AV) (o:Store) (_nid:Nat):Option (AV×Store):=some (ρ x,o)
def V8 (c:Operand) (a:Operand) (b:Operand) (_call:cV) (ρ:Operand->AV) (o:Store) (_nid:Nat):Option (AV×Store):=match ρ c with
  | .sc (.bool true)=>some (ρ a,o)
  | .sc (.bool false)=>some (ρ b,o)
  |_=>none
def V9 (z:List Value) (e:TypeId) (pu:Bool) (_call:cV) (_ρ:Operand->AV) (o:Store) (bB:Nat):Option (AV×Store):=(kX bB (.cells (z.map .sc) e z.length pu) o).map λo'=>(.ptr bB 0 z.length,o')
def Wa (e:TypeId) (x:Operand) (_call:cV) (ρ:Operand->AV) (o:Store) (bB:Nat):Option (AV×Store):=if eF (ρ x).cellsOf then(kX bB (.cells (ρ x).cellsOf e (ρ x).cellsOf.length false) o).map λo'=>(.ptr bB 0 (ρ x).cellsOf.length,o') else none
def Wb (z:List Value) (parts:List (Nat×Nat×Operand)) (_call:cV) (ρ:Operand->AV) (o:Store) (_nid:Nat):Option (AV×Store):=(lz (parts.map λp=>(p.1,p.2.1,ρ p.2.2)) (z.map .sc)).map λcs=>(.agg cs,o)
def Wc (z:List Value) (len:Nat) (parts:List (Nat×Operand)) (e:TypeId) (sz:Nat) (_call:cV) (ρ:Operand->AV) (o:Store) (bB:Nat):Option (AV×Store):=
  match lz (parts.map λp=>(p.1,sz,ρ p.2)) ((ε len (z.map AV.sc)).flatten) with
  |some cs=>(kX bB (.cells (eu (dr cs) cs) e sz (dr cs)) o).map λo'=>(.os bB 0 len (len*sz),o')
  |none=>none
def Wg (z:List Value) (len:Nat) (parts:List (Nat×Operand)) (_a3:TypeId) (sz:Nat) (_call:cV) (ρ:Operand->AV) (o:Store) (_nid:Nat):Option (AV×Store):=
  match lz (parts.map λp=>(p.1,sz,ρ p.2)) ((ε len (z.map AV.sc)).flatten) with
  |some cs=>if dr cs=true then some (.sl len (eu true cs),o) else none
  |none=>none
def Wh (n:Option Nat) (a:Operand) (_call:cV) (ρ:Operand->AV) (o:Store) (_nid:Nat):Option (AV×Store):=match behind o (ρ a) with
  |some (cs,off)=>(gp cs off n).map (·,o)
  |none=>none
def Wi (n:Nat) (a:Operand) (x:Operand) (_call:cV) (ρ:Operand->AV) (o:Store) (_nid:Nat):Option (AV×Store):=match ρ a with
  | .ptr id off tot=>match o[id]? with
   |some (.cells cs e sz pu)=>
    let v:=(ρ x).cellsOf;if cs.length=tot/\v.length=n/\eF v=true/\off+n<=cs.length/\(pu=false\/dr v=true) then some (.ud,o.set id (.cells (fZ cs off (eu pu v)) e sz pu)) else none
   |_=>none
  |_=>none
def Wj (x:Operand) (_call:cV) (ρ:Operand->AV) (o:Store) (_nid:Nat):Option (AV×Store):=match ρ x with
  | .ptr a b c=>some (.ptr a b c,o)
  | .ep a b=>some (.ep a b,o)
  |_=>none
def Wl (op:BinOp) (x:Operand) (y:Operand) (_call:cV) (ρ:Operand->AV) (o:Store) (_nid:Nat):Option (AV×Store):=match ρ x,ρ y with
  | .sc a,.sc b=>(gK op a b).map λv=>(.sc v,o)
  |_,_=>none
def Wm (neg:Bool) (x:Operand) (y:Operand) (_call:cV) (ρ:Operand->AV) (o:Store) (_nid:Nat):Option (AV×Store):=match ρ x,ρ y with
  | .sc (.bool a),.sc (.bool b)=>some (.sc (.bool (if neg then !(a==b) else a==b)),o)
  |_,_=>none
def Wn (neg:Bool) (ks:List Nat) (x:Operand) (y:Operand) (_call:cV) (ρ:Operand->AV) (o:Store) (_nid:Nat):Option (AV×Store):=match ρ x,ρ y with
  | .agg a,.agg b=>(wG ks a b).map λr=>(.sc (.bool (if neg then !r else r)),o)
  |_,_=>none
def Wp (op:UnOp) (x:Operand) (_call:cV) (ρ:Operand->AV) (o:Store) (_nid:Nat):Option (AV×Store):=(y5 op (ρ x)).map (·,o)
def Wq (k:IntKind) (x:Operand) (_call:cV) (ρ:Operand->AV) (o:Store) (_nid:Nat):Option (AV×Store):=match ρ x with
  | .sc (.int _ n)=>some (.sc (.int k (eQ k n)),o)
  |_=>none
def Ws (off:Nat) (x:Operand) (_call:cV) (ρ:Operand->AV) (o:Store) (_nid:Nat):Option (AV×Store):=(oL off (ρ x)).map (·,o)
def Wt (off:Nat) (n:Option Nat) (x:Operand) (_call:cV) (ρ:Operand->AV) (o:Store) (_nid:Nat):Option (AV×Store):=match ρ x with
  | .agg cs=>(gp cs off n).map (·,o)
  |_=>none
def Wu (len:Nat) (sz:Nat) (x:Operand) (i:Operand) (_call:cV) (ρ:Operand->AV) (o:Store) (_nid:Nat):Option (AV×Store):=match gZ (ρ i) with
  |some n=>if 0<=n/\n<len then(oL (n.toNat*sz) (ρ x)).map (·,o) else none
  |none=>none
def Wv (sz:Nat) (x:Operand) (i:Operand) (_call:cV) (ρ:Operand->AV) (o:Store) (_nid:Nat):Option (AV×Store):=match gZ (ρ i) with
  |some n=>(qo o sz (ρ x) n).map (·,o)
  |none=>none
def Ww (len:Nat) (sz:Nat) (n:Option Nat) (x:Operand) (i:Operand) (_call:cV) (ρ:Operand->AV) (o:Store) (_nid:Nat):Option (AV×Store):=match gZ (ρ i),ρ x with
  |some k,.agg cs=>if 0<=k/\k<len then(gp cs (k.toNat*sz) n).map (·,o) else none
  |_,_=>none
def Wx (x:Operand) (i:Operand) (_call:cV) (ρ:Operand->AV) (o:Store) (_nid:Nat):Option (AV×Store):=match gZ (ρ i),ρ x with
  |some k,.sc (.string s)=>if 0<=k then(s[k.toNat]?).map λb=>(.sc (.int .u8 b.toNat),o) else none
  |_,_=>none
def Wy (z:List Value) (e:TypeId) (sz:Nat) (a:Nat) (l:Operand) (c:Operand) (pu:Bool) (b:cV) (ρ:Operand->AV) (o:Store) (bB:Nat):Option (AV×Store):=match gZ (ρ l),gZ (ρ c) with
  |some n,some m=>if 0<=n/\n<=m/\m*a<=140737488355328/\m<=1000000000000 then
    (kX bB (.cells ((ε n.toNat (eu pu (z.map AV.sc))).flatten) e sz pu) o).map λd=>(.os bB 0 n.toNat (n.toNat*sz),d) else none
  |_,_=>none
def Wz (sz:Nat) (x:Operand) (lo:Option Operand) (hi:Option Operand) (_call:cV) (ρ:Operand->AV) (o:Store) (_nid:Nat):Option (AV×Store):=(qq o sz (ρ x) (lo.map ρ) (hi.map ρ)).map (·,o)
def WA (sz:Nat) (x:Operand) (lo:Option Operand) (hi:Operand) (mx:Operand) (_call:cV) (ρ:Operand->AV) (o:Store) (_nid:Nat):Option (AV×Store):=(sw o sz (ρ x) (lo.map ρ) (ρ hi) (ρ mx)).map (·,o)
def WC (x:Operand) (lo:Option Operand) (hi:Option Operand) (_call:cV) (ρ:Operand->AV) (o:Store) (_nid:Nat):Option (AV×Store):=match ρ x with
  | .sc (.string s)=>match hJ 0 (lo.map ρ),hJ s.size (hi.map ρ) with
   |some l,some h=>if l<=h/\h<=s.size then some (.sc (.string (s.extract l h)),o) else none
   |_,_=>none
  |_=>none
def WE (e:TypeId) (sz:Nat) (a:Nat) (s:Operand) (x:Operand) (pu:Bool) (b:cV) (ρ:Operand->AV) (o:Store) (bB:Nat):Option (AV×Store):=qp e sz a pu (ρ s) (ρ x) o bB
def WG (k:Nat) (x:Operand) (_call:cV) (ρ:Operand->AV) (o:Store) (_nid:Nat):Option (AV×Store):=(lx o k (ρ x)).map λ(n:Nat)=>(.sc (.int .i64 n),o)
def WH (n:Nat) (_call:cV) (_ρ:Operand->AV) (o:Store) (_nid:Nat):Option (AV×Store):=some (.sc (.int .i64 n),o)
def WI (mx:Bool) (x:Operand) (y:Operand) (_call:cV) (ρ:Operand->AV) (o:Store) (_nid:Nat):Option (AV×Store):=match ρ x,ρ y with
  | .sc (.int k a),.sc (.int k' b)=>if k=k' then some (.sc (.int k (if mx then(if b>a then b else a) else(if b<a then b else a))),o) else none
  |_,_=>none
def WJ (f:FuncId) (args:List Operand) (own:Bool) (call:cV) (ρ:Operand->AV) (o:Store) (_nid:Nat):Option (AV×Store):=gA call f (args.map ρ) o own
def Nc (f:Operand) (args:List Operand) (own:Bool) (call:cV) (ρ:Operand->AV) (o:Store) (_nid:Nat):Option (AV×Store):=match ρ f with
  | .fn (.func g) first captured=>gA call g (first++args.map ρ++captured) o own
  |_=>none
def WL (x:Operand) (i:Nat) (_call:cV) (ρ:Operand->AV) (o:Store) (_nid:Nat):Option (AV×Store):=match ρ x with
  | .bH vs=>(vs[i]?).map (·,o)
  |_=>none
def WM (f:Fn) (first:List Operand) (captured:List Operand) (_call:cV) (ρ:Operand->AV) (o:Store) (_nid:Nat):Option (AV×Store):=some (.fn f (first.map ρ) (captured.map ρ),o)
def WN (t:TypeId) (x:Operand) (_call:cV) (ρ:Operand->AV) (o:Store) (_nid:Nat):Option (AV×Store):=match ρ x with
  | .agg cs=>if dr cs=true then some (.iU t cs,o) else none
  |_=>none
def Nh (tab:List (TypeId×FuncId)) (x:Operand) (args:List Operand) (call:cV) (ρ:Operand->AV) (o:Store) (_nid:Nat):Option (AV×Store):=match ρ x with
  | .iU t cs=>match uY tab t with
   |some f=>gA call f (.agg cs::args.map ρ) o false
   |none=>none
  |_=>none
def WO (kt:List Nat×Bool) (pu:Bool) (_call:cV) (_ρ:Operand->AV) (o:Store) (bB:Nat):Option (AV×Store):=(kX bB (.map [] kt pu) o).map λo'=>(.mp bB,o')
def WQ (z:List Value) (agg:Bool) (ks:List Nat) (ka:Bool) (x:Operand) (k:Operand) (ok:Bool) (_call:cV) (ρ:Operand->AV) (o:Store) (_nid:Nat):Option (AV×Store):=match ρ x,ly ks ka (ρ k) with
  | .mp id,some kv=>match o[id]? with
   |some (.map es kt _)=>if kt=(ks,ka) then match nV kv es 0,rf z agg with
    |some (some (_,v)),_=>some (if ok then .bH [v,.sc (.bool true)] else v,o)
    |some none,some v=>some (if ok then .bH [v,.sc (.bool false)] else v,o)
    |_,_=>none
    else none
   |_=>none
  |_,_=>none
def WR (ks:List Nat) (ka:Bool) (x:Operand) (k:Operand) (v:Operand) (_call:cV) (ρ:Operand->AV) (o:Store) (_nid:Nat):Option (AV×Store):=match ρ x,ly ks ka (ρ k) with
  | .mp id,some kv=>match o[id]? with
   |some (.map es kt pu)=>
    if(pu=true/\(ρ v).pure=false)\/kt≠(ks,ka) then none else
    match nV kv es 0 with
    |some (some (i,_))=>some (.ud,o.set id (.map (es.modify i λ_=>(kv,ρ v)) kt pu))
    |some none=>some (.ud,o.set id (.map (es++[(kv,ρ v)]) kt pu))
    |none=>none
   |_=>none
  |_,_=>none
def F2 (op:cE):cV->(Operand->AV)->Store->Nat->Option (AV×Store):=
 match op with
 | .uQ x=>V7 x
 | .pick c a b=>V8 c a b
 | .alloc z e pu=>V9 z e pu
 | .box e x=>Wa e x
 | .build z parts=>Wb z parts
 | .pE z len parts e sz=>Wc z len parts e sz
 | .tn z len parts a3 sz=>Wg z len parts a3 sz
 | .load n a=>Wh n a
 | .store n a x=>Wi n a x
 | .uR x=>Wj x
 | .bin op x y=>Wl op x y
 | .beq neg x y=>Wm neg x y
 | .sg neg ks x y=>Wn neg ks x y
 | .un op x=>Wp op x
 | .conv k x=>Wq k x
 | .uS off x=>Ws off x
 | .field off n x=>Wt off n x
 | .uT len sz x i=>Wu len sz x i
 | .sj sz x i=>Wv sz x i
 | .idx len sz n x i=>Ww len sz n x i
 | .wF x i=>Wx x i
 | .ql z e sz bytes l c pu=>Wy z e sz bytes l c pu
 | .slice sz x lo hi=>Wz sz x lo hi
 | .slice3 sz x lo hi mx=>WA sz x lo hi mx
 | .uU x lo hi=>WC x lo hi
 | .append e sz bytes s x pu=>WE e sz bytes s x pu
 | .len k x=>WG k x
 | .uV n=>WH n
 | .mm mx x y=>WI mx x y
 | .call f args own=>WJ f args own
 | .jG f args own=>Nc f args own
 | .extract x i=>WL x i
 | .tq f first captured=>WM f first captured
 | .uW t x=>WN t x
 | .oJ tab x args=>Nh tab x args
 | .qm kt pu=>WO kt pu
 | .lookup z agg ks ka x k ok=>WQ z agg ks ka x k ok
 | .rc ks ka x k v=>WR ks ka x k v
def qs (call:cV) (op:cE) (ρ:Operand->AV) (o:Store) (bB:Nat):Option (AV×Store):=F2 op call ρ o bB
theorem y7 (call:cV) (a:cE) (ρ:Operand->AV) (o:Store) (bB:Nat):qs call a ρ o bB=bK call a ρ o bB:=by
 cases a<;>rfl
def mK (env:jg) (g:Option (Option Nat×Bool)):Option Bool:=
 match g with
 |none=>some true
 |some (none,_)=>none
 |some (some s,b)=>match dI env s with
  | .sc (.bool c)=>some (c==b)
  | .bH []=>some false
  |_=>none
def hZ (call:cV) (base:Nat) (i:dp) (st:St):Option St:=
 match mK st.env i.guard with
 |none=>none
 |some false=>some ⟨oH st.env i.dst (.bH []),st.o⟩
 |some true=>match qs call i.op (eC st.env) st.o (base+i.bB) with
  |some (v,o')=>some ⟨oH st.env i.dst v,o'⟩
  |none=>none
def gd (call:cV) (base:Nat):List dp->St->Option St
 |[],st=>some st
 |i::r,st=>match hZ call base i st with
  |some st'=>gd call base r st'
  |none=>none
def fi:AV->List Nat
 | .ptr id _ _=>[id]
 | .os id _ _ _=>[id]
 | .mp id=>[id]
 |_=>[]
def dO (op:cE) (ρ:Operand->AV) (o:Store) (bB:Nat):List Nat:=
 match op with
 | .load _ a=>fi (ρ a)
 | .sj _ x _=>fi (ρ x)
 | .slice _ x _ _=>fi (ρ x)
 | .slice3 _ x _ _ _=>fi (ρ x)
 | .len _ x=>fi (ρ x)
 | .lookup _ _ _ _ x _ _=>fi (ρ x)
 | .call _ args false=>(args.map ρ).flatMap (fh o 6)
 | .jG f args false=>match ρ f with
  | .fn _ first captured=>(first++args.map ρ++captured).flatMap (fh o 6)
  |_=>[]
 | .call _ args true=>cJ o fD (args.map ρ) []
 | .jG f args true=>match ρ f with
  | .fn _ first captured=>cJ o fD (first++args.map ρ++captured) []
  |_=>[]
 | .oJ _ x args=>match ρ x with
  | .iU _ cs=>(.agg cs::args.map ρ).flatMap (fh o 6)
  |_=>[]
 | .alloc .. | .box .. | .pE .. | .ql .. | .qm .. =>[bB]
 | .store _ a _=>fi (ρ a)
 | .append _ _ _ s x _=>bB::(fi (ρ s)++fi (ρ x))
 | .rc _ _ x _ _=>fi (ρ x)
 |_=>[]
def wrt (op:cE) (ρ:Operand->AV) (o:Store) (bB:Nat):List Nat:=
 match op with
 | .alloc .. | .box .. | .pE .. | .ql .. | .qm .. =>[bB]
 | .store _ a _=>fi (ρ a)
 | .append _ _ _ s _ _=>bB::fi (ρ s)
 | .call _ args true=>cJ o fD (args.map ρ) []
 | .jG f args true=>match ρ f with
  | .fn _ first captured=>cJ o fD (first++args.map ρ++captured) []
  |_=>[]
 | .rc _ _ x _ _=>fi (ρ x)
 |_=>[]
open Classical in
noncomputable def ec (call:cV) (op:cE) (ρ:Operand->AV) (o:Store) (bB:Nat):List Nat:=
 match op with
 | .call f args true=>match iH call f (args.map ρ) o with
  |some (_,o')=>(cJ o fD (args.map ρ) []).filter λj=>decide (o'[j]?≠o[j]?)
  |none=>[]
 |op=>wrt op ρ o bB
abbrev Trace:=List (Nat×List Nat×List Nat)
noncomputable def mL (call:cV) (base:Nat):List dp->St->Trace
 |[],_=>[]
 |i::r,st=>(match mK st.env i.guard with
   |some true=>(i.idx,dO i.op (eC st.env) st.o (base+i.bB),ec call i.op (eC st.env) st.o (base+i.bB))
   |_=>(i.idx,[],[]))::match hZ call base i st with
  |some st'=>mL call base r st'
  |none=>[]
def wH (a b:List Nat):Bool:=a.all λx=>!b.contains x
def qt (tr:Trace) (i:Nat):List Nat×List Nat:=
 match tr with
 |[]=>([],[])
 |(j,x)::r=>if j==i then x else qt r i
def tu (n:Nat) (tr:Trace) (kz:List (Nat×Nat)):Bool:=
 kz.all λp=>let a:=qt tr p.1;let b:=qt tr p.2;wH a.2 b.1&&wH b.2 a.1&&a.1.all (λi=>decide (i<n))&&b.1.all (λi=>decide (i<n))
def gh (k:Nat):Store:=ε k .dead
def rh (base:Nat) (o:Store):Store:=if(o.drop base).all (·.ni) then o.take base else o
noncomputable def pG (call:cV) (k:Nat) (ops:List dp) (kz:List (Nat×Nat)) (st:St):Option St:=
 let st0:St:=⟨st.env,st.o++gh k⟩;match gd call st.o.length ops st0 with
 |some st'=>if kz.isEmpty||tu st0.o.length (mL call st.o.length ops st0) kz then some ⟨st'.env,if k=0 then st'.o else rh st.o.length st'.o⟩ else none
 |none=>none
mutual
def AV.bT (o:Store) (p:Nat->Bool):AV->Option AV
 | .os id off len tot=>if p id then match o[id]? with
   |some (.cells cs _ sz pu)=>if pu then(if cs.length=tot/\off+len*sz<=tot then some (.sl len ((cs.drop off).take (len*sz))) else none) else some (.os id off len tot)
   |_=>some (.os id off len tot)
  else some (.os id off len tot)
 | .ptr id off tot=>if p id then match o[id]? with
   |some (.cells _ _ _ pu)=>if pu then none else some (.ptr id off tot)
   |_=>some (.ptr id off tot)
  else some (.ptr id off tot)
 | .agg cs=>(gP o p cs).map .agg
 | .bH cs=>(gP o p cs).map .bH
 | .fn f a b=>match gP o p a,gP o p b with
  |some a',some b'=>some (.fn f a' b')
  |_,_=>none
 |v=>some v
def gP (o:Store) (p:Nat->Bool):List AV->Option (List AV)
 |[]=>some []
 |c::cs=>match c.bT o p,gP o p cs with
  |some c',some cs'=>some (c'::cs')
  |_,_=>none
end
def qu (o:Store) (p:Nat->Bool):List (Value×AV)->Option (List (Value×AV))
 |[]=>some []
 |e::es=>match e.2.bT o p,qu o p es with
  |some v,some es'=>some ((e.1,v)::es')
  |_,_=>none
def bP.bT (o:Store) (p:Nat->Bool):bP->Option bP
 | .dead=>some .dead
 | .cells cs e sz pu=>if pu then some (.cells cs e sz pu) else(gP o p cs).map λcs'=> .cells cs' e sz pu
 | .map es kt pu=>if pu then some (.map es kt pu) else(qu o p es).map λes'=> .map es' kt pu
def jh (o:Store) (p:Nat->Bool):Store->Option Store
 |[]=>some []
 |x::r=>match x.bT o p,jh o p r with
  |some y,some l=>some (y::l)
  |_,_=>none
def fE (p:Nat->Bool):Nat->Store->Store
 |_,[]=>[]
 |i,x::r=>(match x with
  | .cells cs e sz true=>if p i then .dead else .cells cs e sz true
  |x=>x)::fE p (i+1) r
def uZ (o:Store) (p:Nat->Bool):jg->Option jg
 |[]=>some []
 |(k,v)::r=>match v.bT o p,uZ o p r with
  |some v',some r'=>some ((k,v')::r')
  |_,_=>none
def BF (h:ky) (st:St):Option AV:=
 match h.off with
 |none=>some (dI st.env h.slot)
 |some k=>match behind st.o (dI st.env h.slot) with
  |some (cs,off)=>cs[off+k]?
  |none=>none
def BG (id:Nat) (st:St):St:=
 match st.o[id]? with
 |some (.cells cs e sz true)=>⟨st.env,st.o.set id (.cells cs e sz false)⟩
 |_=>st
def BH (h:ky) (st:St):St:=
 match h.off with
 |none=>match dI st.env h.slot with
  | .sc (.slice none 0 0)=>⟨(h.slot,.os st.o.length 0 0 0)::st.env,st.o++[.cells [] h.e h.sz h.pu]⟩
  | .os id _ _ _=>if h.sz=0 then BG id st else st
  |_=>st
 |some k=>match dI st.env h.slot with
  | .ptr id off tot=>match st.o[id]? with
   |some (.cells cs e sz pu)=>match cs[off+k]? with
    |some (.sc (.slice none 0 0))=>
     if cs.length=tot/\pu=false then⟨st.env,(st.o.set id (.cells (cs.set (off+k) (.os st.o.length 0 0 0)) e sz pu))++[.cells [] h.e h.sz h.pu]⟩ else st
    |_=>st
   |_=>st
  |_=>st
def BI (id:Nat) (st:St):St:=
 let p:Nat->Bool:=λi=>i==id;match uZ st.o p st.env,jh st.o p st.o with
 |some env,some o=>⟨env,fE p 0 o⟩
 |_,_=>st
def y8 (id:Nat) (st:St):St:=
 match st.o[id]? with
 |some (.cells cs e sz false)=>if dr cs then⟨st.env,st.o.set id (.cells cs e sz true)⟩ else st
 |_=>st
def jW (lo:Nat) (h:ky) (st:St):St:=
 if h.own then BH h st
 else match BF h st with
  |some (.os id _ _ _)=>if Nat.ble lo id then BI id (y8 id st) else st
  |_=>st
def prune (live:List Nat) (env:jg):jg:=live.map λs=>(s,dI env s)
inductive Out where
 |norm
 |exit (id:Nat)
 |ret
 |goto (l:Nat)
 deriving DecidableEq
def trim (k:Nat) (st:St):St:=
 if st.o.length<=k then st
 else if(st.env.all λp=>p.2.bY k)&&((st.o.take k).all λx=>x.bY k) then⟨st.env,st.o.take k⟩ else st
structure nk where
 slot:Nat
 cell:Option (Option Nat)
structure fj where
 params:Nat
 ntmps:Nat
 body:IR
 res:List nk
def ri (st:St) (r:nk):Option AV:=
 match r.cell with
 |none=>some (dI st.env r.slot)
 |some n=>match behind st.o (dI st.env r.slot) with
  |some (cs,off)=>gp cs off n
  |none=>none
def nW (st:St) (rs:List nk):Option AV:=
 match rs.mapM (ri st) with
 |some [v]=>some v
 |some vs=>some (.bH vs)
 |none=>none
def lQ (k:Nat) (r:AV) (o:Store):Option (AV×Store):=
 match r.bT o (λi=>decide (k<=i)),jh o (λi=>decide (k<=i)) o with
 |some r1,some o1=>
  let o2:=fE (λi=>decide (k<=i)) 0 o1;let ids:=cJ o2 fD (r1::(o2.take k).flatMap bP.y9) (π k);if iH.pF ids then
   match r1.ren (λj=>idxOf ids j),kY o2 ids ids with
   |some r2,some s2=>some (r2,s2)
   |_,_=>none
  else none
 |_,_=>none
where bP.y9:bP->List AV
 | .cells cs _ _ pu=>if pu then[] else cs
 | .map es _ pu=>if pu then[] else es.map (·.2)
 | .dead=>[]
def finish (own:Bool) (k:Nat) (r:AV) (o:Store):Option (AV×Store):=
 if own then lQ k r o
 else match k with
  |0=>match freeze o 6 r with
   |some r'=>some (r',[])
   |none=>none
  |_+1=>none
def ic:Nat->List AV->jg
 |_,[]=>[]
 |i,v::vs=>(i,v)::ic (i+1) vs
structure Tab where
 fn:FuncId->Option fj
 K:cV
def rj (ex:IR->St->Option (Out×St)):IR->St->Option St
 | .skip,st=>some st
 | .seq x y,st=>match ex x st with
  |some (.norm,st')=>rj ex y st'
  |_=>none
 |_,_=>none
def rk:Out->Bool
 | .norm| .ret=>true
 |_=>false
def F3 (ex:Nat->IR->St->Option (Out×St)) (F:Option fj) (cs:List AV) (s:St):Option (Out×St):=match F with
 |some F=>if cs.length=F.params/\F.res.isEmpty=true then match ex s.o.length F.body ⟨ic 0 cs,s.o⟩ with
  |some (out,s3)=>if rk out=true then some (.ret,⟨s.env,s3.o⟩) else none
  |none=>none else none
 |none=>none
def tB (T:Tab) (ex:Nat->IR->St->Option (Out×St)) (lo:Nat) (c:IR) (st:St):Option (Out×St):=match c with
 | .tt g caps d a b=>match rj (ex lo) a st with
  |some s0=>match ex s0.o.length b ⟨(d,.ud)::s0.env,s0.o⟩ with
   |some (out,s2)=>if rk out=true then F3 ex (T.fn g) (caps.map (eC s0.env)) s2 else none
   |none=>none
  |none=>none
 |c=>ex lo c st
def qw (T:Tab) (ex:Nat->IR->St->Option (Out×St)):cV:=λf args o own=>
 match T.K f args o own with
 |some r=>some r
 |none=>match T.fn f with
  |none=>none
  |some F=>if args.length=F.params then
    match tB T ex o.length F.body ⟨ic 0 args,o⟩ with
    |some (.norm,st)|some (.ret,st)=>match nW st F.res with
     |some r=>finish own o.length r st.o
     |none=>none
    |_=>none
   else none
def rm (t:Nat):jg->jg
 |[]=>[]
 |p::r=>bif δx p.1 t then rm t r else p::rm t r
def pH (x:Operand) (env:jg):jg:=
 match x with
 | .tmp t=>rm t env
 |_=>env
inductive Md where
 |plain
noncomputable def F4 (_:Md) (_:Bool) (call:cV) (k:Nat) (ops:List dp) (kz:List (Nat×Nat)) (st:St):Option St:=pG call k ops kz st
noncomputable def exec (T:Tab):Md->Nat->Nat->IR->St->Option (Out×St)
 |_,0,_,_,_=>none
 |md,n+1,lo,c,st=>
  match c with
  | .skip=>some (.norm,st)
  | .region _ draw k ops kz live pre post=>match F4 md draw (qw T (exec T .plain n)) k ops kz (pre.foldl (λs h=>jW lo h s) st) with
   |some st'=>some (.norm,post.foldl (λs h=>jW lo h s) ⟨prune live st'.env,st'.o⟩)
   |none=>none
  | .seq a b=>match exec T md n lo a st with
   |some (.norm,st')=>exec T md n lo b st'
   |r=>r
  | .cond x a b=>match eC st.env x with
   | .sc (.bool true)=>exec T md n lo a ⟨pH x st.env,st.o⟩
   | .sc (.bool false)=>exec T md n lo b ⟨pH x st.env,st.o⟩
   |_=>none
  | .block id b=>match exec T md n lo b st with
   |some (.exit id',st')=>if id'=id then some (.norm,st') else some (.exit id',st')
   |r=>r
  | .loop b=>match exec T md n lo b st with
   |some (.norm,st')=>exec T md n lo (.loop b) (trim st.o.length st')
   |r=>r
  | .exit id=>some (.exit id,st)
  | .ret=>some (.ret,st)
  | .goto l=>some (.goto l,st)
  | .oK x a b=>match eC st.env x with
   | .sc (.bool true)=>exec T md n lo a st
   | .sc (.bool false)=>exec T md n lo b st
   |_=>none
  | .turns l b=>match exec T md n lo b st with
   |some (.goto l',st')=>if l=some l' then exec T md n lo (.turns l b) (trim st.o.length st') else none
   |r=>r
  | .tt .. =>none
def cE.kA:cE->List Operand
 | .uQ x| .box _ x| .load _ x| .uR x| .un _ x| .conv _ x| .uS _ x| .field _ _ x| .len _ x| .extract x _=>[x]
 | .pick c a b=>[c,a,b]
 | .alloc .. | .uV _| .qm .. =>[]
 | .build _ ps=>ps.map (·.2.2)
 | .pE _ _ ps _ _| .tn _ _ ps _ _=>ps.map (·.2)
 | .store _ a x=>[a,x]
 | .bin _ x y| .beq _ x y| .sg _ _ x y| .mm _ x y=>[x,y]
 | .uT _ _ x i| .sj _ x i| .idx _ _ _ x i| .wF x i=>[x,i]
 | .ql _ _ _ _ l c _=>[l,c]
 | .slice _ x lo hi| .uU x lo hi=>x::(lo.toList++hi.toList)
 | .slice3 _ x lo hi mx=>x::hi::mx::lo.toList
 | .append _ _ _ s x _=>[s,x]
 | .call _ args _=>args
 | .jG f args _=>f::args
 | .tq _ a b=>a++b
 | .uW _ x=>[x]
 | .oJ _ x args=>x::args
 | .lookup _ _ _ _ x k _=>[x,k]
 | .rc _ _ x k v=>[x,k,v]
def cE.cls:cE->Nat
 | .uQ _| .pick .. | .build .. | .tn .. | .uR _| .bin .. | .beq .. | .sg .. | .un .. | .conv .. | .uS .. | .field .. | .uT .. | .idx .. | .wF .. | .uU .. | .uV _
 | .mm .. | .extract .. | .tq .. | .uW .. =>0
 | .load .. | .sj .. | .slice .. | .slice3 .. | .len .. | .lookup .. | .oJ .. | .call _ _ false| .jG _ _ false=>1
 | .alloc .. | .box .. | .pE .. | .ql .. | .qm .. | .store .. | .append .. | .rc .. =>2
 | .call _ _ true| .jG _ _ true=>3
def cE.makes:cE->Bool
 | .alloc .. | .box .. | .pE .. | .ql .. | .qm .. | .append .. =>true
 |_=>false
def tmpsOf (l:List Operand):List Nat:=l.filterMap λ| .tmp t=>some t|_=>none
def dp.reads (i:dp):List Nat:=
 tmpsOf i.op.kA++(match i.guard with|some (some s,_)=>[s]|_=>[])
def F5 (d:Option Nat) (l:List Nat):Bool:=match d with|none=>true|some d=>!l.contains d
def za (a b:dp):Bool:=
 F5 a.dst b.reads&&F5 b.dst a.reads&&(match a.dst,b.dst with|some x,some y=>x !=y|_,_=>true)
def wI (a b:dp):Bool:=a.op.cls==0||b.op.cls==0||(a.op.cls==1&&b.op.cls==1)
def BJ (a b:dp):Bool:=a.op.cls !=3||b.op.cls !=3
def wJ:Nat->List Oper->Bool
 |_,[]=>true
 |i,o::r=>o.after.toList.all (λe=>!Region.binds .any e||decide (e.on<i))&&wJ (i+1) r
structure RH where
 id:Nat
 live:List Nat
 perm:List Nat:=[]
 flags:List Nat:=[]
 pre:List ky:=[]
 post:List ky:=[]
def rq (c:TypeId->Option (List Nat)):Nat->List Field->Option (List Nat)
 |_,[]=>some []
 |b,f::d=>if f.name= "_" ∨f.offset≠b then none else match c f.type with
  |some a=>match rq c (b+a.length) d with
   |some r=>some (a++r)
   |none=>none
  |none=>none
def gu (P:Program):Nat->TypeId->Option (List Nat)
 |0,_=>none
 |d+1,t=>match P.underlying t,(P.info? t).map (·.size) with
  |some (.int _),some 1=>some [0]
  |some .bool,some 1=>some [1]
  |some .string,some 1=>some [2]
  |some (.struct b),some n=>if P.stoodInHeld t then none else match rq (gu P d) 0 b.toList with
   |some a=>if a.length=n then some a else none
   |none=>none
  |some (.array k e),some n=>match gu P d e with
   |some a=>if n=k*a.length then some ((ε k a).flatten) else none
   |none=>none
  |_,_=>none
def fz (P:Program) (t:TypeId):Option Bool:=
 match P.underlying t with
 |some (.struct _)|some (.array _ _)=>some true
 |some _=>some false
 |none=>none
def sizeT (P:Program) (t:TypeId):Option Nat:=(P.info? t).map (·.size)
def wK (P:Program) (t:TypeId):Option Nat:=(P.info? t).map (·.bytes)
def oO (P:Program) (t:TypeId):Option (Option Nat):=
 match fz P t,sizeT P t with
 |some true,some n=>some (some n)
 |some false,some _=>some none
 |_,_=>none
def lR (P:Program) (t:TypeId):Option (List Value):=
 match(P.info? t).bind (·.zero),sizeT P t with
 |some z,some n=>if z.cells.toList.all (·.oneCell')&&z.cells.size==n then some z.cells.toList else none
 |_,_=>none
def zb (P:Program) (t:TypeId) (g:Bool):Bool:=
 match(P.info? t).bind (·.zero) with
 |some (.agg _)=>g
 |some _=>!g
 |none=>false
def BK (P:Program) (name:String) (t:TypeId):Option FuncId:=
 match P.underlying t,P.info? t with
 |some (.struct _),some i=>match i.methods.find? (·.name==name) with
  |some m=>match m.path.toList,m.func with
   |[],some (f,false)=>some f
   |_,_=>none
  |none=>none
 |_,_=>none
def wL (P:Program) (name:String):Nat->List (TypeId×FuncId)
 |0=>[]
 |t+1=>match BK P name t with
  |some f=>(t,f)::wL P name t
  |none=>wL P name t
def Ni (P:Program) (name:String):List (TypeId×FuncId):=wL P name P.types.size
def ry {d c:Type} (f:d->Option c):List d->Option (List c)
 |[]=>some []
 |a::l=>match f a,ry f l with
  |some b,some r=>some (b::r)
  |_,_=>none
def gQ (P:Program) (f:FuncId):Bool:=(P.funcs[f]?).any fun a=>a.body.isSome&&!(a.name== "runtime.NumGoroutine")
def Nj (P:Program) (a:Array Field):Option (List (Nat×Nat)):=a.toList.mapM λf=>(P.info? f.type).map λi=>(f.offset,i.size)
def Nk (a:List (Nat×Nat)) (p:Nat×Operand):Option (Nat×Nat×Operand):=(a[p.1]?).map λq=>(q.1,q.2,p.2)
def pI (P:Program) (fl:Bool) (o:Oper):Option cE:=
 match o.op with
 | .move x| .assign x=>some (.uQ x)
 | .pick c a b=>some (.pick c a b)
 | .alloc e=>(lR P e).map λz=> .alloc z e fl
 | .box e x=>some (.box e x)
 | .build t parts=>match lR P t,P.underlying t with
  |some z,some (.struct fields)=>match Nj P fields with
   |some places=>(ry (Nk places) parts.toList).map λps=> .build z ps
   |none=>none
  |some z,some (.array _ e)=>(sizeT P e).map λn=> .build z (parts.toList.map λp=>(p.1*n,n,p.2))
  |_,_=>none
 | .buildSlice t len parts=>match P.underlying t with
  |some (.slice e)=>match lR P e with
   |some z=>if len*z.length<=16777216/\0<z.length then some (if fl then .tn z len (parts.toList.map λp=>(p.1*z.length,p.2)) e z.length else .pE z len (parts.toList.map λp=>(p.1*z.length,p.2)) e z.length) else none
   |none=>none
  |_=>none
 | .load t a=>(oO P t).map λn=> .load n a
 | .store t a x=>(sizeT P t).map λn=> .store n a x
 | .nilCheck x=>some (.uR x)
 | .binOp op t x y _=>match op with
  | .eql| .neq=>match P.underlying t with
   |some (.struct _)|some (.array _ _)=>if 20<=P.depth then(gu P 20 t).map λks=> .sg (op matches .neq) ks x y else none
   |some .bool=>some (.beq (op matches .neq) x y)
   |some (.int _)|some .string=>some (.bin op x y)
   |_=>none
  |_=>some (.bin op x y)
 | .unOp op _ x=>some (.un op x)
 | .convert s d x=>match P.underlying s,P.underlying d with
  |some _,some (.int k)=>some (.conv k x)
  |_,_=>none
 | .fieldAddr s x f=>match P.underlying s with
  |some (.struct fs)=>match fs[f]? with
   |some g=>match sizeT P g.type with
    |some n=>if n=0 then none else some (.uS g.offset x)
    |none=>none
   |none=>none
  |_=>none
 | .field t x f=>match P.underlying t with
  |some (.struct fs)=>match fs[f]? with
   |some g=>(oO P g.type).map λn=> .field g.offset n x
   |none=>none
  |_=>none
 | .indexAddr t x i=>match P.underlying t with
  |some (.array len e)=>(sizeT P e).map λn=> .uT len n x i
  |some (.slice e)=>match sizeT P e with
   |some n=>if n=0 then none else some (.sj n x i)
   |none=>none
  |_=>none
 | .index t x i=>match P.underlying t with
  |some (.array len e)=>match sizeT P e,oO P e with
   |some s,some n=>some (.idx len s n x i)
   |_,_=>none
  |some .string=>some (.wF x i)
  |_=>none
 | .makeSlice t l c=>match P.underlying t with
  |some (.slice e)=>match lR P e,wK P e with
   |some z,some b=>if 0<z.length then some (.ql z e z.length b l c fl) else none
   |_,_=>none
  |_=>none
 | .slice t x lo hi none=>match P.underlying t with
  |some (.slice e)=>match sizeT P e with
   |some n=>if n=0 then none else some (.slice n x lo hi)
   |none=>none
  |some .string=>some (.uU x lo hi)
  |_=>none
 | .slice t x lo (some hi) (some mx)=>match P.underlying t with
  |some (.slice e)=>match sizeT P e with
   |some n=>if n=0 then none else some (.slice3 n x lo hi mx)
   |none=>none
  |_=>none
 | .call c=>match c.callee with
  | .value (.func f)=>if gQ P f then some (.call f c.args.toList fl) else none
  | .value v=>some (.jG v c.args.toList fl)
  | .invoke x name=>if fl then none else some (.oJ (Ni P name) x c.args.toList)
  | .builtin .append=>match c.args.toList,c.argTypes.toList with
   |[s,x],[t,t']=>if t=t' then match P.underlying t with
     |some (.slice e)=>match lR P e,wK P e with
      |some z,some b=>if 0<z.length then some (.append e z.length b s x fl) else none
      |_,_=>none
     |_=>none
    else none
   |_,_=>none
  | .builtin .len=>match c.args.toList,c.argTypes.toList with
   |[x],[t]=>match P.underlying t with
    |some (.slice _)=>some (.len 0 x)
    |some .string=>some (.len 1 x)
    |some (.map _ _)=>some (.len 2 x)
    |some (.array n _)=>some (.uV n)
    |_=>none
   |_,_=>none
  | .builtin .min=>match c.args.toList with
   |[x,y]=>some (.mm false x y)
   |_=>none
  | .builtin .max=>match c.args.toList with
   |[x,y]=>some (.mm true x y)
   |_=>none
  |_=>none
 | .extract x i=>some (.extract x i)
 | .makeFunc f a b=>match f with
  | .func g=>some (.tq (.func g) a.toList b.toList)
  |_=>none
 | .makeInterface t x=>match P.underlying t with
  |some (.struct _)=>some (.uW t x)
  |_=>none
 | .makeMap t none=>match P.underlying t with
  |some (.map kt _)=>match gu P 20 kt,fz P kt with
    |some ks,some ka=>some (.qm (ks,ka) fl)
    |_,_=>none
  |_=>none
 | .lookup t x k ok=>match P.underlying t with
  |some (.map kt et)=>match gu P 20 kt,fz P kt,lR P et,fz P et with
    |some ks,some ka,some z,some g=>if zb P et g then some (.lookup z g ks ka x k ok) else none
    |_,_,_,_=>none
  |_=>none
 | .mapUpdate t m k v| .insert t m k v=>match P.underlying t with
  |some (.map kt _)=>match gu P 20 kt,fz P kt with
    |some ks,some ka=>some (.rc ks ka m k v)
    |_,_=>none
  |_=>none
 |_=>none
def BL (a:Nat):Option Nat->Bool
 |none=>true
 |some d=>decide (d<a)
def rA (P:Program) (c:Nat) (fl:List Nat) (a:Array Oper) (bB i:Nat):Option dp:=
 match a[i]? with
 |none=>none
 |some o=>if BL c o.dst then(pI P (fl.contains i) o).map λb=>⟨i,bB,o.dst,b,o.guard.map λg=>(((a[g.1]?).bind (·.dst)),g.2)⟩ else none
def u7 (P:Program) (b:Nat) (fl:List Nat) (a:Array Oper):Nat->List Nat->Option (List dp×Nat)
 |k,[]=>some ([],k)
 |k,i::r=>match rA P b fl a k i with
  |none=>none
  |some x=>match u7 P b fl a (if x.op.makes then k+1 else k) r with
   |none=>none
   |some (l,n)=>some (x::l,n)
def BM (acc:List Nat) (s:Nat) (e:Edge):Nat:=if Region.binds .any e then s |||(2^e.on |||acc.getD e.on 0) else s
def oP (b:Array Oper):List Nat:=
 b.toList.foldl (λa o=>a++[o.after.toList.foldl (BM a) 0]) []
def rB (c:List Nat):List dp->List (Nat×Nat)
 |[]=>[]
 |a::r=>(r.filterMap λb=>if(c.getD b.idx 0).testBit a.idx||wI a b then none else some (a.idx,b.idx))++rB c r
def wM (c:List Nat):List dp->Bool
 |[]=>true
 |a::r=>r.all (λb=>(c.getD b.idx 0).testBit a.idx||(za a b&&(wI a b||BJ a b)))&&wM c r
def nodupB:List Nat->Bool
 |[]=>true
 |a::r=>!r.contains a&&nodupB r
def wO (P:Program) (d:Nat) (H:List RH) (id:Nat) (a:Array Oper) (c:Bool):Option IR:=
 match H.find? (·.id==id) with
 |none=>none
 |some h=>
  if c then
   let b:=if h.perm.isEmpty then π a.size else h.perm;match u7 P d h.flags a 0 b with
   |some (l,k)=>if P.follows .mixedOrders&&b.length==a.size&&nodupB b&&wM (oP a) l&&wJ 0 a.toList&&(π a.size).all b.contains then some (.region id true k l (rB (oP a) l) h.live h.pre h.post) else none
   |none=>none
  else(u7 P d h.flags a 0 (π a.size)).map λ(l,k)=> .region id false k l [] h.live h.pre h.post
def BN:Code->Bool
 | .seq a b| .cond _ a b=>BN a||BN b
 | .block _ b| .loop b| .scope b=>BN b
 | .goto _=>true
 |_=>false
def BO:Code->Option Nat
 | .seq (.label l) c=>if BN c then some l else none
 |_=>none
def Nl (H:List RH):Operand->Bool
 | .tmp t=>match H.find? (·.id==999999) with
  |some h=>h.live.contains t
  |none=>false
 |_=>false
def comp (P:Program) (nt:Nat) (H:List RH):Code->Option IR
 | .skip=>some .skip
 | .region id ops draw=>wO P nt H id ops draw
 | .seq a b=>match comp P nt H a,comp P nt H b with
  |some x,some y=>some (.seq x y)
  |_,_=>none
 | .cond c a b=>match comp P nt H a,comp P nt H b with
  |some x,some y=>some (if Nl H c then .oK c x y else .cond c x y)
  |_,_=>none
 | .block id b=>(comp P nt H b).map (.block id)
 | .loop b=>(comp P nt H b).map .loop
 | .exit id=>some (.exit id)
 | .ret=>some .ret
 | .label _=>some .skip
 | .goto l=>some (.goto l)
 | .scope b=>(comp P nt H b).map λx=> .turns (BO b) x
 |_=>none
def BP (h:Array Oper):Option (FuncId×List Operand×Nat):=match h.toList with
 |[f,e]=>match f.dst,f.op,f.guard,e.op,e.dst,e.guard with
  |some d,.makeFunc (.func g) a b,none,.defer c,none,none=>match c.callee with
   | .value (.tmp i)=>if i=d/\a.toList=[]/\c.args.toList=[] then some (g,b.toList,d) else none
   |_=>none
  |_,_,_,_,_,_=>none
 |_=>none
def u9 (P:Program) (f:Nat) (H:List RH):Code->Option (IR×(FuncId×List Operand×Nat)×IR)
 | .seq (.region g e d) c=>match BP e,d with
  |some x,false=>if x.2.2<f/\gQ P x.1=true then(comp P f H c).map λb=>(.skip,x,b) else none
  |_,_=>match wO P f H g e d,u9 P f H c with
   |some r,some (a,x,b)=>some (.seq r a,x,b)
   |_,_=>none
 |_=>none
def F6 (P:Program) (a:Nat) (H:List RH) (c:Code):Option IR:=match comp P a H c with
 |some b=>some b
 |none=>(u9 P a H c).map λx=> .tt x.2.1.1 x.2.1.2.1 x.2.1.2.2 x.1 x.2.2
def sy (P:Program):ResultVar->Option nk
 | .tmp t=>some ⟨t,none⟩
 | .cell a t=>(oO P t).map λn=>⟨a,some n⟩
def BQ (P:Program) (H:List RH) (a:Func):Option fj:=
 match a.body with
 |none=>none
 |some c=>match F6 P a.ntmps H c,ry (sy P) a.results.toList with
  |some b,some d=>if a.ntmps<a.params.size+a.nfree then none else some ⟨a.params.size+a.nfree,a.ntmps,b,d⟩
  |_,_=>none
end Go.Vi
