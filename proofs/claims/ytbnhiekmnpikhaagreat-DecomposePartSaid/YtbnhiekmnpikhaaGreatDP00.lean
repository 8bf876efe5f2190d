/-
  The abstract interpreter: its values, its small code, and its run. Plain definitions: no proof stands here.
  Conditions: none.
-/
import Derived.Orders
import Derived.RowKit3
set_option maxRecDepth 100000
set_option maxHeartbeats 4000000
set_option linter.all false
open BitVec renaming ofInt->γn
open List renaming replicate->δ,range->ω
open Nat renaming beq->δq
namespace Go.Vi
inductive AV where
 |ud
 |sc (v:Value)
 |agg (cs:List AV)
 |bI (cs:List AV)
 |sl (n:Nat) (cs:List AV)
 |ep (cs:List AV) (off:Nat)
 |ptr (id off tot:Nat)
 |os (id off len tot:Nat)
 |mp (id:Nat)
 |fn (f:Fn) (first captured:List AV)
 |jl (t:TypeId) (cs:List AV)
 deriving Inhabited
inductive bR where
 |dead
 |cells (cs:List AV) (e:TypeId) (sz:Nat) (pu:Bool)
 |map (es:List (Value×AV)) (kt:List Nat×Bool) (pu:Bool)
 deriving Inhabited
def y5:Value:=.slice none 0 0
def AV.qn:AV->AV
 | .sc (.slice none 0 0)=> .sl 0 []
 |v=>v
def eE (pu:Bool) (cs:List AV):List AV:=if pu then cs.map .qn else cs
def AV.cellsOf:AV->List AV
 | .agg cs=>cs
 |v=>[v]
def AV.one:AV->Bool
 | .agg _| .bI _| .ud=>false
 | .sc v=>v.oneCell'
 |_=>true
mutual
def AV.pure:AV->Bool
 | .sc _=>true
 | .sl _ cs=>dA cs
 |_=>false
def dA:List AV->Bool
 |[]=>true
 |c::cs=>c.pure&&dA cs
end
mutual
def AV.bY (k:Nat):AV->Bool
 | .ud=>true
 | .sc _=>true
 | .agg cs=>ey k cs
 | .bI cs=>ey k cs
 | .sl _ _=>true
 | .ep _ _=>true
 | .ptr id _ _=>decide (id<k)
 | .os id _ _ _=>decide (id<k)
 | .mp id=>decide (id<k)
 | .fn _ a b=>ey k a&&ey k b
 | .jl _ _=>true
def ey (k:Nat):List AV->Bool
 |[]=>true
 |c::cs=>c.bY k&&ey k cs
end
def bR.bY (k:Nat):bR->Bool
 | .dead=>true
 | .cells cs _ _ pu=>pu||ey k cs
 | .map es _ pu=>pu||ey k (es.map (·.2))
abbrev Store:=List bR
def bR.mW:bR->Bool
 | .dead=>true
 |_=>false
def kV (bC:Nat) (x:bR) (o:Store):Option Store:=
 match o[bC]? with
 |some .dead=>some (o.set bC x)
 |_=>none
abbrev jB:=List (Nat×AV)
def dM:jB->Nat->AV
 |[],_=> .ud
 |p::r,s=>bif δq p.1 s then p.2 else dM r s
def oM (env:jB) (dst:Option Nat) (v:AV):jB:=
 match dst with
 |none=>env
 |some d=>(d,v)::env
def AV.uP:Value->AV
 | .agg cs=>if cs.toList.all (·.oneCell') then .agg (cs.toList.map .sc) else .ud
 | .tuple _=> .ud
 |v=> .sc v
def eJ (env:jB):Operand->AV
 | .tmp t=>dM env t
 | .const v=> .uP v
 | .global _=> .ud
 | .func f=> .fn (.func f) [] []
inductive cG where
 |uQ (x:Operand)
 |pick (c a b:Operand)
 |alloc (z:List Value) (e:TypeId) (pu:Bool)
 |box (e:TypeId) (x:Operand)
 |build (z:List Value) (parts:List (Nat×Nat×Operand))
 |py (z:List Value) (len:Nat) (parts:List (Nat×Operand)) (e:TypeId) (sz:Nat)
 |tg (z:List Value) (len:Nat) (parts:List (Nat×Operand)) (e:TypeId) (sz:Nat)
 |load (n:Option Nat) (a:Operand)
 |store (n:Nat) (a x:Operand)
 |uR (x:Operand)
 |bin (op:BinOp) (x y:Operand)
 |beq (neg:Bool) (x y:Operand)
 |rW (neg:Bool) (ks:List Nat) (x y:Operand)
 |tj (neg:Bool) (x y:Operand)
 |un (op:UnOp) (x:Operand)
 |conv (k:IntKind) (x:Operand)
 |uS (off:Nat) (x:Operand)
 |field (off:Nat) (n:Option Nat) (x:Operand)
 |uT (len sz:Nat) (x i:Operand)
 |rX (sz:Nat) (x i:Operand)
 |idx (len sz:Nat) (n:Option Nat) (x i:Operand)
 |wJ (x i:Operand)
 |pY (z:List Value) (e:TypeId) (sz bytes:Nat) (l c:Operand) (pu:Bool)
 |slice (sz:Nat) (x:Operand) (lo hi:Option Operand)
 |slice3 (sz:Nat) (x:Operand) (lo:Option Operand) (hi mx:Operand)
 |uU (x:Operand) (lo hi:Option Operand)
 |append (e:TypeId) (sz bytes:Nat) (s x:Operand) (pu:Bool)
 |len (k:Nat) (x:Operand)
 |uV (n:Nat)
 |mm (mx:Bool) (x y:Operand)
 |call (f:FuncId) (args:List Operand) (own:Bool)
 |jS (f:Operand) (args:List Operand) (own:Bool)
 |extract (x:Operand) (i:Nat)
 |tn (f:Fn) (first captured:List Operand)
 |uW (t:TypeId) (x:Operand)
 |oN (tab:List (TypeId×FuncId)) (x:Operand) (args:List Operand)
 |pZ (kt:List Nat×Bool) (pu:Bool)
 |lookup (z:List Value) (agg:Bool) (ks:List Nat) (ka:Bool) (x k:Operand) (ok:Bool)
 |qT (ks:List Nat) (ka:Bool) (x k v:Operand)
structure dC where
 idx:Nat
 bC:Nat
 dst:Option Nat
 op:cG
 guard:Option (Option Nat×Bool)
structure kA where
 own:Bool
 slot:Nat
 off:Option Nat
 e:TypeId
 sz:Nat
 pu:Bool
inductive IR where
 |skip
 |region (id:Nat) (draw:Bool) (k:Nat) (ops:List dC) (kB:List (Nat×Nat)) (live:List Nat) (pre post:List kA)
 |seq (a b:IR)
 |cond (c:Operand) (a b:IR)
 |block (id:Nat) (c:IR)
 |loop (c:IR)
 |exit (id:Nat)
 |ret
 |goto (l:Nat)
 |turns (l:Option Nat) (b:IR)
 |oO (c:Operand) (a b:IR)
 |tq (g:FuncId) (caps:List Operand) (d:Nat) (a b:IR)
structure St where
 env:jB
 o:Store
def behind (o:Store):AV->Option (List AV×Nat)
 | .ptr id off tot=>match o[id]? with
  |some (.cells cs _ _ _)=>if cs.length=tot then some (cs,off) else none
  |_=>none
 | .ep cs off=>some (cs,off)
 |_=>none
def gq (cs:List AV) (off:Nat):Option Nat->Option AV
 |none=>cs[off]?
 |some n=>if off+n<=cs.length then some (.agg ((cs.drop off).take n)) else none
def gd (cs:List AV) (off:Nat):List AV->List AV
 |[]=>cs
 |v::vs=>gd (cs.set off v) (off+1) vs
def eL (l:List AV):Bool:=l.all (·.one)
def eX (k:IntKind) (n:Int):Int:=
 match k with
 | .i64=>if decide (-9223372036854775808<=n)&&decide (n<=9223372036854775807) then n else IntKind.wrap .i64 n
 | .u32=>if decide (0<=n)&&decide (n<=4294967295) then n else IntKind.wrap .u32 n
 | .u64=>if decide (0<=n)&&decide (n<=18446744073709551615) then n else IntKind.wrap .u64 n
 |k=>k.wrap n
def BF (n:Nat):Int:=Int.ofNat (Nat.pow 2 n)
def lr (op:BinOp) (k:IntKind) (a b:Int):Option Value:=
 match op with
 | .add=>some (.int k (eX k (a+b)))
 | .sub=>some (.int k (eX k (a - b)))
 | .mul=>some (.int k (eX k (a*b)))
 | .quo=>if b=0 then none else some (.int k (eX k (a.tdiv b)))
 | .rem=>if b=0 then none else some (.int k (a.tmod b))
 | .and=>some (.int k (eX k (γn k.bits a &&&γn k.bits b).toNat))
 | .or=>some (.int k (eX k (γn k.bits a |||γn k.bits b).toNat))
 | .xor=>some (.int k (eX k (γn k.bits a ^^^γn k.bits b).toNat))
 | .andNot=>some (.int k (eX k (γn k.bits a &&&~~~(γn k.bits b)).toNat))
 | .eql=>some (.bool (a==b))
 | .neq=>some (.bool (a !=b))
 | .lss=>some (.bool (decide (a<b)))
 | .leq=>some (.bool (decide (a<=b)))
 | .gtr=>some (.bool (decide (b<a)))
 | .geq=>some (.bool (decide (b<=a)))
 |_=>none
def gU (op:BinOp):Value->Value->Option Value
 | .int k a,.int k' b=>
  match op with
  | .shl=>if b<0 then none else some (.int k (eX k (a*BF (min b.toNat k.bits))))
  | .shr=>if b<0 then none else some (.int k (a.fdiv (BF (min b.toNat k.bits))))
  |_=>if k=k' then lr op k a b else none
 | .string a,.string b=>match op with
  | .eql=>some (.bool (a.toList==b.toList))
  | .neq=>some (.bool (!(a.toList==b.toList)))
  | .add=>if a.size+b.size<=1000000000 then some (.string (a++b)) else none
  |_=>none
 |_,_=>none
def seq1:Value->Value->Option Bool
 | .int k a,.int k' b=>if k=k' then some (a==b) else none
 | .bool a,.bool b=>some (a==b)
 | .string a,.string b=>some (a.toList==b.toList)
 |_,_=>none
def fK:List Value->List Value->Option Bool
 |[],[]=>some true
 |x::xs,y::ys=>match seq1 x y,fK xs ys with
  |some a,some b=>some (a&&b)
  |_,_=>none
 |_,_=>none
def eF:List Nat->List Value->Bool
 |[],[]=>true
 |0::ks,.int _ _::vs=>eF ks vs
 |1::ks,.bool _::vs=>eF ks vs
 |2::ks,.string _::vs=>eF ks vs
 |_,_=>false
def rY:List AV->Option (List Value)
 |[]=>some []
 | .sc v::r=>(rY r).map (v::·)
 |_=>none
def wK (ks:List Nat) (a b:List AV):Option Bool:=
 match rY a,rY b with
 |some x,some y=>if eF ks x&&eF ks y then fK x y else none
 |_,_=>none
def tt (op:UnOp):AV->Option AV
 | .sc (.bool b)=>match op with| .not=>some (.sc (.bool !b))|_=>none
 | .sc (.int k n)=>match op with| .neg=>some (.sc (.int k (eX k (0 - n))))|_=>none
 |_=>none
def ik:AV->Option Int
 | .sc (.int _ n)=>some n
 |_=>none
def mX (d:Nat):AV->Option AV
 | .ptr id off tot=>some (.ptr id (off+d) tot)
 | .ep cs off=>some (.ep cs (off+d))
 |_=>none
def mY (o:Store) (sz:Nat):AV->Option (Nat×List AV)
 | .sl n cs=>if cs.length=n*sz then some (n,cs) else none
 | .os id off len tot=>match o[id]? with
  |some (.cells cs _ sz' _)=>if cs.length=tot/\sz'=sz/\off+len*sz<=tot then some (len,(cs.drop off).take (len*sz)) else none
  |_=>none
 | .sc (.slice none 0 0)=>some (0,[])
 |_=>none
def rZ (off tot sz:Nat):Nat:=if Nat.ble off tot then off else off - tot - sz
def qa (o:Store) (sz:Nat) (x:AV) (i:Int):Option AV:=
 match x with
 | .sl n cs=>if 0<=i/\i<n/\cs.length=n*sz then some (.ep cs (i.toNat*sz)) else none
 | .os id off len tot=>match o[id]? with
  |some (.cells cs _ sz' _)=>if cs.length=tot/\sz'=sz/\0<=i/\i<len/\rZ off tot sz+len*sz<=tot then some (.ptr id (rZ off tot sz+i.toNat*sz) tot) else none
  |_=>none
 |_=>none
def lu (o:Store):Nat->AV->Option Nat
 |0,.sl n _=>some n
 |0,.os _ _ len _=>some len
 |0,.sc (.slice _ n _)=>some n
 |1,.sc (.string s)=>some s.size
 |2,.mp id=>match o[id]? with
  |some (.map es _ _)=>some es.length
  |_=>none
 |_,_=>none
def qb (e:TypeId) (sz a:Nat) (pu:Bool) (s x:AV) (o:Store) (bC:Nat):Option (AV×Store):=
 match mY o sz x with
 |none=>none
 |some (m,b)=>
  if eL b=false then none else
  match s with
  | .sc (.slice none 0 0)=>
   if m=0 then some (.sc y5,o)
   else if m*a<=140737488355328/\m<=1000000000000/\(pu=false\/dA b=true) then(kV bC (.cells b e sz pu) o).map λk=>(.os bC 0 m (m*sz),k) else none
  | .os h 0 c d=>match o[h]? with
   |some (.cells g j i f)=>
    if g.length=d/\j=e/\i=sz/\c*sz=d/\(c+m)*a<=140737488355328/\c+m<=1000000000000/\(f=false\/dA b=true)
    then some (.os h 0 (c+m) (d+m*sz),o.set h (.cells (g++b) e sz f)) else none
   |_=>none
  | .sl n g=>if m=0 then some (.sl n g,o) else none
  |_=>none
def iq (d:Nat):Option AV->Option Nat
 |none=>some d
 |some (.sc (.int _ n))=>if 0<=n then some n.toNat else none
 |_=>none
def qc (o:Store) (sz:Nat) (x:AV) (lo hi:Option AV):Option AV:=
 match x with
 | .sl n cs=>match iq 0 lo,iq n hi with
  |some l,some h=>if l<=h/\h<=n/\cs.length=n*sz then some (.sl (h - l) ((cs.drop (l*sz)).take ((h - l)*sz))) else none
  |_,_=>none
 | .os id off len tot=>match iq 0 lo,iq len hi with
  |some l,some h=>match o[id]? with
   |some (.cells cs _ sz' _)=>if l<=h/\h<=len/\cs.length=tot/\sz'=sz then some (.os id (off+l*sz) (h - l) tot) else none
   |_=>none
  |_,_=>none
 | .sc (.slice none 0 0)=>match iq 0 lo,iq 0 hi with
  |some 0,some 0=>some (.sc y5)
  |_,_=>none
 |_=>none
def sa (o:Store) (sz:Nat) (x:AV) (lo:Option AV) (hi mx:AV):Option AV:=
 match x with
 | .sl n cs=>match iq 0 lo,iq n (some hi),iq n (some mx) with
  |some l,some h,some m=>if l<=h/\h<=m/\m<=n/\cs.length=n*sz then some (.sl (h - l) ((cs.drop (l*sz)).take ((h - l)*sz))) else none
  |_,_,_=>none
 | .os id off len tot=>match iq 0 lo,iq len (some hi),iq len (some mx) with
  |some l,some h,some m=>match o[id]? with
   |some (.cells cs _ sz' _)=>if l<=h/\h<=m/\m<=len/\cs.length=tot/\sz'=sz/\off+len*sz<=tot/\0<sz then some (.os id (off+l*sz+(tot+sz)) (h - l) tot) else none
   |_=>none
  |_,_,_=>none
 |_=>none
def qd (ks:List Nat) (ka:Bool):AV->Option Value
 | .sc v=>if !ka&&eF ks [v] then some v else none
 | .agg cs=>match rY cs with
  |some vs=>if ka&&eF ks vs then some (.agg vs.toArray) else none
  |none=>none
 |_=>none
def keq:Value->Value->Option Bool
 | .agg a,.agg b=>fK a.toList b.toList
 | .agg _,_=>none
 |_,.agg _=>none
 |a,b=>seq1 a b
def mA (k:Value):List (Value×AV)->Nat->Option (Option (Nat×AV))
 |[],_=>some none
 |e::es,i=>match keq k e.1 with
  |some true=>some (some (i,e.2))
  |some false=>mA k es (i+1)
  |none=>none
def qU (z:List Value) (agg:Bool):Option AV:=
 if agg then some (.agg (z.map .sc)) else match z with
  |[v]=>some (.sc v)
  |_=>none
def freeze (o:Store):Nat->AV->Option AV
 |_,.ud=>some .ud
 |_,.sc v=>match v with
  | .slice none 0 0=>some (.sl 0 [])
  |v=>some (.sc v)
 |_,.sl n cs=>some (.sl n cs)
 |_,.jl t cs=>some (.jl t cs)
 |d+1,.agg cs=>(cs.mapM (freeze o d)).map .agg
 |d+1,.bI cs=>(cs.mapM (freeze o d)).map .bI
 |d+1,.fn f a b=>match a.mapM (freeze o d),b.mapM (freeze o d) with
  |some a',some b'=>some (.fn f a' b')
  |_,_=>none
 |d+1,.os id off len tot=>match o[id]? with
  |some (.cells cs _ sz pu)=>
   if cs.length=tot/\off+len*sz<=tot then
    if pu then some (.sl len ((cs.drop off).take (len*sz)))
    else match((cs.drop off).take (len*sz)).mapM (freeze o d) with
     |some cs'=>if dA cs' then some (.sl len cs') else none
     |none=>none
   else none
  |_=>none
 |_,_=>none
mutual
def AV.ren (m:Nat->Option Nat):AV->Option AV
 | .ud=>some .ud
 | .sc v=>some (.sc v)
 | .sl n cs=>some (.sl n cs)
 | .jl t cs=>some (.jl t cs)
 | .ep cs off=>some (.ep cs off)
 | .agg cs=>(iL m cs).map .agg
 | .bI cs=>(iL m cs).map .bI
 | .ptr id off tot=>(m id).map λi=> .ptr i off tot
 | .os id off len tot=>(m id).map λi=> .os i off len tot
 | .mp id=>(m id).map .mp
 | .fn f a b=>match iL m a,iL m b with
  |some a',some b'=>some (.fn f a' b')
  |_,_=>none
def iL (m:Nat->Option Nat):List AV->Option (List AV)
 |[]=>some []
 |c::cs=>match c.ren m,iL m cs with
  |some c',some cs'=>some (c'::cs')
  |_,_=>none
end
def oP (m:Nat->Option Nat):List (Value×AV)->Option (List (Value×AV))
 |[]=>some []
 |e::es=>match e.2.ren m,oP m es with
  |some v,some es'=>some ((e.1,v)::es')
  |_,_=>none
def bR.ren (m:Nat->Option Nat):bR->Option bR
 | .dead=>some .dead
 | .cells cs e sz pu=>if pu then some (.cells cs e sz pu) else(iL m cs).map λcs'=> .cells cs' e sz pu
 | .map es kt pu=>if pu then some (.map es kt pu) else(oP m es).map λes'=> .map es' kt pu
def idxOf (ids:List Nat) (i:Nat) (k:Nat:=0):Option Nat:=
 match ids with
 |[]=>none
 |j::r=>if j==i then some k else idxOf r i (k+1)
def cQ (o:Store):Nat->List AV->List Nat->List Nat
 |0,_,acc=>acc
 |_,[],acc=>acc
 |d+1,v::vs,acc=>
  let visit (id:Nat) (acc:List Nat):List Nat:=
   if acc.contains id then acc else
   match o[id]? with
   |some (.cells cs _ _ pu)=>if pu then acc++[id] else cQ o d cs (acc++[id])
   |some (.map es _ pu)=>if pu then acc++[id] else cQ o d (es.map (·.2)) (acc++[id])
   |_=>acc++[id];let acc':=match v with
   | .agg cs| .bI cs=>cQ o d cs acc
   | .ptr id _ _| .os id _ _ _| .mp id=>visit id acc
   | .fn _ a b=>cQ o d b (cQ o d a acc)
   |_=>acc;cQ o d vs acc'
def fN:Nat:=400
def kW (o:Store) (ids:List Nat):List Nat->Option Store
 |[]=>some []
 |i::r=>match o[i]?,kW o ids r with
  |some x,some l=>(x.ren (λj=>idxOf ids j)).map (·::l)
  |_,_=>none
def oQ (ids:List Nat) (n i:Nat):Option Nat:=
 match ids[i]? with
 |some j=>some j
 |none=>some (n+(i - ids.length))
def sd (m:Nat->Option Nat):Store->Option Store
 |[]=>some []
 |x::r=>match x.ren m,sd m r with
  |some y,some l=>some (y::l)
  |_,_=>none
def lL (o:Store):List Nat->Store->Store
 |[],_=>o
 |_,[]=>o
 |i::r,x::l=>lL (o.set i x) r l
abbrev df:=FuncId->List AV->Store->Bool->Option (AV×Store)
def iM (call:df) (f:FuncId) (args:List AV) (o:Store):Option (AV×Store):=
 let ids:=cQ o fN args [];match iL (λj=>idxOf ids j) args,kW o ids ids with
 |some args',some small=>match call f args' small true with
  |some (r,MO)=>
   if MO.length<ids.length\/pz ids=false then none else
   match r.ren (oQ ids o.length),sd (oQ ids o.length) MO with
   |some r',some big=>some (r',lL o ids (big.take ids.length)++big.drop ids.length)
   |_,_=>none
  |none=>none
 |_,_=>none
where pz:List Nat->Bool
 |[]=>true
 |a::r=>!r.contains a&&pz r
mutual
def AV.kX:AV->Bool
 | .ud| .sc _=>true
 | .agg cs| .bI cs=>uX cs
 | .sl _ cs=>cs.isEmpty
 |_=>false
def uX:List AV->Bool
 |[]=>true
 |c::cs=>c.kX&&uX cs
end
def fu (o:Store):Nat->AV->List Nat
 |d+1,.agg cs=>cs.flatMap (fu o d)
 |d+1,.bI cs=>cs.flatMap (fu o d)
 |d+1,.fn _ a b=>a.flatMap (fu o d)++b.flatMap (fu o d)
 |d+1,.os id off len _=>id::(match o[id]? with
  |some (.cells cs _ sz pu)=>if pu then[] else((cs.drop off).take (len*sz)).flatMap (fu o d)
  |_=>[])
 |_,_=>[]
def uY:List (TypeId×FuncId)->TypeId->Option FuncId
 |[],_=>none
 |p::r,t=>bif δq p.1 t then some p.2 else uY r t
def gJ (call:df) (f:FuncId) (args:List AV) (o:Store) (own:Bool):Option (AV×Store):=
 if own then iM call f args o
 else match args.mapM (freeze o 6) with
  |none=>none
  |some args'=>match call f args' [] false with
   |some (r,[])=>if(args.flatMap (fu o 6)).isEmpty||r.kX then some (r,o) else none
   |_=>none
def lv (parts:List (Nat×Nat×AV)) (cs:List AV):Option (List AV):=
 match parts with
 |[]=>some cs
 |(off,n,v)::rest=>
  if v.cellsOf.length=n/\eL v.cellsOf=true/\off+n<=cs.length then lv rest (gd cs off v.cellsOf) else none
def bK (call:df) (op:cG) (ρ:Operand->AV) (o:Store) (bC:Nat):Option (AV×Store):=
 match op with
 | .uQ x=>some (ρ x,o)
 | .pick c a b=>match ρ c with
  | .sc (.bool true)=>some (ρ a,o)
  | .sc (.bool false)=>some (ρ b,o)
  |_=>none
 | .alloc z e pu=>(kV bC (.cells (z.map .sc) e z.length pu) o).map λo'=>(.ptr bC 0 z.length,o')
 | .box e x=>if eL (ρ x).cellsOf then(kV bC (.cells (ρ x).cellsOf e (ρ x).cellsOf.length false) o).map λo'=>(.ptr bC 0 (ρ x).cellsOf.length,o') else none
 | .build z parts=>(lv (parts.map λp=>(p.1,p.2.1,ρ p.2.2)) (z.map .sc)).map λcs=>(.agg cs,o)
 | .py z len parts e sz=>
  match lv (parts.map λp=>(p.1,sz,ρ p.2)) ((δ len (z.map AV.sc)).flatten) with
  |some cs=>(kV bC (.cells (eE (dA cs) cs) e sz (dA cs)) o).map λo'=>(.os bC 0 len (len*sz),o')
  |none=>none
 | .tg z len parts _ sz=>
  match lv (parts.map λp=>(p.1,sz,ρ p.2)) ((δ len (z.map AV.sc)).flatten) with
  |some cs=>if dA cs=true then some (.sl len (eE true cs),o) else none
  |none=>none
 | .load n a=>match behind o (ρ a) with
  |some (cs,off)=>(gq cs off n).map (·,o)
  |none=>none
 | .store n a x=>match ρ a with
  | .ptr id off tot=>match o[id]? with
   |some (.cells cs e sz pu)=>
    let v:=(ρ x).cellsOf;if cs.length=tot/\v.length=n/\eL v=true/\off+n<=cs.length/\(pu=false\/dA v=true) then some (.ud,o.set id (.cells (gd cs off (eE pu v)) e sz pu)) else none
   |_=>none
  |_=>none
 | .uR x=>match ρ x with
  | .ptr a b c=>some (.ptr a b c,o)
  | .ep a b=>some (.ep a b,o)
  |_=>none
 | .bin op x y=>match ρ x,ρ y with
  | .sc a,.sc b=>(gU op a b).map λv=>(.sc v,o)
  |_,_=>none
 | .beq neg x y=>match ρ x,ρ y with
  | .sc (.bool a),.sc (.bool b)=>some (.sc (.bool (if neg then !(a==b) else a==b)),o)
  |_,_=>none
 | .rW neg ks x y=>match ρ x,ρ y with
  | .agg a,.agg b=>(wK ks a b).map λr=>(.sc (.bool (if neg then !r else r)),o)
  |_,_=>none
 | .tj neg x y=>match ρ x,ρ y with
  | .ptr _ _ _,.sc (.pointer none)=>some (.sc (.bool neg),o)
  | .sc (.pointer none),.sc (.pointer none)=>some (.sc (.bool !neg),o)
  |_,_=>none
 | .un op x=>(tt op (ρ x)).map (·,o)
 | .conv k x=>match ρ x with
  | .sc (.int _ n)=>some (.sc (.int k (eX k n)),o)
  |_=>none
 | .uS off x=>(mX off (ρ x)).map (·,o)
 | .field off n x=>match ρ x with
  | .agg cs=>(gq cs off n).map (·,o)
  |_=>none
 | .uT len sz x i=>match ik (ρ i) with
  |some n=>if 0<=n/\n<len then(mX (n.toNat*sz) (ρ x)).map (·,o) else none
  |none=>none
 | .rX sz x i=>match ik (ρ i) with
  |some n=>(qa o sz (ρ x) n).map (·,o)
  |none=>none
 | .idx len sz n x i=>match ik (ρ i),ρ x with
  |some k,.agg cs=>if 0<=k/\k<len then(gq cs (k.toNat*sz) n).map (·,o) else none
  |_,_=>none
 | .wJ x i=>match ik (ρ i),ρ x with
  |some k,.sc (.string s)=>if 0<=k then(s[k.toNat]?).map λb=>(.sc (.int .u8 b.toNat),o) else none
  |_,_=>none
 | .pY z e sz bytes l c pu=>match ik (ρ l),ik (ρ c) with
  |some n,some m=>if 0<=n/\n<=m/\m*bytes<=140737488355328/\m<=1000000000000 then
    (kV bC (.cells ((δ n.toNat (eE pu (z.map AV.sc))).flatten) e sz pu) o).map λo'=>(.os bC 0 n.toNat (n.toNat*sz),o') else none
  |_,_=>none
 | .slice sz x lo hi=>(qc o sz (ρ x) (lo.map ρ) (hi.map ρ)).map (·,o)
 | .slice3 sz x lo hi mx=>(sa o sz (ρ x) (lo.map ρ) (ρ hi) (ρ mx)).map (·,o)
 | .uU x lo hi=>match ρ x with
  | .sc (.string s)=>match iq 0 (lo.map ρ),iq s.size (hi.map ρ) with
   |some l,some h=>if l<=h/\h<=s.size then some (.sc (.string (s.extract l h)),o) else none
   |_,_=>none
  |_=>none
 | .append e sz bytes s x pu=>qb e sz bytes pu (ρ s) (ρ x) o bC
 | .len k x=>(lu o k (ρ x)).map λ(n:Nat)=>(.sc (.int .i64 n),o)
 | .uV n=>some (.sc (.int .i64 n),o)
 | .mm mx x y=>match ρ x,ρ y with
  | .sc (.int k a),.sc (.int k' b)=>if k=k' then some (.sc (.int k (if mx then(if b>a then b else a) else(if b<a then b else a))),o) else none
  |_,_=>none
 | .call f args own=>gJ call f (args.map ρ) o own
 | .jS f args own=>match ρ f with
  | .fn (.func g) first captured=>gJ call g (first++args.map ρ++captured) o own
  |_=>none
 | .extract x i=>match ρ x with
  | .bI vs=>(vs[i]?).map (·,o)
  |_=>none
 | .tn f first captured=>some (.fn f (first.map ρ) (captured.map ρ),o)
 | .uW t x=>match ρ x with
  | .agg cs=>if dA cs=true then some (.jl t cs,o) else none
  |_=>none
 | .oN tab x args=>match ρ x with
  | .jl t cs=>match uY tab t with
   |some f=>gJ call f (.agg cs::args.map ρ) o false
   |none=>none
  |_=>none
 | .pZ kt pu=>(kV bC (.map [] kt pu) o).map λo'=>(.mp bC,o')
 | .lookup z agg ks ka x k ok=>match ρ x,qd ks ka (ρ k) with
  | .mp id,some kv=>match o[id]? with
   |some (.map es kt _)=>if kt=(ks,ka) then match mA kv es 0,qU z agg with
    |some (some (_,v)),_=>some (if ok then .bI [v,.sc (.bool true)] else v,o)
    |some none,some v=>some (if ok then .bI [v,.sc (.bool false)] else v,o)
    |_,_=>none
    else none
   |_=>none
  |_,_=>none
 | .qT ks ka x k v=>match ρ x,qd ks ka (ρ k) with
  | .mp id,some kv=>match o[id]? with
   |some (.map es kt pu)=>
    if(pu=true/\(ρ v).pure=false)\/kt≠(ks,ka) then none else
    match mA kv es 0 with
    |some (some (i,_))=>some (.ud,o.set id (.map (es.modify i λ_=>(kv,ρ v)) kt pu))
    |some none=>some (.ud,o.set id (.map (es++[(kv,ρ v)]) kt pu))
    |none=>none
   |_=>none
  |_,_=>none
def VZ (x:Operand) (_call:df) (ρ:Operand->AV) (o:Store) (_nid:Nat):Option (AV×Store):=some (ρ x,o)
def V0 (c:Operand) (a:Operand) (b:Operand) (_call:df) (ρ:Operand->AV) (o:Store) (_nid:Nat):Option (AV×Store):=match ρ c with
  | .sc (.bool true)=>some (ρ a,o)
  | .sc (.bool false)=>some (ρ b,o)
  |_=>none
def V1 (z:List Value) (e:TypeId) (pu:Bool) (_call:df) (_ρ:Operand->AV) (o:Store) (bC:Nat):Option (AV×Store):=(kV bC (.cells (z.map .sc) e z.length pu) o).map λo'=>(.ptr bC 0 z.length,o')
def V2 (e:TypeId) (x:Operand) (_call:df) (ρ:Operand->AV) (o:Store) (bC:Nat):Option (AV×Store):=if eL (ρ x).cellsOf then(kV bC (.cells (ρ x).cellsOf e (ρ x).cellsOf.length false) o).map λo'=>(.ptr bC 0 (ρ x).cellsOf.length,o') else none
def V3 (z:List Value) (parts:List (Nat×Nat×Operand)) (_call:df) (ρ:Operand->AV) (o:Store) (_nid:Nat):Option (AV×Store):=(lv (parts.map λp=>(p.1,p.2.1,ρ p.2.2)) (z.map .sc)).map λcs=>(.agg cs,o)
def V4 (z:List Value) (len:Nat) (parts:List (Nat×Operand)) (e:TypeId) (sz:Nat) (_call:df) (ρ:Operand->AV) (o:Store) (bC:Nat):Option (AV×Store):=
  match lv (parts.map λp=>(p.1,sz,ρ p.2)) ((δ len (z.map AV.sc)).flatten) with
  |some cs=>(kV bC (.cells (eE (dA cs) cs) e sz (dA cs)) o).map λo'=>(.os bC 0 len (len*sz),o')
  |none=>none
def V5 (z:List Value) (len:Nat) (parts:List (Nat×Operand)) (_a3:TypeId) (sz:Nat) (_call:df) (ρ:Operand->AV) (o:Store) (_nid:Nat):Option (AV×Store):=
  match lv (parts.map λp=>(p.1,sz,ρ p.2)) ((δ len (z.map AV.sc)).flatten) with
  |some cs=>if dA cs=true then some (.sl len (eE true cs),o) else none
  |none=>none
def V6 (n:Option Nat) (a:Operand) (_call:df) (ρ:Operand->AV) (o:Store) (_nid:Nat):Option (AV×Store):=match behind o (ρ a) with
  |some (cs,off)=>(gq cs off n).map (·,o)
  |none=>none
def V7 (n:Nat) (a:Operand) (x:Operand) (_call:df) (ρ:Operand->AV) (o:Store) (_nid:Nat):Option (AV×Store):=match ρ a with
  | .ptr id off tot=>match o[id]? with
   |some (.cells cs e sz pu)=>
    let v:=(ρ x).cellsOf;if cs.length=tot/\v.length=n/\eL v=true/\off+n<=cs.length/\(pu=false\/dA v=true) then some (.ud,o.set id (.cells (gd cs off (eE pu v)) e sz pu)) else none
   |_=>none
  |_=>none
def V8 (x:Operand) (_call:df) (ρ:Operand->AV) (o:Store) (_nid:Nat):Option (AV×Store):=match ρ x with
  | .ptr a b c=>some (.ptr a b c,o)
  | .ep a b=>some (.ep a b,o)
  |_=>none
def V9 (op:BinOp) (x:Operand) (y:Operand) (_call:df) (ρ:Operand->AV) (o:Store) (_nid:Nat):Option (AV×Store):=match ρ x,ρ y with
  | .sc a,.sc b=>(gU op a b).map λv=>(.sc v,o)
  |_,_=>none
def Wa (neg:Bool) (x:Operand) (y:Operand) (_call:df) (ρ:Operand->AV) (o:Store) (_nid:Nat):Option (AV×Store):=match ρ x,ρ y with
  | .sc (.bool a),.sc (.bool b)=>some (.sc (.bool (if neg then !(a==b) else a==b)),o)
  |_,_=>none
def Wb (neg:Bool) (ks:List Nat) (x:Operand) (y:Operand) (_call:df) (ρ:Operand->AV) (o:Store) (_nid:Nat):Option (AV×Store):=match ρ x,ρ y with
  | .agg a,.agg b=>(wK ks a b).map λr=>(.sc (.bool (if neg then !r else r)),o)
  |_,_=>none
def Wc (neg:Bool) (x:Operand) (y:Operand) (_call:df) (ρ:Operand->AV) (o:Store) (_nid:Nat):Option (AV×Store):=match ρ x,ρ y with
  | .ptr _ _ _,.sc (.pointer none)=>some (.sc (.bool neg),o)
  | .sc (.pointer none),.sc (.pointer none)=>some (.sc (.bool !neg),o)
  |_,_=>none
def Wg (op:UnOp) (x:Operand) (_call:df) (ρ:Operand->AV) (o:Store) (_nid:Nat):Option (AV×Store):=(tt op (ρ x)).map (·,o)
def Wh (k:IntKind) (x:Operand) (_call:df) (ρ:Operand->AV) (o:Store) (_nid:Nat):Option (AV×Store):=match ρ x with
  | .sc (.int _ n)=>some (.sc (.int k (eX k n)),o)
  |_=>none
def Wi (off:Nat) (x:Operand) (_call:df) (ρ:Operand->AV) (o:Store) (_nid:Nat):Option (AV×Store):=(mX off (ρ x)).map (·,o)
def Wj (off:Nat) (n:Option Nat) (x:Operand) (_call:df) (ρ:Operand->AV) (o:Store) (_nid:Nat):Option (AV×Store):=match ρ x with
  | .agg cs=>(gq cs off n).map (·,o)
  |_=>none
def Wl (len:Nat) (sz:Nat) (x:Operand) (i:Operand) (_call:df) (ρ:Operand->AV) (o:Store) (_nid:Nat):Option (AV×Store):=match ik (ρ i) with
  |some n=>if 0<=n/\n<len then(mX (n.toNat*sz) (ρ x)).map (·,o) else none
  |none=>none
def Wm (sz:Nat) (x:Operand) (i:Operand) (_call:df) (ρ:Operand->AV) (o:Store) (_nid:Nat):Option (AV×Store):=match ik (ρ i) with
  |some n=>(qa o sz (ρ x) n).map (·,o)
  |none=>none
def Wn (len:Nat) (sz:Nat) (n:Option Nat) (x:Operand) (i:Operand) (_call:df) (ρ:Operand->AV) (o:Store) (_nid:Nat):Option (AV×Store):=match ik (ρ i),ρ x with
  |some k,.agg cs=>if 0<=k/\k<len then(gq cs (k.toNat*sz) n).map (·,o) else none
  |_,_=>none
def Wp (x:Operand) (i:Operand) (_call:df) (ρ:Operand->AV) (o:Store) (_nid:Nat):Option (AV×Store):=match ik (ρ i),ρ x with
  |some k,.sc (.string s)=>if 0<=k then(s[k.toNat]?).map λb=>(.sc (.int .u8 b.toNat),o) else none
  |_,_=>none
def Wq (z:List Value) (e:TypeId) (sz:Nat) (a:Nat) (l:Operand) (c:Operand) (pu:Bool) (b:df) (ρ:Operand->AV) (o:Store) (bC:Nat):Option (AV×Store):=match ik (ρ l),ik (ρ c) with
  |some n,some m=>if 0<=n/\n<=m/\m*a<=140737488355328/\m<=1000000000000 then
    (kV bC (.cells ((δ n.toNat (eE pu (z.map AV.sc))).flatten) e sz pu) o).map λd=>(.os bC 0 n.toNat (n.toNat*sz),d) else none
  |_,_=>none
def Ws (sz:Nat) (x:Operand) (lo:Option Operand) (hi:Option Operand) (_call:df) (ρ:Operand->AV) (o:Store) (_nid:Nat):Option (AV×Store):=(qc o sz (ρ x) (lo.map ρ) (hi.map ρ)).map (·,o)
def Wt (sz:Nat) (x:Operand) (lo:Option Operand) (hi:Operand) (mx:Operand) (_call:df) (ρ:Operand->AV) (o:Store) (_nid:Nat):Option (AV×Store):=(sa o sz (ρ x) (lo.map ρ) (ρ hi) (ρ mx)).map (·,o)
def Wu (x:Operand) (lo:Option Operand) (hi:Option Operand) (_call:df) (ρ:Operand->AV) (o:Store) (_nid:Nat):Option (AV×Store):=match ρ x with
  | .sc (.string s)=>match iq 0 (lo.map ρ),iq s.size (hi.map ρ) with
   |some l,some h=>if l<=h/\h<=s.size then some (.sc (.string (s.extract l h)),o) else none
   |_,_=>none
  |_=>none
def Wv (e:TypeId) (sz:Nat) (a:Nat) (s:Operand) (x:Operand) (pu:Bool) (b:df) (ρ:Operand->AV) (o:Store) (bC:Nat):Option (AV×Store):=qb e sz a pu (ρ s) (ρ x) o bC
def Ww (k:Nat) (x:Operand) (_call:df) (ρ:Operand->AV) (o:Store) (_nid:Nat):Option (AV×Store):=(lu o k (ρ x)).map λ(n:Nat)=>(.sc (.int .i64 n),o)
def Wx (n:Nat) (_call:df) (_ρ:Operand->AV) (o:Store) (_nid:Nat):Option (AV×Store):=some (.sc (.int .i64 n),o)
def Wy (mx:Bool) (x:Operand) (y:Operand) (_call:df) (ρ:Operand->AV) (o:Store) (_nid:Nat):Option (AV×Store):=match ρ x,ρ y with
  | .sc (.int k a),.sc (.int k' b)=>if k=k' then some (.sc (.int k (if mx then(if b>a then b else a) else(if b<a then b else a))),o) else none
  |_,_=>none
def Wz (f:FuncId) (args:List Operand) (own:Bool) (call:df) (ρ:Operand->AV) (o:Store) (_nid:Nat):Option (AV×Store):=gJ call f (args.map ρ) o own
def MP (f:Operand) (args:List Operand) (own:Bool) (call:df) (ρ:Operand->AV) (o:Store) (_nid:Nat):Option (AV×Store):=match ρ f with
  | .fn (.func g) first captured=>gJ call g (first++args.map ρ++captured) o own
  |_=>none
def WA (x:Operand) (i:Nat) (_call:df) (ρ:Operand->AV) (o:Store) (_nid:Nat):Option (AV×Store):=match ρ x with
  | .bI vs=>(vs[i]?).map (·,o)
  |_=>none
def WC (f:Fn) (first:List Operand) (captured:List Operand) (_call:df) (ρ:Operand->AV) (o:Store) (_nid:Nat):Option (AV×Store):=some (.fn f (first.map ρ) (captured.map ρ),o)
def WE (t:TypeId) (x:Operand) (_call:df) (ρ:Operand->AV) (o:Store) (_nid:Nat):Option (AV×Store):=match ρ x with
  | .agg cs=>if dA cs=true then some (.jl t cs,o) else none
  |_=>none
def MQ (tab:List (TypeId×FuncId)) (x:Operand) (args:List Operand) (call:df) (ρ:Operand->AV) (o:Store) (_nid:Nat):Option (AV×Store):=match ρ x with
  | .jl t cs=>match uY tab t with
   |some f=>gJ call f (.agg cs::args.map ρ) o false
   |none=>none
  |_=>none
def WG (kt:List Nat×Bool) (pu:Bool) (_call:df) (_ρ:Operand->AV) (o:Store) (bC:Nat):Option (AV×Store):=(kV bC (.map [] kt pu) o).map λo'=>(.mp bC,o')
def WH (z:List Value) (agg:Bool) (ks:List Nat) (ka:Bool) (x:Operand) (k:Operand) (ok:Bool) (_call:df) (ρ:Operand->AV) (o:Store) (_nid:Nat):Option (AV×Store):=match ρ x,qd ks ka (ρ k) with
  | .mp id,some kv=>match o[id]? with
   |some (.map es kt _)=>if kt=(ks,ka) then match mA kv es 0,qU z agg with
    |some (some (_,v)),_=>some (if ok then .bI [v,.sc (.bool true)] else v,o)
    |some none,some v=>some (if ok then .bI [v,.sc (.bool false)] else v,o)
    |_,_=>none
    else none
   |_=>none
  |_,_=>none
def WI (ks:List Nat) (ka:Bool) (x:Operand) (k:Operand) (v:Operand) (_call:df) (ρ:Operand->AV) (o:Store) (_nid:Nat):Option (AV×Store):=match ρ x,qd ks ka (ρ k) with
  | .mp id,some kv=>match o[id]? with
   |some (.map es kt pu)=>
    if(pu=true/\(ρ v).pure=false)\/kt≠(ks,ka) then none else
    match mA kv es 0 with
    |some (some (i,_))=>some (.ud,o.set id (.map (es.modify i λ_=>(kv,ρ v)) kt pu))
    |some none=>some (.ud,o.set id (.map (es++[(kv,ρ v)]) kt pu))
    |none=>none
   |_=>none
  |_,_=>none
def Ft (op:cG):df->(Operand->AV)->Store->Nat->Option (AV×Store):=
 match op with
 | .uQ x=>VZ x
 | .pick c a b=>V0 c a b
 | .alloc z e pu=>V1 z e pu
 | .box e x=>V2 e x
 | .build z parts=>V3 z parts
 | .py z len parts e sz=>V4 z len parts e sz
 | .tg z len parts a3 sz=>V5 z len parts a3 sz
 | .load n a=>V6 n a
 | .store n a x=>V7 n a x
 | .uR x=>V8 x
 | .bin op x y=>V9 op x y
 | .beq neg x y=>Wa neg x y
 | .rW neg ks x y=>Wb neg ks x y
 | .tj neg x y=>Wc neg x y
 | .un op x=>Wg op x
 | .conv k x=>Wh k x
 | .uS off x=>Wi off x
 | .field off n x=>Wj off n x
 | .uT len sz x i=>Wl len sz x i
 | .rX sz x i=>Wm sz x i
 | .idx len sz n x i=>Wn len sz n x i
 | .wJ x i=>Wp x i
 | .pY z e sz bytes l c pu=>Wq z e sz bytes l c pu
 | .slice sz x lo hi=>Ws sz x lo hi
 | .slice3 sz x lo hi mx=>Wt sz x lo hi mx
 | .uU x lo hi=>Wu x lo hi
 | .append e sz bytes s x pu=>Wv e sz bytes s x pu
 | .len k x=>Ww k x
 | .uV n=>Wx n
 | .mm mx x y=>Wy mx x y
 | .call f args own=>Wz f args own
 | .jS f args own=>MP f args own
 | .extract x i=>WA x i
 | .tn f first captured=>WC f first captured
 | .uW t x=>WE t x
 | .oN tab x args=>MQ tab x args
 | .pZ kt pu=>WG kt pu
 | .lookup z agg ks ka x k ok=>WH z agg ks ka x k ok
 | .qT ks ka x k v=>WI ks ka x k v
def qe (call:df) (op:cG) (ρ:Operand->AV) (o:Store) (bC:Nat):Option (AV×Store):=Ft op call ρ o bC
theorem y7 (call:df) (a:cG) (ρ:Operand->AV) (o:Store) (bC:Nat):qe call a ρ o bC=bK call a ρ o bC:=by
 cases a<;>rfl
def mB (env:jB) (g:Option (Option Nat×Bool)):Option Bool:=
 match g with
 |none=>some true
 |some (none,_)=>none
 |some (some s,b)=>match dM env s with
  | .sc (.bool c)=>some (c==b)
  | .bI []=>some false
  |_=>none
def iu (call:df) (base:Nat) (i:dC) (st:St):Option St:=
 match mB st.env i.guard with
 |none=>none
 |some false=>some ⟨oM st.env i.dst (.bI []),st.o⟩
 |some true=>match qe call i.op (eJ st.env) st.o (base+i.bC) with
  |some (v,o')=>some ⟨oM st.env i.dst v,o'⟩
  |none=>none
def gh (call:df) (base:Nat):List dC->St->Option St
 |[],st=>some st
 |i::r,st=>match iu call base i st with
  |some st'=>gh call base r st'
  |none=>none
def fw:AV->List Nat
 | .ptr id _ _=>[id]
 | .os id _ _ _=>[id]
 | .mp id=>[id]
 |_=>[]
def dR (op:cG) (ρ:Operand->AV) (o:Store) (bC:Nat):List Nat:=
 match op with
 | .load _ a=>fw (ρ a)
 | .rX _ x _=>fw (ρ x)
 | .slice _ x _ _=>fw (ρ x)
 | .slice3 _ x _ _ _=>fw (ρ x)
 | .len _ x=>fw (ρ x)
 | .lookup _ _ _ _ x _ _=>fw (ρ x)
 | .call _ args false=>(args.map ρ).flatMap (fu o 6)
 | .jS f args false=>match ρ f with
  | .fn _ first captured=>(first++args.map ρ++captured).flatMap (fu o 6)
  |_=>[]
 | .call _ args true=>cQ o fN (args.map ρ) []
 | .jS f args true=>match ρ f with
  | .fn _ first captured=>cQ o fN (first++args.map ρ++captured) []
  |_=>[]
 | .oN _ x args=>match ρ x with
  | .jl _ cs=>(.agg cs::args.map ρ).flatMap (fu o 6)
  |_=>[]
 | .alloc .. | .box .. | .py .. | .pY .. | .pZ .. =>[bC]
 | .store _ a _=>fw (ρ a)
 | .append _ _ _ s x _=>bC::(fw (ρ s)++fw (ρ x))
 | .qT _ _ x _ _=>fw (ρ x)
 |_=>[]
def wrt (op:cG) (ρ:Operand->AV) (o:Store) (bC:Nat):List Nat:=
 match op with
 | .alloc .. | .box .. | .py .. | .pY .. | .pZ .. =>[bC]
 | .store _ a _=>fw (ρ a)
 | .append _ _ _ s _ _=>bC::fw (ρ s)
 | .call _ args true=>cQ o fN (args.map ρ) []
 | .jS f args true=>match ρ f with
  | .fn _ first captured=>cQ o fN (first++args.map ρ++captured) []
  |_=>[]
 | .qT _ _ x _ _=>fw (ρ x)
 |_=>[]
open Classical in
noncomputable def ez (call:df) (op:cG) (ρ:Operand->AV) (o:Store) (bC:Nat):List Nat:=
 match op with
 | .call f args true=>match iM call f (args.map ρ) o with
  |some (_,o')=>(cQ o fN (args.map ρ) []).filter λj=>decide (o'[j]?≠o[j]?)
  |none=>[]
 |op=>wrt op ρ o bC
abbrev Trace:=List (Nat×List Nat×List Nat)
noncomputable def mC (call:df) (base:Nat):List dC->St->Trace
 |[],_=>[]
 |i::r,st=>(match mB st.env i.guard with
   |some true=>(i.idx,dR i.op (eJ st.env) st.o (base+i.bC),ez call i.op (eJ st.env) st.o (base+i.bC))
   |_=>(i.idx,[],[]))::match iu call base i st with
  |some st'=>mC call base r st'
  |none=>[]
def wL (a b:List Nat):Bool:=a.all λx=>!b.contains x
def qf (tr:Trace) (i:Nat):List Nat×List Nat:=
 match tr with
 |[]=>([],[])
 |(j,x)::r=>if j==i then x else qf r i
def tu (n:Nat) (tr:Trace) (kB:List (Nat×Nat)):Bool:=
 kB.all λp=>let a:=qf tr p.1;let b:=qf tr p.2;wL a.2 b.1&&wL b.2 a.1&&a.1.all (λi=>decide (i<n))&&b.1.all (λi=>decide (i<n))
def gi (k:Nat):Store:=δ k .dead
def qV (base:Nat) (o:Store):Store:=if(o.drop base).all (·.mW) then o.take base else o
noncomputable def pA (call:df) (k:Nat) (ops:List dC) (kB:List (Nat×Nat)) (st:St):Option St:=
 let st0:St:=⟨st.env,st.o++gi k⟩;match gh call st.o.length ops st0 with
 |some st'=>if kB.isEmpty||tu st0.o.length (mC call st.o.length ops st0) kB then some ⟨st'.env,if k=0 then st'.o else qV st.o.length st'.o⟩ else none
 |none=>none
mutual
def AV.bU (o:Store) (p:Nat->Bool):AV->Option AV
 | .os id off len tot=>if p id then match o[id]? with
   |some (.cells cs _ sz pu)=>if pu then(if cs.length=tot/\off+len*sz<=tot then some (.sl len ((cs.drop off).take (len*sz))) else none) else some (.os id off len tot)
   |_=>some (.os id off len tot)
  else some (.os id off len tot)
 | .ptr id off tot=>if p id then match o[id]? with
   |some (.cells _ _ _ pu)=>if pu then none else some (.ptr id off tot)
   |_=>some (.ptr id off tot)
  else some (.ptr id off tot)
 | .agg cs=>(gV o p cs).map .agg
 | .bI cs=>(gV o p cs).map .bI
 | .fn f a b=>match gV o p a,gV o p b with
  |some a',some b'=>some (.fn f a' b')
  |_,_=>none
 |v=>some v
def gV (o:Store) (p:Nat->Bool):List AV->Option (List AV)
 |[]=>some []
 |c::cs=>match c.bU o p,gV o p cs with
  |some c',some cs'=>some (c'::cs')
  |_,_=>none
end
def qg (o:Store) (p:Nat->Bool):List (Value×AV)->Option (List (Value×AV))
 |[]=>some []
 |e::es=>match e.2.bU o p,qg o p es with
  |some v,some es'=>some ((e.1,v)::es')
  |_,_=>none
def bR.bU (o:Store) (p:Nat->Bool):bR->Option bR
 | .dead=>some .dead
 | .cells cs e sz pu=>if pu then some (.cells cs e sz pu) else(gV o p cs).map λcs'=> .cells cs' e sz pu
 | .map es kt pu=>if pu then some (.map es kt pu) else(qg o p es).map λes'=> .map es' kt pu
def jD (o:Store) (p:Nat->Bool):Store->Option Store
 |[]=>some []
 |x::r=>match x.bU o p,jD o p r with
  |some y,some l=>some (y::l)
  |_,_=>none
def fO (p:Nat->Bool):Nat->Store->Store
 |_,[]=>[]
 |i,x::r=>(match x with
  | .cells cs e sz true=>if p i then .dead else .cells cs e sz true
  |x=>x)::fO p (i+1) r
def uZ (o:Store) (p:Nat->Bool):jB->Option jB
 |[]=>some []
 |(k,v)::r=>match v.bU o p,uZ o p r with
  |some v',some r'=>some ((k,v')::r')
  |_,_=>none
def BG (h:kA) (st:St):Option AV:=
 match h.off with
 |none=>some (dM st.env h.slot)
 |some k=>match behind st.o (dM st.env h.slot) with
  |some (cs,off)=>cs[off+k]?
  |none=>none
def BH (id:Nat) (st:St):St:=
 match st.o[id]? with
 |some (.cells cs e sz true)=>⟨st.env,st.o.set id (.cells cs e sz false)⟩
 |_=>st
def BI (h:kA) (st:St):St:=
 match h.off with
 |none=>match dM st.env h.slot with
  | .sc (.slice none 0 0)=>⟨(h.slot,.os st.o.length 0 0 0)::st.env,st.o++[.cells [] h.e h.sz h.pu]⟩
  | .os id _ _ _=>if h.sz=0 then BH id st else st
  |_=>st
 |some k=>match dM st.env h.slot with
  | .ptr id off tot=>match st.o[id]? with
   |some (.cells cs e sz pu)=>match cs[off+k]? with
    |some (.sc (.slice none 0 0))=>
     if cs.length=tot/\pu=false then⟨st.env,(st.o.set id (.cells (cs.set (off+k) (.os st.o.length 0 0 0)) e sz pu))++[.cells [] h.e h.sz h.pu]⟩ else st
    |_=>st
   |_=>st
  |_=>st
def BJ (id:Nat) (st:St):St:=
 let p:Nat->Bool:=λi=>i==id;match uZ st.o p st.env,jD st.o p st.o with
 |some env,some o=>⟨env,fO p 0 o⟩
 |_,_=>st
def y8 (id:Nat) (st:St):St:=
 match st.o[id]? with
 |some (.cells cs e sz false)=>if dA cs then⟨st.env,st.o.set id (.cells cs e sz true)⟩ else st
 |_=>st
def j9 (lo:Nat) (h:kA) (st:St):St:=
 if h.own then BI h st
 else match BG h st with
  |some (.os id _ _ _)=>if Nat.ble lo id then BJ id (y8 id st) else st
  |_=>st
def prune (live:List Nat) (env:jB):jB:=live.map λs=>(s,dM env s)
inductive Out where
 |norm
 |exit (id:Nat)
 |ret
 |goto (l:Nat)
 deriving DecidableEq
def trim (k:Nat) (st:St):St:=
 if st.o.length<=k then st
 else if(st.env.all λp=>p.2.bY k)&&((st.o.take k).all λx=>x.bY k) then⟨st.env,st.o.take k⟩ else st
structure mZ where
 slot:Nat
 cell:Option (Option Nat)
structure fy where
 params:Nat
 ntmps:Nat
 body:IR
 res:List mZ
def qW (st:St) (r:mZ):Option AV:=
 match r.cell with
 |none=>some (dM st.env r.slot)
 |some n=>match behind st.o (dM st.env r.slot) with
  |some (cs,off)=>gq cs off n
  |none=>none
def nQ (st:St) (rs:List mZ):Option AV:=
 match rs.mapM (qW st) with
 |some [v]=>some v
 |some vs=>some (.bI vs)
 |none=>none
def lM (k:Nat) (r:AV) (o:Store):Option (AV×Store):=
 match r.bU o (λi=>decide (k<=i)),jD o (λi=>decide (k<=i)) o with
 |some r1,some o1=>
  let o2:=fO (λi=>decide (k<=i)) 0 o1;let ids:=cQ o2 fN (r1::(o2.take k).flatMap bR.y9) (ω k);if iM.pz ids then
   match r1.ren (λj=>idxOf ids j),kW o2 ids ids with
   |some r2,some s2=>some (r2,s2)
   |_,_=>none
  else none
 |_,_=>none
where bR.y9:bR->List AV
 | .cells cs _ _ pu=>if pu then[] else cs
 | .map es _ pu=>if pu then[] else es.map (·.2)
 | .dead=>[]
def finish (own:Bool) (k:Nat) (r:AV) (o:Store):Option (AV×Store):=
 if own then lM k r o
 else match k with
  |0=>match freeze o 6 r with
   |some r'=>some (r',[])
   |none=>none
  |_+1=>none
def iw:Nat->List AV->jB
 |_,[]=>[]
 |i,v::vs=>(i,v)::iw (i+1) vs
structure Tab where
 fn:FuncId->Option fy
 K:df
def qX (ex:IR->St->Option (Out×St)):IR->St->Option St
 | .skip,st=>some st
 | .seq x y,st=>match ex x st with
  |some (.norm,st')=>qX ex y st'
  |_=>none
 |_,_=>none
def qY:Out->Bool
 | .norm| .ret=>true
 |_=>false
def Fv (ex:Nat->IR->St->Option (Out×St)) (F:Option fy) (cs:List AV) (s:St):Option (Out×St):=match F with
 |some F=>if cs.length=F.params/\F.res.isEmpty=true then match ex s.o.length F.body ⟨iw 0 cs,s.o⟩ with
  |some (out,s3)=>if qY out=true then some (.ret,⟨s.env,s3.o⟩) else none
  |none=>none else none
 |none=>none
def tB (T:Tab) (ex:Nat->IR->St->Option (Out×St)) (lo:Nat) (c:IR) (st:St):Option (Out×St):=match c with
 | .tq g caps d a b=>match qX (ex lo) a st with
  |some s0=>match ex s0.o.length b ⟨(d,.ud)::s0.env,s0.o⟩ with
   |some (out,s2)=>if qY out=true then Fv ex (T.fn g) (caps.map (eJ s0.env)) s2 else none
   |none=>none
  |none=>none
 |c=>ex lo c st
def qh (T:Tab) (ex:Nat->IR->St->Option (Out×St)):df:=λf args o own=>
 match T.K f args o own with
 |some r=>some r
 |none=>match T.fn f with
  |none=>none
  |some F=>if args.length=F.params then
    match tB T ex o.length F.body ⟨iw 0 args,o⟩ with
    |some (.norm,st)|some (.ret,st)=>match nQ st F.res with
     |some r=>finish own o.length r st.o
     |none=>none
    |_=>none
   else none
def qZ (t:Nat):jB->jB
 |[]=>[]
 |p::r=>bif δq p.1 t then qZ t r else p::qZ t r
def pB (x:Operand) (env:jB):jB:=
 match x with
 | .tmp t=>qZ t env
 |_=>env
inductive Md where
 |plain
noncomputable def Fz (_:Md) (_:Bool) (call:df) (k:Nat) (ops:List dC) (kB:List (Nat×Nat)) (st:St):Option St:=pA call k ops kB st
noncomputable def exec (T:Tab):Md->Nat->Nat->IR->St->Option (Out×St)
 |_,0,_,_,_=>none
 |md,n+1,lo,c,st=>
  match c with
  | .skip=>some (.norm,st)
  | .region _ draw k ops kB live pre post=>match Fz md draw (qh T (exec T .plain n)) k ops kB (pre.foldl (λs h=>j9 lo h s) st) with
   |some st'=>some (.norm,post.foldl (λs h=>j9 lo h s) ⟨prune live st'.env,st'.o⟩)
   |none=>none
  | .seq a b=>match exec T md n lo a st with
   |some (.norm,st')=>exec T md n lo b st'
   |r=>r
  | .cond x a b=>match eJ st.env x with
   | .sc (.bool true)=>exec T md n lo a ⟨pB x st.env,st.o⟩
   | .sc (.bool false)=>exec T md n lo b ⟨pB x st.env,st.o⟩
   |_=>none
  | .block id b=>match exec T md n lo b st with
   |some (.exit id',st')=>if id'=id then some (.norm,st') else some (.exit id',st')
   |r=>r
  | .loop b=>match exec T md n lo b st with
   |some (.norm,st')=>exec T md n lo (.loop b) (trim st.o.length st')
   |r=>r
  | .exit id=>some (.exit id,st)
  | .ret=>some (.ret,st)
  | .goto l=>some (.goto l,st)
  | .oO x a b=>match eJ st.env x with
   | .sc (.bool true)=>exec T md n lo a st
   | .sc (.bool false)=>exec T md n lo b st
   |_=>none
  | .turns l b=>match exec T md n lo b st with
   |some (.goto l',st')=>if l=some l' then exec T md n lo (.turns l b) (trim st.o.length st') else none
   |r=>r
  | .tq .. =>none
def cG.kC:cG->List Operand
 | .uQ x| .box _ x| .load _ x| .uR x| .un _ x| .conv _ x| .uS _ x| .field _ _ x| .len _ x| .extract x _=>[x]
 | .pick c a b=>[c,a,b]
 | .alloc .. | .uV _| .pZ .. =>[]
 | .build _ ps=>ps.map (·.2.2)
 | .py _ _ ps _ _| .tg _ _ ps _ _=>ps.map (·.2)
 | .store _ a x=>[a,x]
 | .bin _ x y| .beq _ x y| .rW _ _ x y| .tj _ x y| .mm _ x y=>[x,y]
 | .uT _ _ x i| .rX _ x i| .idx _ _ _ x i| .wJ x i=>[x,i]
 | .pY _ _ _ _ l c _=>[l,c]
 | .slice _ x lo hi| .uU x lo hi=>x::(lo.toList++hi.toList)
 | .slice3 _ x lo hi mx=>x::hi::mx::lo.toList
 | .append _ _ _ s x _=>[s,x]
 | .call _ args _=>args
 | .jS f args _=>f::args
 | .tn _ a b=>a++b
 | .uW _ x=>[x]
 | .oN _ x args=>x::args
 | .lookup _ _ _ _ x k _=>[x,k]
 | .qT _ _ x k v=>[x,k,v]
def cG.cls:cG->Nat
 | .uQ _| .pick .. | .build .. | .tg .. | .uR _| .bin .. | .beq .. | .rW .. | .tj .. | .un .. | .conv .. | .uS .. | .field .. | .uT .. | .idx .. | .wJ .. | .uU .. | .uV _
 | .mm .. | .extract .. | .tn .. | .uW .. =>0
 | .load .. | .rX .. | .slice .. | .slice3 .. | .len .. | .lookup .. | .oN .. | .call _ _ false| .jS _ _ false=>1
 | .alloc .. | .box .. | .py .. | .pY .. | .pZ .. | .store .. | .append .. | .qT .. =>2
 | .call _ _ true| .jS _ _ true=>3
def cG.makes:cG->Bool
 | .alloc .. | .box .. | .py .. | .pY .. | .pZ .. | .append .. =>true
 |_=>false
def tmpsOf (l:List Operand):List Nat:=l.filterMap λ| .tmp t=>some t|_=>none
def dC.reads (i:dC):List Nat:=
 tmpsOf i.op.kC++(match i.guard with|some (some s,_)=>[s]|_=>[])
def FA (d:Option Nat) (l:List Nat):Bool:=match d with|none=>true|some d=>!l.contains d
def za (a b:dC):Bool:=
 FA a.dst b.reads&&FA b.dst a.reads&&(match a.dst,b.dst with|some x,some y=>x !=y|_,_=>true)
def wM (a b:dC):Bool:=a.op.cls==0||b.op.cls==0||(a.op.cls==1&&b.op.cls==1)
def BK (a b:dC):Bool:=a.op.cls !=3||b.op.cls !=3
def wO:Nat->List Oper->Bool
 |_,[]=>true
 |i,o::r=>o.after.toList.all (λe=>!Region.binds .any e||decide (e.on<i))&&wO (i+1) r
structure RH where
 id:Nat
 live:List Nat
 perm:List Nat:=[]
 flags:List Nat:=[]
 pre:List kA:=[]
 post:List kA:=[]
def q8 (c:TypeId->Option (List Nat)):Nat->List Field->Option (List Nat)
 |_,[]=>some []
 |b,f::d=>if f.name= "_" ∨f.offset≠b then none else match c f.type with
  |some a=>match q8 c (b+a.length) d with
   |some r=>some (a++r)
   |none=>none
  |none=>none
def gu (P:Program):Nat->TypeId->Option (List Nat)
 |0,_=>none
 |d+1,t=>match P.underlying t,(P.info? t).map (·.size) with
  |some (.int _),some 1=>some [0]
  |some .bool,some 1=>some [1]
  |some .string,some 1=>some [2]
  |some (.struct b),some n=>if P.stoodInHeld t then none else match q8 (gu P d) 0 b.toList with
   |some a=>if a.length=n then some a else none
   |none=>none
  |some (.array k e),some n=>match gu P d e with
   |some a=>if n=k*a.length then some ((δ k a).flatten) else none
   |none=>none
  |_,_=>none
def fJ (P:Program) (t:TypeId):Option Bool:=
 match P.underlying t with
 |some (.struct _)|some (.array _ _)=>some true
 |some _=>some false
 |none=>none
def sizeT (P:Program) (t:TypeId):Option Nat:=(P.info? t).map (·.size)
def wP (P:Program) (t:TypeId):Option Nat:=(P.info? t).map (·.bytes)
def oR (P:Program) (t:TypeId):Option (Option Nat):=
 match fJ P t,sizeT P t with
 |some true,some n=>some (some n)
 |some false,some _=>some none
 |_,_=>none
def lN (P:Program) (t:TypeId):Option (List Value):=
 match(P.info? t).bind (·.zero),sizeT P t with
 |some z,some n=>if z.cells.toList.all (·.oneCell')&&z.cells.size==n then some z.cells.toList else none
 |_,_=>none
def zb (P:Program) (t:TypeId) (g:Bool):Bool:=
 match(P.info? t).bind (·.zero) with
 |some (.agg _)=>g
 |some _=>!g
 |none=>false
def BL (P:Program) (name:String) (t:TypeId):Option FuncId:=
 match P.underlying t,P.info? t with
 |some (.struct _),some i=>match i.methods.find? (·.name==name) with
  |some m=>match m.path.toList,m.func with
   |[],some (f,false)=>some f
   |_,_=>none
  |none=>none
 |_,_=>none
def wQ (P:Program) (name:String):Nat->List (TypeId×FuncId)
 |0=>[]
 |t+1=>match BL P name t with
  |some f=>(t,f)::wQ P name t
  |none=>wQ P name t
def MR (P:Program) (name:String):List (TypeId×FuncId):=wQ P name P.types.size
def q9 {d c:Type} (f:d->Option c):List d->Option (List c)
 |[]=>some []
 |a::l=>match f a,q9 f l with
  |some b,some r=>some (b::r)
  |_,_=>none
def gW (P:Program) (f:FuncId):Bool:=(P.funcs[f]?).any fun a=>a.body.isSome&&!(a.name== "runtime.NumGoroutine")
def MS (P:Program) (a:Array Field):Option (List (Nat×Nat)):=a.toList.mapM λf=>(P.info? f.type).map λi=>(f.offset,i.size)
def MU (a:List (Nat×Nat)) (p:Nat×Operand):Option (Nat×Nat×Operand):=(a[p.1]?).map λq=>(q.1,q.2,p.2)
def pC (P:Program) (fl:Bool) (o:Oper):Option cG:=
 match o.op with
 | .move x| .assign x=>some (.uQ x)
 | .pick c a b=>some (.pick c a b)
 | .alloc e=>(lN P e).map λz=> .alloc z e fl
 | .box e x=>some (.box e x)
 | .build t parts=>match lN P t,P.underlying t with
  |some z,some (.struct fields)=>match MS P fields with
   |some places=>(q9 (MU places) parts.toList).map λps=> .build z ps
   |none=>none
  |some z,some (.array _ e)=>(sizeT P e).map λn=> .build z (parts.toList.map λp=>(p.1*n,n,p.2))
  |_,_=>none
 | .buildSlice t len parts=>match P.underlying t with
  |some (.slice e)=>match lN P e with
   |some z=>if len*z.length<=16777216/\0<z.length then some (if fl then .tg z len (parts.toList.map λp=>(p.1*z.length,p.2)) e z.length else .py z len (parts.toList.map λp=>(p.1*z.length,p.2)) e z.length) else none
   |none=>none
  |_=>none
 | .load t a=>(oR P t).map λn=> .load n a
 | .store t a x=>(sizeT P t).map λn=> .store n a x
 | .nilCheck x=>some (.uR x)
 | .binOp op t x y _=>match op with
  | .eql| .neq=>match P.underlying t with
   |some (.struct _)|some (.array _ _)=>if 20<=P.depth then(gu P 20 t).map λks=> .rW (op matches .neq) ks x y else none
   |some .bool=>some (.beq (op matches .neq) x y)
   |some (.int _)|some .string=>some (.bin op x y)
   |some (.pointer _)=>some (.tj (op matches .neq) x y)
   |_=>none
  |_=>some (.bin op x y)
 | .unOp op _ x=>some (.un op x)
 | .convert s d x=>match P.underlying s,P.underlying d with
  |some _,some (.int k)=>some (.conv k x)
  |_,_=>none
 | .fieldAddr s x f=>match P.underlying s with
  |some (.struct fs)=>match fs[f]? with
   |some g=>match sizeT P g.type with
    |some n=>if n=0 then none else some (.uS g.offset x)
    |none=>none
   |none=>none
  |_=>none
 | .field t x f=>match P.underlying t with
  |some (.struct fs)=>match fs[f]? with
   |some g=>(oR P g.type).map λn=> .field g.offset n x
   |none=>none
  |_=>none
 | .indexAddr t x i=>match P.underlying t with
  |some (.array len e)=>(sizeT P e).map λn=> .uT len n x i
  |some (.slice e)=>match sizeT P e with
   |some n=>if n=0 then none else some (.rX n x i)
   |none=>none
  |_=>none
 | .index t x i=>match P.underlying t with
  |some (.array len e)=>match sizeT P e,oR P e with
   |some s,some n=>some (.idx len s n x i)
   |_,_=>none
  |some .string=>some (.wJ x i)
  |_=>none
 | .makeSlice t l c=>match P.underlying t with
  |some (.slice e)=>match lN P e,wP P e with
   |some z,some b=>if 0<z.length then some (.pY z e z.length b l c fl) else none
   |_,_=>none
  |_=>none
 | .slice t x lo hi none=>match P.underlying t with
  |some (.slice e)=>match sizeT P e with
   |some n=>if n=0 then none else some (.slice n x lo hi)
   |none=>none
  |some .string=>some (.uU x lo hi)
  |_=>none
 | .slice t x lo (some hi) (some mx)=>match P.underlying t with
  |some (.slice e)=>match sizeT P e with
   |some n=>if n=0 then none else some (.slice3 n x lo hi mx)
   |none=>none
  |_=>none
 | .call c=>match c.callee with
  | .value (.func f)=>if gW P f then some (.call f c.args.toList fl) else none
  | .value v=>some (.jS v c.args.toList fl)
  | .invoke x name=>if fl then none else some (.oN (MR P name) x c.args.toList)
  | .builtin .append=>match c.args.toList,c.argTypes.toList with
   |[s,x],[t,t']=>if t=t' then match P.underlying t with
     |some (.slice e)=>match lN P e,wP P e with
      |some z,some b=>if 0<z.length then some (.append e z.length b s x fl) else none
      |_,_=>none
     |_=>none
    else none
   |_,_=>none
  | .builtin .len=>match c.args.toList,c.argTypes.toList with
   |[x],[t]=>match P.underlying t with
    |some (.slice _)=>some (.len 0 x)
    |some .string=>some (.len 1 x)
    |some (.map _ _)=>some (.len 2 x)
    |some (.array n _)=>some (.uV n)
    |_=>none
   |_,_=>none
  | .builtin .min=>match c.args.toList with
   |[x,y]=>some (.mm false x y)
   |_=>none
  | .builtin .max=>match c.args.toList with
   |[x,y]=>some (.mm true x y)
   |_=>none
  |_=>none
 | .extract x i=>some (.extract x i)
 | .makeFunc f a b=>match f with
  | .func g=>some (.tn (.func g) a.toList b.toList)
  |_=>none
 | .makeInterface t x=>match P.underlying t with
  |some (.struct _)=>some (.uW t x)
  |_=>none
 | .makeMap t none=>match P.underlying t with
  |some (.map kt _)=>match gu P 20 kt,fJ P kt with
    |some ks,some ka=>some (.pZ (ks,ka) fl)
    |_,_=>none
  |_=>none
 | .lookup t x k ok=>match P.underlying t with
  |some (.map kt et)=>match gu P 20 kt,fJ P kt,lN P et,fJ P et with
    |some ks,some ka,some z,some g=>if zb P et g then some (.lookup z g ks ka x k ok) else none
    |_,_,_,_=>none
  |_=>none
 | .mapUpdate t m k v| .insert t m k v=>match P.underlying t with
  |some (.map kt _)=>match gu P 20 kt,fJ P kt with
    |some ks,some ka=>some (.qT ks ka m k v)
    |_,_=>none
  |_=>none
 |_=>none
def BM (a:Nat):Option Nat->Bool
 |none=>true
 |some d=>decide (d<a)
def ra (P:Program) (c:Nat) (fl:List Nat) (a:Array Oper) (bC i:Nat):Option dC:=
 match a[i]? with
 |none=>none
 |some o=>if BM c o.dst then(pC P (fl.contains i) o).map λb=>⟨i,bC,o.dst,b,o.guard.map λg=>(((a[g.1]?).bind (·.dst)),g.2)⟩ else none
def u7 (P:Program) (b:Nat) (fl:List Nat) (a:Array Oper):Nat->List Nat->Option (List dC×Nat)
 |k,[]=>some ([],k)
 |k,i::r=>match ra P b fl a k i with
  |none=>none
  |some x=>match u7 P b fl a (if x.op.makes then k+1 else k) r with
   |none=>none
   |some (l,n)=>some (x::l,n)
def BN (acc:List Nat) (s:Nat) (e:Edge):Nat:=if Region.binds .any e then s |||(2^e.on |||acc.getD e.on 0) else s
def oU (b:Array Oper):List Nat:=
 b.toList.foldl (λa o=>a++[o.after.toList.foldl (BN a) 0]) []
def rb (c:List Nat):List dC->List (Nat×Nat)
 |[]=>[]
 |a::r=>(r.filterMap λb=>if(c.getD b.idx 0).testBit a.idx||wM a b then none else some (a.idx,b.idx))++rb c r
def wR (c:List Nat):List dC->Bool
 |[]=>true
 |a::r=>r.all (λb=>(c.getD b.idx 0).testBit a.idx||(za a b&&(wM a b||BK a b)))&&wR c r
def nodupB:List Nat->Bool
 |[]=>true
 |a::r=>!r.contains a&&nodupB r
def wS (P:Program) (d:Nat) (H:List RH) (id:Nat) (a:Array Oper) (c:Bool):Option IR:=
 match H.find? (·.id==id) with
 |none=>none
 |some h=>
  if c then
   let b:=if h.perm.isEmpty then ω a.size else h.perm;match u7 P d h.flags a 0 b with
   |some (l,k)=>if P.follows .mixedOrders&&b.length==a.size&&nodupB b&&wR (oU a) l&&wO 0 a.toList&&(ω a.size).all b.contains then some (.region id true k l (rb (oU a) l) h.live h.pre h.post) else none
   |none=>none
  else(u7 P d h.flags a 0 (ω a.size)).map λ(l,k)=> .region id false k l [] h.live h.pre h.post
def BO:Code->Bool
 | .seq a b| .cond _ a b=>BO a||BO b
 | .block _ b| .loop b| .scope b=>BO b
 | .goto _=>true
 |_=>false
def BP:Code->Option Nat
 | .seq (.label l) c=>if BO c then some l else none
 |_=>none
def MV (H:List RH):Operand->Bool
 | .tmp t=>match H.find? (·.id==999999) with
  |some h=>h.live.contains t
  |none=>false
 |_=>false
def comp (P:Program) (nt:Nat) (H:List RH):Code->Option IR
 | .skip=>some .skip
 | .region id ops draw=>wS P nt H id ops draw
 | .seq a b=>match comp P nt H a,comp P nt H b with
  |some x,some y=>some (.seq x y)
  |_,_=>none
 | .cond c a b=>match comp P nt H a,comp P nt H b with
  |some x,some y=>some (if MV H c then .oO c x y else .cond c x y)
  |_,_=>none
 | .block id b=>(comp P nt H b).map (.block id)
 | .loop b=>(comp P nt H b).map .loop
 | .exit id=>some (.exit id)
 | .ret=>some .ret
 | .label _=>some .skip
 | .goto l=>some (.goto l)
 | .scope b=>(comp P nt H b).map λx=> .turns (BP b) x
 |_=>none
def BQ (h:Array Oper):Option (FuncId×List Operand×Nat):=match h.toList with
 |[f,e]=>match f.dst,f.op,f.guard,e.op,e.dst,e.guard with
  |some d,.makeFunc (.func g) a b,none,.defer c,none,none=>match c.callee with
   | .value (.tmp i)=>if i=d/\a.toList=[]/\c.args.toList=[] then some (g,b.toList,d) else none
   |_=>none
  |_,_,_,_,_,_=>none
 |_=>none
def vd (P:Program) (f:Nat) (H:List RH):Code->Option (IR×(FuncId×List Operand×Nat)×IR)
 | .seq (.region g e d) c=>match BQ e,d with
  |some x,false=>if x.2.2<f/\gW P x.1=true then(comp P f H c).map λb=>(.skip,x,b) else none
  |_,_=>match wS P f H g e d,vd P f H c with
   |some r,some (a,x,b)=>some (.seq r a,x,b)
   |_,_=>none
 |_=>none
def FB (P:Program) (a:Nat) (H:List RH) (c:Code):Option IR:=match comp P a H c with
 |some b=>some b
 |none=>(vd P a H c).map λx=> .tq x.2.1.1 x.2.1.2.1 x.2.1.2.2 x.1 x.2.2
def sf (P:Program):ResultVar->Option mZ
 | .tmp t=>some ⟨t,none⟩
 | .cell a t=>(oR P t).map λn=>⟨a,some n⟩
def BR (P:Program) (H:List RH) (a:Func):Option fy:=
 match a.body with
 |none=>none
 |some c=>match FB P a.ntmps H c,q9 (sf P) a.results.toList with
  |some b,some d=>if a.ntmps<a.params.size+a.nfree then none else some ⟨a.params.size+a.nfree,a.ntmps,b,d⟩
  |_,_=>none
end Go.Vi
