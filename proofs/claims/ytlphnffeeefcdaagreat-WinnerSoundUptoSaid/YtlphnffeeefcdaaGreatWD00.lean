/-
  The abstract interpreter: its values, its small code, and its run. Plain definitions: no proof stands here.
  Conditions: none.
-/
import Derived.Orders
import Derived.RowKit3
set_option maxRecDepth 100000
set_option maxHeartbeats 4000000
set_option linter.all false
open BitVec renaming ofInt->γr
open List renaming replicate->δ,range->ψ
open Nat renaming beq->δu
namespace Go.Vi
inductive AV where
 |ud
 |sc (v:Value)
 |agg (cs:List AV)
 |bJ (cs:List AV)
 |sl (n:Nat) (cs:List AV)
 |ep (cs:List AV) (off:Nat)
 |ptr (id off tot:Nat)
 |os (id off len tot:Nat)
 |mp (id:Nat)
 |fn (f:Fn) (first captured:List AV)
 |je (t:TypeId) (cs:List AV)
 deriving Inhabited
inductive bR where
 |dead
 |cells (cs:List AV) (e:TypeId) (sz:Nat) (pu:Bool)
 |map (es:List (Value×AV)) (kt:List Nat×Bool) (pu:Bool)
 deriving Inhabited
def yN:Value:=.slice none 0 0
def AV.qn:AV->AV
 | .sc (.slice none 0 0)=> .sl 0 []
 |v=>v
def eC (pu:Bool) (cs:List AV):List AV:=if pu then cs.map .qn else cs
def AV.cellsOf:AV->List AV
 | .agg cs=>cs
 |v=>[v]
def AV.one:AV->Bool
 | .agg _| .bJ _| .ud=>false
 | .sc v=>v.oneCell'
 |_=>true
mutual
def AV.pure:AV->Bool
 | .sc _=>true
 | .sl _ cs=>dr cs
 |_=>false
def dr:List AV->Bool
 |[]=>true
 |c::cs=>c.pure&&dr cs
end
mutual
def AV.cj (k:Nat):AV->Bool
 | .ud=>true
 | .sc _=>true
 | .agg cs=>ei k cs
 | .bJ cs=>ei k cs
 | .sl _ _=>true
 | .ep _ _=>true
 | .ptr id _ _=>decide (id<k)
 | .os id _ _ _=>decide (id<k)
 | .mp id=>decide (id<k)
 | .fn _ a b=>ei k a&&ei k b
 | .je _ _=>true
def ei (k:Nat):List AV->Bool
 |[]=>true
 |c::cs=>c.cj k&&ei k cs
end
def bR.cj (k:Nat):bR->Bool
 | .dead=>true
 | .cells cs _ _ pu=>pu||ei k cs
 | .map es _ pu=>pu||ei k (es.map (·.2))
abbrev Store:=List bR
def bR.mK:bR->Bool
 | .dead=>true
 |_=>false
def kM (bE:Nat) (x:bR) (o:Store):Option Store:=
 match o[bE]? with
 |some .dead=>some (o.set bE x)
 |_=>none
abbrev js:=List (Nat×AV)
def dL:js->Nat->AV
 |[],_=> .ud
 |p::r,s=>bif δu p.1 s then p.2 else dL r s
def oq (env:js) (dst:Option Nat) (v:AV):js:=
 match dst with
 |none=>env
 |some d=>(d,v)::env
def AV.uA:Value->AV
 | .agg cs=>if cs.toList.all (·.oneCell') then .agg (cs.toList.map .sc) else .ud
 | .tuple _=> .ud
 |v=> .sc v
def eF (env:js):Operand->AV
 | .tmp t=>dL env t
 | .const v=> .uA v
 | .global _=> .ud
 | .func f=> .fn (.func f) [] []
inductive cJ where
 |uB (x:Operand)
 |pick (c a b:Operand)
 |alloc (z:List Value) (e:TypeId) (pu:Bool)
 |box (e:TypeId) (x:Operand)
 |build (z:List Value) (parts:List (Nat×Nat×Operand))
 |o9 (z:List Value) (len:Nat) (parts:List (Nat×Operand)) (e:TypeId) (sz:Nat)
 |sU (z:List Value) (len:Nat) (parts:List (Nat×Operand)) (e:TypeId) (sz:Nat)
 |load (n:Option Nat) (a:Operand)
 |store (n:Nat) (a x:Operand)
 |uC (x:Operand)
 |bin (op:BinOp) (x y:Operand)
 |beq (neg:Bool) (x y:Operand)
 |rK (neg:Bool) (ks:List Nat) (x y:Operand)
 |un (op:UnOp) (x:Operand)
 |conv (k:IntKind) (x:Operand)
 |uD (off:Nat) (x:Operand)
 |field (off:Nat) (n:Option Nat) (x:Operand)
 |uE (len sz:Nat) (x i:Operand)
 |rL (sz:Nat) (x i:Operand)
 |idx (len sz:Nat) (n:Option Nat) (x i:Operand)
 |wv (x i:Operand)
 |pW (z:List Value) (e:TypeId) (sz bytes:Nat) (l c:Operand) (pu:Bool)
 |slice (sz:Nat) (x:Operand) (lo hi:Option Operand)
 |slice3 (sz:Nat) (x:Operand) (lo:Option Operand) (hi mx:Operand)
 |uF (x:Operand) (lo hi:Option Operand)
 |append (e:TypeId) (sz bytes:Nat) (s x:Operand) (pu:Bool)
 |len (k:Nat) (x:Operand)
 |uG (n:Nat)
 |mm (mx:Bool) (x y:Operand)
 |call (f:FuncId) (args:List Operand) (own:Bool)
 |jI (f:Operand) (args:List Operand) (own:Bool)
 |extract (x:Operand) (i:Nat)
 |sV (f:Fn) (first captured:List Operand)
 |uH (t:TypeId) (x:Operand)
 |ot (tab:List (TypeId×FuncId)) (x:Operand) (args:List Operand)
 |pX (kt:List Nat×Bool) (pu:Bool)
 |lookup (z:List Value) (agg:Bool) (ks:List Nat) (ka:Bool) (x k:Operand) (ok:Bool)
 |qN (ks:List Nat) (ka:Bool) (x k v:Operand)
structure dy where
 idx:Nat
 bE:Nat
 dst:Option Nat
 op:cJ
 guard:Option (Option Nat×Bool)
structure ky where
 own:Bool
 slot:Nat
 off:Option Nat
 e:TypeId
 sz:Nat
 pu:Bool
inductive IR where
 |skip
 |region (id:Nat) (draw:Bool) (k:Nat) (ops:List dy) (jJ:List (Nat×Nat)) (live:List Nat) (pre post:List ky)
 |seq (a b:IR)
 |cond (c:Operand) (a b:IR)
 |block (id:Nat) (c:IR)
 |loop (c:IR)
 |exit (id:Nat)
 |ret
 |goto (l:Nat)
 |turns (l:Option Nat) (b:IR)
 |ou (c:Operand) (a b:IR)
 |sW (g:FuncId) (caps:List Operand) (d:Nat) (a b:IR)
structure St where
 env:js
 o:Store
def behind (o:Store):AV->Option (List AV×Nat)
 | .ptr id off tot=>match o[id]? with
  |some (.cells cs _ _ _)=>if cs.length=tot then some (cs,off) else none
  |_=>none
 | .ep cs off=>some (cs,off)
 |_=>none
def gj (cs:List AV) (off:Nat):Option Nat->Option AV
 |none=>cs[off]?
 |some n=>if off+n<=cs.length then some (.agg ((cs.drop off).take n)) else none
def fQ (cs:List AV) (off:Nat):List AV->List AV
 |[]=>cs
 |v::vs=>fQ (cs.set off v) (off+1) vs
def eJ (l:List AV):Bool:=l.all (·.one)
def eV (k:IntKind) (n:Int):Int:=
 match k with
 | .i64=>if decide (-9223372036854775808<=n)&&decide (n<=9223372036854775807) then n else IntKind.wrap .i64 n
 | .u32=>if decide (0<=n)&&decide (n<=4294967295) then n else IntKind.wrap .u32 n
 | .u64=>if decide (0<=n)&&decide (n<=18446744073709551615) then n else IntKind.wrap .u64 n
 |k=>k.wrap n
def Bg (n:Nat):Int:=Int.ofNat (Nat.pow 2 n)
def k9 (op:BinOp) (k:IntKind) (a b:Int):Option Value:=
 match op with
 | .add=>some (.int k (eV k (a+b)))
 | .sub=>some (.int k (eV k (a - b)))
 | .mul=>some (.int k (eV k (a*b)))
 | .quo=>if b=0 then none else some (.int k (eV k (a.tdiv b)))
 | .rem=>if b=0 then none else some (.int k (a.tmod b))
 | .and=>some (.int k (eV k (γr k.bits a &&&γr k.bits b).toNat))
 | .or=>some (.int k (eV k (γr k.bits a |||γr k.bits b).toNat))
 | .xor=>some (.int k (eV k (γr k.bits a ^^^γr k.bits b).toNat))
 | .andNot=>some (.int k (eV k (γr k.bits a &&&~~~(γr k.bits b)).toNat))
 | .eql=>some (.bool (a==b))
 | .neq=>some (.bool (a !=b))
 | .lss=>some (.bool (decide (a<b)))
 | .leq=>some (.bool (decide (a<=b)))
 | .gtr=>some (.bool (decide (b<a)))
 | .geq=>some (.bool (decide (b<=a)))
 |_=>none
def gV (op:BinOp):Value->Value->Option Value
 | .int k a,.int k' b=>
  match op with
  | .shl=>if b<0 then none else some (.int k (eV k (a*Bg (min b.toNat k.bits))))
  | .shr=>if b<0 then none else some (.int k (a.fdiv (Bg (min b.toNat k.bits))))
  |_=>if k=k' then k9 op k a b else none
 | .string a,.string b=>match op with
  | .eql=>some (.bool (a.toList==b.toList))
  | .neq=>some (.bool (!(a.toList==b.toList)))
  | .add=>if a.size+b.size<=1000000000 then some (.string (a++b)) else none
  |_=>none
 |_,_=>none
def seq1:Value->Value->Option Bool
 | .int k a,.int k' b=>if k=k' then some (a==b) else none
 | .bool a,.bool b=>some (a==b)
 | .string a,.string b=>some (a.toList==b.toList)
 |_,_=>none
def gk:List Value->List Value->Option Bool
 |[],[]=>some true
 |x::xs,y::ys=>match seq1 x y,gk xs ys with
  |some a,some b=>some (a&&b)
  |_,_=>none
 |_,_=>none
def eD:List Nat->List Value->Bool
 |[],[]=>true
 |0::ks,.int _ _::vs=>eD ks vs
 |1::ks,.bool _::vs=>eD ks vs
 |2::ks,.string _::vs=>eD ks vs
 |_,_=>false
def rM:List AV->Option (List Value)
 |[]=>some []
 | .sc v::r=>(rM r).map (v::·)
 |_=>none
def wy (ks:List Nat) (a b:List AV):Option Bool:=
 match rM a,rM b with
 |some x,some y=>if eD ks x&&eD ks y then gk x y else none
 |_,_=>none
def yO (op:UnOp):AV->Option AV
 | .sc (.bool b)=>match op with| .not=>some (.sc (.bool !b))|_=>none
 | .sc (.int k n)=>match op with| .neg=>some (.sc (.int k (eV k (0 - n))))|_=>none
 |_=>none
def ig:AV->Option Int
 | .sc (.int _ n)=>some n
 |_=>none
def ov (d:Nat):AV->Option AV
 | .ptr id off tot=>some (.ptr id (off+d) tot)
 | .ep cs off=>some (.ep cs (off+d))
 |_=>none
def mL (o:Store) (sz:Nat):AV->Option (Nat×List AV)
 | .sl n cs=>if cs.length=n*sz then some (n,cs) else none
 | .os id off len tot=>match o[id]? with
  |some (.cells cs _ sz' _)=>if cs.length=tot/\sz'=sz/\off+len*sz<=tot then some (len,(cs.drop off).take (len*sz)) else none
  |_=>none
 | .sc (.slice none 0 0)=>some (0,[])
 |_=>none
def rN (off tot sz:Nat):Nat:=if Nat.ble off tot then off else off - tot - sz
def pY (o:Store) (sz:Nat) (x:AV) (i:Int):Option AV:=
 match x with
 | .sl n cs=>if 0<=i/\i<n/\cs.length=n*sz then some (.ep cs (i.toNat*sz)) else none
 | .os id off len tot=>match o[id]? with
  |some (.cells cs _ sz' _)=>if cs.length=tot/\sz'=sz/\0<=i/\i<len/\rN off tot sz+len*sz<=tot then some (.ptr id (rN off tot sz+i.toNat*sz) tot) else none
  |_=>none
 |_=>none
def lg (o:Store):Nat->AV->Option Nat
 |0,.sl n _=>some n
 |0,.os _ _ len _=>some len
 |0,.sc (.slice _ n _)=>some n
 |1,.sc (.string s)=>some s.size
 |2,.mp id=>match o[id]? with
  |some (.map es _ _)=>some es.length
  |_=>none
 |_,_=>none
def pZ (e:TypeId) (sz a:Nat) (pu:Bool) (s x:AV) (o:Store) (bE:Nat):Option (AV×Store):=
 match mL o sz x with
 |none=>none
 |some (m,b)=>
  if eJ b=false then none else
  match s with
  | .sc (.slice none 0 0)=>
   if m=0 then some (.sc yN,o)
   else if m*a<=140737488355328/\m<=1000000000000/\(pu=false\/dr b=true) then(kM bE (.cells b e sz pu) o).map λk=>(.os bE 0 m (m*sz),k) else none
  | .os h 0 c d=>match o[h]? with
   |some (.cells g j i f)=>
    if g.length=d/\j=e/\i=sz/\c*sz=d/\(c+m)*a<=140737488355328/\c+m<=1000000000000/\(f=false\/dr b=true)
    then some (.os h 0 (c+m) (d+m*sz),o.set h (.cells (g++b) e sz f)) else none
   |_=>none
  | .sl n g=>if m=0 then some (.sl n g,o) else none
  |_=>none
def ik (d:Nat):Option AV->Option Nat
 |none=>some d
 |some (.sc (.int _ n))=>if 0<=n then some n.toNat else none
 |_=>none
def qa (o:Store) (sz:Nat) (x:AV) (lo hi:Option AV):Option AV:=
 match x with
 | .sl n cs=>match ik 0 lo,ik n hi with
  |some l,some h=>if l<=h/\h<=n/\cs.length=n*sz then some (.sl (h - l) ((cs.drop (l*sz)).take ((h - l)*sz))) else none
  |_,_=>none
 | .os id off len tot=>match ik 0 lo,ik len hi with
  |some l,some h=>match o[id]? with
   |some (.cells cs _ sz' _)=>if l<=h/\h<=len/\cs.length=tot/\sz'=sz then some (.os id (off+l*sz) (h - l) tot) else none
   |_=>none
  |_,_=>none
 | .sc (.slice none 0 0)=>match ik 0 lo,ik 0 hi with
  |some 0,some 0=>some (.sc yN)
  |_,_=>none
 |_=>none
def rO (o:Store) (sz:Nat) (x:AV) (lo:Option AV) (hi mx:AV):Option AV:=
 match x with
 | .sl n cs=>match ik 0 lo,ik n (some hi),ik n (some mx) with
  |some l,some h,some m=>if l<=h/\h<=m/\m<=n/\cs.length=n*sz then some (.sl (h - l) ((cs.drop (l*sz)).take ((h - l)*sz))) else none
  |_,_,_=>none
 | .os id off len tot=>match ik 0 lo,ik len (some hi),ik len (some mx) with
  |some l,some h,some m=>match o[id]? with
   |some (.cells cs _ sz' _)=>if l<=h/\h<=m/\m<=len/\cs.length=tot/\sz'=sz/\off+len*sz<=tot/\0<sz then some (.os id (off+l*sz+(tot+sz)) (h - l) tot) else none
   |_=>none
  |_,_,_=>none
 |_=>none
def lh (ks:List Nat) (ka:Bool):AV->Option Value
 | .sc v=>if !ka&&eD ks [v] then some v else none
 | .agg cs=>match rM cs with
  |some vs=>if ka&&eD ks vs then some (.agg vs.toArray) else none
  |none=>none
 |_=>none
def keq:Value->Value->Option Bool
 | .agg a,.agg b=>gk a.toList b.toList
 | .agg _,_=>none
 |_,.agg _=>none
 |a,b=>seq1 a b
def nE (k:Value):List (Value×AV)->Nat->Option (Option (Nat×AV))
 |[],_=>some none
 |e::es,i=>match keq k e.1 with
  |some true=>some (some (i,e.2))
  |some false=>nE k es (i+1)
  |none=>none
def qO (z:List Value) (agg:Bool):Option AV:=
 if agg then some (.agg (z.map .sc)) else match z with
  |[v]=>some (.sc v)
  |_=>none
def freeze (o:Store):Nat->AV->Option AV
 |_,.ud=>some .ud
 |_,.sc v=>match v with
  | .slice none 0 0=>some (.sl 0 [])
  |v=>some (.sc v)
 |_,.sl n cs=>some (.sl n cs)
 |_,.je t cs=>some (.je t cs)
 |d+1,.agg cs=>(cs.mapM (freeze o d)).map .agg
 |d+1,.bJ cs=>(cs.mapM (freeze o d)).map .bJ
 |d+1,.fn f a b=>match a.mapM (freeze o d),b.mapM (freeze o d) with
  |some a',some b'=>some (.fn f a' b')
  |_,_=>none
 |d+1,.os id off len tot=>match o[id]? with
  |some (.cells cs _ sz pu)=>
   if cs.length=tot/\off+len*sz<=tot then
    if pu then some (.sl len ((cs.drop off).take (len*sz)))
    else match((cs.drop off).take (len*sz)).mapM (freeze o d) with
     |some cs'=>if dr cs' then some (.sl len cs') else none
     |none=>none
   else none
  |_=>none
 |_,_=>none
mutual
def AV.ren (m:Nat->Option Nat):AV->Option AV
 | .ud=>some .ud
 | .sc v=>some (.sc v)
 | .sl n cs=>some (.sl n cs)
 | .je t cs=>some (.je t cs)
 | .ep cs off=>some (.ep cs off)
 | .agg cs=>(iH m cs).map .agg
 | .bJ cs=>(iH m cs).map .bJ
 | .ptr id off tot=>(m id).map λi=> .ptr i off tot
 | .os id off len tot=>(m id).map λi=> .os i off len tot
 | .mp id=>(m id).map .mp
 | .fn f a b=>match iH m a,iH m b with
  |some a',some b'=>some (.fn f a' b')
  |_,_=>none
def iH (m:Nat->Option Nat):List AV->Option (List AV)
 |[]=>some []
 |c::cs=>match c.ren m,iH m cs with
  |some c',some cs'=>some (c'::cs')
  |_,_=>none
end
def ox (m:Nat->Option Nat):List (Value×AV)->Option (List (Value×AV))
 |[]=>some []
 |e::es=>match e.2.ren m,ox m es with
  |some v,some es'=>some ((e.1,v)::es')
  |_,_=>none
def bR.ren (m:Nat->Option Nat):bR->Option bR
 | .dead=>some .dead
 | .cells cs e sz pu=>if pu then some (.cells cs e sz pu) else(iH m cs).map λcs'=> .cells cs' e sz pu
 | .map es kt pu=>if pu then some (.map es kt pu) else(ox m es).map λes'=> .map es' kt pu
def idxOf (ids:List Nat) (i:Nat) (k:Nat:=0):Option Nat:=
 match ids with
 |[]=>none
 |j::r=>if j==i then some k else idxOf r i (k+1)
def cT (o:Store):Nat->List AV->List Nat->List Nat
 |0,_,acc=>acc
 |_,[],acc=>acc
 |d+1,v::vs,acc=>
  let visit (id:Nat) (acc:List Nat):List Nat:=
   if acc.contains id then acc else
   match o[id]? with
   |some (.cells cs _ _ pu)=>if pu then acc++[id] else cT o d cs (acc++[id])
   |some (.map es _ pu)=>if pu then acc++[id] else cT o d (es.map (·.2)) (acc++[id])
   |_=>acc++[id];let acc':=match v with
   | .agg cs| .bJ cs=>cT o d cs acc
   | .ptr id _ _| .os id _ _ _| .mp id=>visit id acc
   | .fn _ a b=>cT o d b (cT o d a acc)
   |_=>acc;cT o d vs acc'
def fz:Nat:=400
def kN (o:Store) (ids:List Nat):List Nat->Option Store
 |[]=>some []
 |i::r=>match o[i]?,kN o ids r with
  |some x,some l=>(x.ren (λj=>idxOf ids j)).map (·::l)
  |_,_=>none
def oz (ids:List Nat) (n i:Nat):Option Nat:=
 match ids[i]? with
 |some j=>some j
 |none=>some (n+(i - ids.length))
def rP (m:Nat->Option Nat):Store->Option Store
 |[]=>some []
 |x::r=>match x.ren m,rP m r with
  |some y,some l=>some (y::l)
  |_,_=>none
def lB (o:Store):List Nat->Store->Store
 |[],_=>o
 |_,[]=>o
 |i::r,x::l=>lB (o.set i x) r l
abbrev dh:=FuncId->List AV->Store->Bool->Option (AV×Store)
def iI (call:dh) (f:FuncId) (args:List AV) (o:Store):Option (AV×Store):=
 let ids:=cT o fz args [];match iH (λj=>idxOf ids j) args,kN o ids ids with
 |some args',some small=>match call f args' small true with
  |some (r,L0)=>
   if L0.length<ids.length\/pd ids=false then none else
   match r.ren (oz ids o.length),rP (oz ids o.length) L0 with
   |some r',some big=>some (r',lB o ids (big.take ids.length)++big.drop ids.length)
   |_,_=>none
  |none=>none
 |_,_=>none
where pd:List Nat->Bool
 |[]=>true
 |a::r=>!r.contains a&&pd r
mutual
def AV.kO:AV->Bool
 | .ud| .sc _=>true
 | .agg cs| .bJ cs=>uI cs
 | .sl _ cs=>cs.isEmpty
 |_=>false
def uI:List AV->Bool
 |[]=>true
 |c::cs=>c.kO&&uI cs
end
def fe (o:Store):Nat->AV->List Nat
 |d+1,.agg cs=>cs.flatMap (fe o d)
 |d+1,.bJ cs=>cs.flatMap (fe o d)
 |d+1,.fn _ a b=>a.flatMap (fe o d)++b.flatMap (fe o d)
 |d+1,.os id off len _=>id::(match o[id]? with
  |some (.cells cs _ sz pu)=>if pu then[] else((cs.drop off).take (len*sz)).flatMap (fe o d)
  |_=>[])
 |_,_=>[]
def uJ:List (TypeId×FuncId)->TypeId->Option FuncId
 |[],_=>none
 |p::r,t=>bif δu p.1 t then some p.2 else uJ r t
def gw (call:dh) (f:FuncId) (args:List AV) (o:Store) (own:Bool):Option (AV×Store):=
 if own then iI call f args o
 else match args.mapM (freeze o 6) with
  |none=>none
  |some args'=>match call f args' [] false with
   |some (r,[])=>if(args.flatMap (fe o 6)).isEmpty||r.kO then some (r,o) else none
   |_=>none
def li (parts:List (Nat×Nat×AV)) (cs:List AV):Option (List AV):=
 match parts with
 |[]=>some cs
 |(off,n,v)::rest=>
  if v.cellsOf.length=n/\eJ v.cellsOf=true/\off+n<=cs.length then li rest (fQ cs off v.cellsOf) else none
def bK (call:dh) (op:cJ) (ρ:Operand->AV) (o:Store) (bE:Nat):Option (AV×Store):=
 match op with
 | .uB x=>some (ρ x,o)
 | .pick c a b=>match ρ c with
  | .sc (.bool true)=>some (ρ a,o)
  | .sc (.bool false)=>some (ρ b,o)
  |_=>none
 | .alloc z e pu=>(kM bE (.cells (z.map .sc) e z.length pu) o).map λo'=>(.ptr bE 0 z.length,o')
 | .box e x=>if eJ (ρ x).cellsOf then(kM bE (.cells (ρ x).cellsOf e (ρ x).cellsOf.length false) o).map λo'=>(.ptr bE 0 (ρ x).cellsOf.length,o') else none
 | .build z parts=>(li (parts.map λp=>(p.1,p.2.1,ρ p.2.2)) (z.map .sc)).map λcs=>(.agg cs,o)
 | .o9 z len parts e sz=>
  match li (parts.map λp=>(p.1,sz,ρ p.2)) ((δ len (z.map AV.sc)).flatten) with
  |some cs=>(kM bE (.cells (eC (dr cs) cs) e sz (dr cs)) o).map λo'=>(.os bE 0 len (len*sz),o')
  |none=>none
 | .sU z len parts _ sz=>
  match li (parts.map λp=>(p.1,sz,ρ p.2)) ((δ len (z.map AV.sc)).flatten) with
  |some cs=>if dr cs=true then some (.sl len (eC true cs),o) else none
  |none=>none
 | .load n a=>match behind o (ρ a) with
  |some (cs,off)=>(gj cs off n).map (·,o)
  |none=>none
 | .store n a x=>match ρ a with
  | .ptr id off tot=>match o[id]? with
   |some (.cells cs e sz pu)=>
    let v:=(ρ x).cellsOf;if cs.length=tot/\v.length=n/\eJ v=true/\off+n<=cs.length/\(pu=false\/dr v=true) then some (.ud,o.set id (.cells (fQ cs off (eC pu v)) e sz pu)) else none
   |_=>none
  |_=>none
 | .uC x=>match ρ x with
  | .ptr a b c=>some (.ptr a b c,o)
  | .ep a b=>some (.ep a b,o)
  |_=>none
 | .bin op x y=>match ρ x,ρ y with
  | .sc a,.sc b=>(gV op a b).map λv=>(.sc v,o)
  |_,_=>none
 | .beq neg x y=>match ρ x,ρ y with
  | .sc (.bool a),.sc (.bool b)=>some (.sc (.bool (if neg then !(a==b) else a==b)),o)
  |_,_=>none
 | .rK neg ks x y=>match ρ x,ρ y with
  | .agg a,.agg b=>(wy ks a b).map λr=>(.sc (.bool (if neg then !r else r)),o)
  |_,_=>none
 | .un op x=>(yO op (ρ x)).map (·,o)
 | .conv k x=>match ρ x with
  | .sc (.int _ n)=>some (.sc (.int k (eV k n)),o)
  |_=>none
 | .uD off x=>(ov off (ρ x)).map (·,o)
 | .field off n x=>match ρ x with
  | .agg cs=>(gj cs off n).map (·,o)
  |_=>none
 | .uE len sz x i=>match ig (ρ i) with
  |some n=>if 0<=n/\n<len then(ov (n.toNat*sz) (ρ x)).map (·,o) else none
  |none=>none
 | .rL sz x i=>match ig (ρ i) with
  |some n=>(pY o sz (ρ x) n).map (·,o)
  |none=>none
 | .idx len sz n x i=>match ig (ρ i),ρ x with
  |some k,.agg cs=>if 0<=k/\k<len then(gj cs (k.toNat*sz) n).map (·,o) else none
  |_,_=>none
 | .wv x i=>match ig (ρ i),ρ x with
  |some k,.sc (.string s)=>if 0<=k then(s[k.toNat]?).map λb=>(.sc (.int .u8 b.toNat),o) else none
  |_,_=>none
 | .pW z e sz bytes l c pu=>match ig (ρ l),ig (ρ c) with
  |some n,some m=>if 0<=n/\n<=m/\m*bytes<=140737488355328/\m<=1000000000000 then
    (kM bE (.cells ((δ n.toNat (eC pu (z.map AV.sc))).flatten) e sz pu) o).map λo'=>(.os bE 0 n.toNat (n.toNat*sz),o') else none
  |_,_=>none
 | .slice sz x lo hi=>(qa o sz (ρ x) (lo.map ρ) (hi.map ρ)).map (·,o)
 | .slice3 sz x lo hi mx=>(rO o sz (ρ x) (lo.map ρ) (ρ hi) (ρ mx)).map (·,o)
 | .uF x lo hi=>match ρ x with
  | .sc (.string s)=>match ik 0 (lo.map ρ),ik s.size (hi.map ρ) with
   |some l,some h=>if l<=h/\h<=s.size then some (.sc (.string (s.extract l h)),o) else none
   |_,_=>none
  |_=>none
 | .append e sz bytes s x pu=>pZ e sz bytes pu (ρ s) (ρ x) o bE
 | .len k x=>(lg o k (ρ x)).map λ(n:Nat)=>(.sc (.int .i64 n),o)
 | .uG n=>some (.sc (.int .i64 n),o)
 | .mm mx x y=>match ρ x,ρ y with
  | .sc (.int k a),.sc (.int k' b)=>if k=k' then some (.sc (.int k (if mx then(if b>a then b else a) else(if b<a then b else a))),o) else none
  |_,_=>none
 | .call f args own=>gw call f (args.map ρ) o own
 | .jI f args own=>match ρ f with
  | .fn (.func g) first captured=>gw call g (first++args.map ρ++captured) o own
  |_=>none
 | .extract x i=>match ρ x with
  | .bJ vs=>(vs[i]?).map (·,o)
  |_=>none
 | .sV f first captured=>some (.fn f (first.map ρ) (captured.map ρ),o)
 | .uH t x=>match ρ x with
  | .agg cs=>if dr cs=true then some (.je t cs,o) else none
  |_=>none
 | .ot tab x args=>match ρ x with
  | .je t cs=>match uJ tab t with
   |some f=>gw call f (.agg cs::args.map ρ) o false
   |none=>none
  |_=>none
 | .pX kt pu=>(kM bE (.map [] kt pu) o).map λo'=>(.mp bE,o')
 | .lookup z agg ks ka x k ok=>match ρ x,lh ks ka (ρ k) with
  | .mp id,some kv=>match o[id]? with
   |some (.map es kt _)=>if kt=(ks,ka) then match nE kv es 0,qO z agg with
    |some (some (_,v)),_=>some (if ok then .bJ [v,.sc (.bool true)] else v,o)
    |some none,some v=>some (if ok then .bJ [v,.sc (.bool false)] else v,o)
    |_,_=>none
    else none
   |_=>none
  |_,_=>none
 | .qN ks ka x k v=>match ρ x,lh ks ka (ρ k) with
  | .mp id,some kv=>match o[id]? with
   |some (.map es kt pu)=>
    if(pu=true/\(ρ v).pure=false)\/kt≠(ks,ka) then none else
    match nE kv es 0 with
    |some (some (i,_))=>some (.ud,o.set id (.map (es.modify i λ_=>(kv,ρ v)) kt pu))
    |some none=>some (.ud,o.set id (.map (es++[(kv,ρ v)]) kt pu))
    |none=>none
   |_=>none
  |_,_=>none
def Vj (x:Operand) (_call:dh) (ρ:Operand->AV) (o:Store) (_nid:Nat):Option (AV×Store):=some (ρ x,o)
def Vk (c:Operand) (a:Operand) (b:Operand) (_call:dh) (ρ:Operand->AV) (o:Store) (_nid:Nat):Option (AV×Store):=match ρ c with
  | .sc (.bool true)=>some (ρ a,o)
  | .sc (.bool false)=>some (ρ b,o)
  |_=>none
def Vl (z:List Value) (e:TypeId) (pu:Bool) (_call:dh) (_ρ:Operand->AV) (o:Store) (bE:Nat):Option (AV×Store):=(kM bE (.cells (z.map .sc) e z.length pu) o).map λo'=>(.ptr bE 0 z.length,o')
def Vm (e:TypeId) (x:Operand) (_call:dh) (ρ:Operand->AV) (o:Store) (bE:Nat):Option (AV×Store):=if eJ (ρ x).cellsOf then(kM bE (.cells (ρ x).cellsOf e (ρ x).cellsOf.length false) o).map λo'=>(.ptr bE 0 (ρ x).cellsOf.length,o') else none
def Vn (z:List Value) (parts:List (Nat×Nat×Operand)) (_call:dh) (ρ:Operand->AV) (o:Store) (_nid:Nat):Option (AV×Store):=(li (parts.map λp=>(p.1,p.2.1,ρ p.2.2)) (z.map .sc)).map λcs=>(.agg cs,o)
def Vo (z:List Value) (len:Nat) (parts:List (Nat×Operand)) (e:TypeId) (sz:Nat) (_call:dh) (ρ:Operand->AV) (o:Store) (bE:Nat):Option (AV×Store):=
  match li (parts.map λp=>(p.1,sz,ρ p.2)) ((δ len (z.map AV.sc)).flatten) with
  |some cs=>(kM bE (.cells (eC (dr cs) cs) e sz (dr cs)) o).map λo'=>(.os bE 0 len (len*sz),o')
  |none=>none
def Vp (z:List Value) (len:Nat) (parts:List (Nat×Operand)) (_a3:TypeId) (sz:Nat) (_call:dh) (ρ:Operand->AV) (o:Store) (_nid:Nat):Option (AV×Store):=
  match li (parts.map λp=>(p.1,sz,ρ p.2)) ((δ len (z.map AV.sc)).flatten) with
  |some cs=>if dr cs=true then some (.sl len (eC true cs),o) else none
  |none=>none
def Vq (n:Option Nat) (a:Operand) (_call:dh) (ρ:Operand->AV) (o:Store) (_nid:Nat):Option (AV×Store):=match behind o (ρ a) with
  |some (cs,off)=>(gj cs off n).map (·,o)
  |none=>none
def Vr (n:Nat) (a:Operand) (x:Operand) (_call:dh) (ρ:Operand->AV) (o:Store) (_nid:Nat):Option (AV×Store):=match ρ a with
  | .ptr id off tot=>match o[id]? with
   |some (.cells cs e sz pu)=>
    let v:=(ρ x).cellsOf;if cs.length=tot/\v.length=n/\eJ v=true/\off+n<=cs.length/\(pu=false\/dr v=true) then some (.ud,o.set id (.cells (fQ cs off (eC pu v)) e sz pu)) else none
   |_=>none
  |_=>none
def Vs (x:Operand) (_call:dh) (ρ:Operand->AV) (o:Store) (_nid:Nat):Option (AV×Store):=match ρ x with
  | .ptr a b c=>some (.ptr a b c,o)
  | .ep a b=>some (.ep a b,o)
  |_=>none
def Vt (op:BinOp) (x:Operand) (y:Operand) (_call:dh) (ρ:Operand->AV) (o:Store) (_nid:Nat):Option (AV×Store):=match ρ x,ρ y with
  | .sc a,.sc b=>(gV op a b).map λv=>(.sc v,o)
  |_,_=>none
def Vu (neg:Bool) (x:Operand) (y:Operand) (_call:dh) (ρ:Operand->AV) (o:Store) (_nid:Nat):Option (AV×Store):=match ρ x,ρ y with
  | .sc (.bool a),.sc (.bool b)=>some (.sc (.bool (if neg then !(a==b) else a==b)),o)
  |_,_=>none
def Vv (neg:Bool) (ks:List Nat) (x:Operand) (y:Operand) (_call:dh) (ρ:Operand->AV) (o:Store) (_nid:Nat):Option (AV×Store):=match ρ x,ρ y with
  | .agg a,.agg b=>(wy ks a b).map λr=>(.sc (.bool (if neg then !r else r)),o)
  |_,_=>none
def Vw (op:UnOp) (x:Operand) (_call:dh) (ρ:Operand->AV) (o:Store) (_nid:Nat):Option (AV×Store):=(yO op (ρ x)).map (·,o)
def Vx (k:IntKind) (x:Operand) (_call:dh) (ρ:Operand->AV) (o:Store) (_nid:Nat):Option (AV×Store):=match ρ x with
  | .sc (.int _ n)=>some (.sc (.int k (eV k n)),o)
  |_=>none
def Vy (off:Nat) (x:Operand) (_call:dh) (ρ:Operand->AV) (o:Store) (_nid:Nat):Option (AV×Store):=(ov off (ρ x)).map (·,o)
def Vz (off:Nat) (n:Option Nat) (x:Operand) (_call:dh) (ρ:Operand->AV) (o:Store) (_nid:Nat):Option (AV×Store):=match ρ x with
  | .agg cs=>(gj cs off n).map (·,o)
  |_=>none
def VA (len:Nat) (sz:Nat) (x:Operand) (i:Operand) (_call:dh) (ρ:Operand->AV) (o:Store) (_nid:Nat):Option (AV×Store):=match ig (ρ i) with
  |some n=>if 0<=n/\n<len then(ov (n.toNat*sz) (ρ x)).map (·,o) else none
  |none=>none
def VB (sz:Nat) (x:Operand) (i:Operand) (_call:dh) (ρ:Operand->AV) (o:Store) (_nid:Nat):Option (AV×Store):=match ig (ρ i) with
  |some n=>(pY o sz (ρ x) n).map (·,o)
  |none=>none
def VC (len:Nat) (sz:Nat) (n:Option Nat) (x:Operand) (i:Operand) (_call:dh) (ρ:Operand->AV) (o:Store) (_nid:Nat):Option (AV×Store):=match ig (ρ i),ρ x with
  |some k,.agg cs=>if 0<=k/\k<len then(gj cs (k.toNat*sz) n).map (·,o) else none
  |_,_=>none
def VD (x:Operand) (i:Operand) (_call:dh) (ρ:Operand->AV) (o:Store) (_nid:Nat):Option (AV×Store):=match ig (ρ i),ρ x with
  |some k,.sc (.string s)=>if 0<=k then(s[k.toNat]?).map λb=>(.sc (.int .u8 b.toNat),o) else none
  |_,_=>none
def VE (z:List Value) (e:TypeId) (sz:Nat) (a:Nat) (l:Operand) (c:Operand) (pu:Bool) (b:dh) (ρ:Operand->AV) (o:Store) (bE:Nat):Option (AV×Store):=match ig (ρ l),ig (ρ c) with
  |some n,some m=>if 0<=n/\n<=m/\m*a<=140737488355328/\m<=1000000000000 then
    (kM bE (.cells ((δ n.toNat (eC pu (z.map AV.sc))).flatten) e sz pu) o).map λd=>(.os bE 0 n.toNat (n.toNat*sz),d) else none
  |_,_=>none
def VF (sz:Nat) (x:Operand) (lo:Option Operand) (hi:Option Operand) (_call:dh) (ρ:Operand->AV) (o:Store) (_nid:Nat):Option (AV×Store):=(qa o sz (ρ x) (lo.map ρ) (hi.map ρ)).map (·,o)
def VG (sz:Nat) (x:Operand) (lo:Option Operand) (hi:Operand) (mx:Operand) (_call:dh) (ρ:Operand->AV) (o:Store) (_nid:Nat):Option (AV×Store):=(rO o sz (ρ x) (lo.map ρ) (ρ hi) (ρ mx)).map (·,o)
def VH (x:Operand) (lo:Option Operand) (hi:Option Operand) (_call:dh) (ρ:Operand->AV) (o:Store) (_nid:Nat):Option (AV×Store):=match ρ x with
  | .sc (.string s)=>match ik 0 (lo.map ρ),ik s.size (hi.map ρ) with
   |some l,some h=>if l<=h/\h<=s.size then some (.sc (.string (s.extract l h)),o) else none
   |_,_=>none
  |_=>none
def VI (e:TypeId) (sz:Nat) (a:Nat) (s:Operand) (x:Operand) (pu:Bool) (b:dh) (ρ:Operand->AV) (o:Store) (bE:Nat):Option (AV×Store):=pZ e sz a pu (ρ s) (ρ x) o bE
def VJ (k:Nat) (x:Operand) (_call:dh) (ρ:Operand->AV) (o:Store) (_nid:Nat):Option (AV×Store):=(lg o k (ρ x)).map λ(n:Nat)=>(.sc (.int .i64 n),o)
def VK (n:Nat) (_call:dh) (_ρ:Operand->AV) (o:Store) (_nid:Nat):Option (AV×Store):=some (.sc (.int .i64 n),o)
def VL (mx:Bool) (x:Operand) (y:Operand) (_call:dh) (ρ:Operand->AV) (o:Store) (_nid:Nat):Option (AV×Store):=match ρ x,ρ y with
  | .sc (.int k a),.sc (.int k' b)=>if k=k' then some (.sc (.int k (if mx then(if b>a then b else a) else(if b<a then b else a))),o) else none
  |_,_=>none
def VM (f:FuncId) (args:List Operand) (own:Bool) (call:dh) (ρ:Operand->AV) (o:Store) (_nid:Nat):Option (AV×Store):=gw call f (args.map ρ) o own
def L1 (f:Operand) (args:List Operand) (own:Bool) (call:dh) (ρ:Operand->AV) (o:Store) (_nid:Nat):Option (AV×Store):=match ρ f with
  | .fn (.func g) first captured=>gw call g (first++args.map ρ++captured) o own
  |_=>none
def VN (x:Operand) (i:Nat) (_call:dh) (ρ:Operand->AV) (o:Store) (_nid:Nat):Option (AV×Store):=match ρ x with
  | .bJ vs=>(vs[i]?).map (·,o)
  |_=>none
def VO (f:Fn) (first:List Operand) (captured:List Operand) (_call:dh) (ρ:Operand->AV) (o:Store) (_nid:Nat):Option (AV×Store):=some (.fn f (first.map ρ) (captured.map ρ),o)
def VP (t:TypeId) (x:Operand) (_call:dh) (ρ:Operand->AV) (o:Store) (_nid:Nat):Option (AV×Store):=match ρ x with
  | .agg cs=>if dr cs=true then some (.je t cs,o) else none
  |_=>none
def L9 (tab:List (TypeId×FuncId)) (x:Operand) (args:List Operand) (call:dh) (ρ:Operand->AV) (o:Store) (_nid:Nat):Option (AV×Store):=match ρ x with
  | .je t cs=>match uJ tab t with
   |some f=>gw call f (.agg cs::args.map ρ) o false
   |none=>none
  |_=>none
def VQ (kt:List Nat×Bool) (pu:Bool) (_call:dh) (_ρ:Operand->AV) (o:Store) (bE:Nat):Option (AV×Store):=(kM bE (.map [] kt pu) o).map λo'=>(.mp bE,o')
def VR (z:List Value) (agg:Bool) (ks:List Nat) (ka:Bool) (x:Operand) (k:Operand) (ok:Bool) (_call:dh) (ρ:Operand->AV) (o:Store) (_nid:Nat):Option (AV×Store):=match ρ x,lh ks ka (ρ k) with
  | .mp id,some kv=>match o[id]? with
   |some (.map es kt _)=>if kt=(ks,ka) then match nE kv es 0,qO z agg with
    |some (some (_,v)),_=>some (if ok then .bJ [v,.sc (.bool true)] else v,o)
    |some none,some v=>some (if ok then .bJ [v,.sc (.bool false)] else v,o)
    |_,_=>none
    else none
   |_=>none
  |_,_=>none
def VS (ks:List Nat) (ka:Bool) (x:Operand) (k:Operand) (v:Operand) (_call:dh) (ρ:Operand->AV) (o:Store) (_nid:Nat):Option (AV×Store):=match ρ x,lh ks ka (ρ k) with
  | .mp id,some kv=>match o[id]? with
   |some (.map es kt pu)=>
    if(pu=true/\(ρ v).pure=false)\/kt≠(ks,ka) then none else
    match nE kv es 0 with
    |some (some (i,_))=>some (.ud,o.set id (.map (es.modify i λ_=>(kv,ρ v)) kt pu))
    |some none=>some (.ud,o.set id (.map (es++[(kv,ρ v)]) kt pu))
    |none=>none
   |_=>none
  |_,_=>none
def Fh (op:cJ):dh->(Operand->AV)->Store->Nat->Option (AV×Store):=
 match op with
 | .uB x=>Vj x
 | .pick c a b=>Vk c a b
 | .alloc z e pu=>Vl z e pu
 | .box e x=>Vm e x
 | .build z parts=>Vn z parts
 | .o9 z len parts e sz=>Vo z len parts e sz
 | .sU z len parts a3 sz=>Vp z len parts a3 sz
 | .load n a=>Vq n a
 | .store n a x=>Vr n a x
 | .uC x=>Vs x
 | .bin op x y=>Vt op x y
 | .beq neg x y=>Vu neg x y
 | .rK neg ks x y=>Vv neg ks x y
 | .un op x=>Vw op x
 | .conv k x=>Vx k x
 | .uD off x=>Vy off x
 | .field off n x=>Vz off n x
 | .uE len sz x i=>VA len sz x i
 | .rL sz x i=>VB sz x i
 | .idx len sz n x i=>VC len sz n x i
 | .wv x i=>VD x i
 | .pW z e sz bytes l c pu=>VE z e sz bytes l c pu
 | .slice sz x lo hi=>VF sz x lo hi
 | .slice3 sz x lo hi mx=>VG sz x lo hi mx
 | .uF x lo hi=>VH x lo hi
 | .append e sz bytes s x pu=>VI e sz bytes s x pu
 | .len k x=>VJ k x
 | .uG n=>VK n
 | .mm mx x y=>VL mx x y
 | .call f args own=>VM f args own
 | .jI f args own=>L1 f args own
 | .extract x i=>VN x i
 | .sV f first captured=>VO f first captured
 | .uH t x=>VP t x
 | .ot tab x args=>L9 tab x args
 | .pX kt pu=>VQ kt pu
 | .lookup z agg ks ka x k ok=>VR z agg ks ka x k ok
 | .qN ks ka x k v=>VS ks ka x k v
def qb (call:dh) (op:cJ) (ρ:Operand->AV) (o:Store) (bE:Nat):Option (AV×Store):=Fh op call ρ o bE
theorem yP (call:dh) (a:cJ) (ρ:Operand->AV) (o:Store) (bE:Nat):qb call a ρ o bE=bK call a ρ o bE:=by
 cases a<;>rfl
def mf (env:js) (g:Option (Option Nat×Bool)):Option Bool:=
 match g with
 |none=>some true
 |some (none,_)=>none
 |some (some s,b)=>match dL env s with
  | .sc (.bool c)=>some (c==b)
  | .bJ []=>some false
  |_=>none
def iq (call:dh) (base:Nat) (i:dy) (st:St):Option St:=
 match mf st.env i.guard with
 |none=>none
 |some false=>some ⟨oq st.env i.dst (.bJ []),st.o⟩
 |some true=>match qb call i.op (eF st.env) st.o (base+i.bE) with
  |some (v,o')=>some ⟨oq st.env i.dst v,o'⟩
  |none=>none
def fR (call:dh) (base:Nat):List dy->St->Option St
 |[],st=>some st
 |i::r,st=>match iq call base i st with
  |some st'=>fR call base r st'
  |none=>none
def ff:AV->List Nat
 | .ptr id _ _=>[id]
 | .os id _ _ _=>[id]
 | .mp id=>[id]
 |_=>[]
def dU (op:cJ) (ρ:Operand->AV) (o:Store) (bE:Nat):List Nat:=
 match op with
 | .load _ a=>ff (ρ a)
 | .rL _ x _=>ff (ρ x)
 | .slice _ x _ _=>ff (ρ x)
 | .slice3 _ x _ _ _=>ff (ρ x)
 | .len _ x=>ff (ρ x)
 | .lookup _ _ _ _ x _ _=>ff (ρ x)
 | .call _ args false=>(args.map ρ).flatMap (fe o 6)
 | .jI f args false=>match ρ f with
  | .fn _ first captured=>(first++args.map ρ++captured).flatMap (fe o 6)
  |_=>[]
 | .call _ args true=>cT o fz (args.map ρ) []
 | .jI f args true=>match ρ f with
  | .fn _ first captured=>cT o fz (first++args.map ρ++captured) []
  |_=>[]
 | .ot _ x args=>match ρ x with
  | .je _ cs=>(.agg cs::args.map ρ).flatMap (fe o 6)
  |_=>[]
 | .alloc .. | .box .. | .o9 .. | .pW .. | .pX .. =>[bE]
 | .store _ a _=>ff (ρ a)
 | .append _ _ _ s x _=>bE::(ff (ρ s)++ff (ρ x))
 | .qN _ _ x _ _=>ff (ρ x)
 |_=>[]
def wrt (op:cJ) (ρ:Operand->AV) (o:Store) (bE:Nat):List Nat:=
 match op with
 | .alloc .. | .box .. | .o9 .. | .pW .. | .pX .. =>[bE]
 | .store _ a _=>ff (ρ a)
 | .append _ _ _ s _ _=>bE::ff (ρ s)
 | .call _ args true=>cT o fz (args.map ρ) []
 | .jI f args true=>match ρ f with
  | .fn _ first captured=>cT o fz (first++args.map ρ++captured) []
  |_=>[]
 | .qN _ _ x _ _=>ff (ρ x)
 |_=>[]
open Classical in
noncomputable def eu (call:dh) (op:cJ) (ρ:Operand->AV) (o:Store) (bE:Nat):List Nat:=
 match op with
 | .call f args true=>match iI call f (args.map ρ) o with
  |some (_,o')=>(cT o fz (args.map ρ) []).filter λj=>decide (o'[j]?≠o[j]?)
  |none=>[]
 |op=>wrt op ρ o bE
abbrev Trace:=List (Nat×List Nat×List Nat)
noncomputable def mg (call:dh) (base:Nat):List dy->St->Trace
 |[],_=>[]
 |i::r,st=>(match mf st.env i.guard with
   |some true=>(i.idx,dU i.op (eF st.env) st.o (base+i.bE),eu call i.op (eF st.env) st.o (base+i.bE))
   |_=>(i.idx,[],[]))::match iq call base i st with
  |some st'=>mg call base r st'
  |none=>[]
def wz (a b:List Nat):Bool:=a.all λx=>!b.contains x
def qc (tr:Trace) (i:Nat):List Nat×List Nat:=
 match tr with
 |[]=>([],[])
 |(j,x)::r=>if j==i then x else qc r i
def sX (n:Nat) (tr:Trace) (jJ:List (Nat×Nat)):Bool:=
 jJ.all λp=>let a:=qc tr p.1;let b:=qc tr p.2;wz a.2 b.1&&wz b.2 a.1&&a.1.all (λi=>decide (i<n))&&b.1.all (λi=>decide (i<n))
def fS (k:Nat):Store:=δ k .dead
def qP (base:Nat) (o:Store):Store:=if(o.drop base).all (·.mK) then o.take base else o
noncomputable def pe (call:dh) (k:Nat) (ops:List dy) (jJ:List (Nat×Nat)) (st:St):Option St:=
 let st0:St:=⟨st.env,st.o++fS k⟩;match fR call st.o.length ops st0 with
 |some st'=>if jJ.isEmpty||sX st0.o.length (mg call st.o.length ops st0) jJ then some ⟨st'.env,if k=0 then st'.o else qP st.o.length st'.o⟩ else none
 |none=>none
mutual
def AV.bU (o:Store) (p:Nat->Bool):AV->Option AV
 | .os id off len tot=>if p id then match o[id]? with
   |some (.cells cs _ sz pu)=>if pu then(if cs.length=tot/\off+len*sz<=tot then some (.sl len ((cs.drop off).take (len*sz))) else none) else some (.os id off len tot)
   |_=>some (.os id off len tot)
  else some (.os id off len tot)
 | .ptr id off tot=>if p id then match o[id]? with
   |some (.cells _ _ _ pu)=>if pu then none else some (.ptr id off tot)
   |_=>some (.ptr id off tot)
  else some (.ptr id off tot)
 | .agg cs=>(gW o p cs).map .agg
 | .bJ cs=>(gW o p cs).map .bJ
 | .fn f a b=>match gW o p a,gW o p b with
  |some a',some b'=>some (.fn f a' b')
  |_,_=>none
 |v=>some v
def gW (o:Store) (p:Nat->Bool):List AV->Option (List AV)
 |[]=>some []
 |c::cs=>match c.bU o p,gW o p cs with
  |some c',some cs'=>some (c'::cs')
  |_,_=>none
end
def qd (o:Store) (p:Nat->Bool):List (Value×AV)->Option (List (Value×AV))
 |[]=>some []
 |e::es=>match e.2.bU o p,qd o p es with
  |some v,some es'=>some ((e.1,v)::es')
  |_,_=>none
def bR.bU (o:Store) (p:Nat->Bool):bR->Option bR
 | .dead=>some .dead
 | .cells cs e sz pu=>if pu then some (.cells cs e sz pu) else(gW o p cs).map λcs'=> .cells cs' e sz pu
 | .map es kt pu=>if pu then some (.map es kt pu) else(qd o p es).map λes'=> .map es' kt pu
def ju (o:Store) (p:Nat->Bool):Store->Option Store
 |[]=>some []
 |x::r=>match x.bU o p,ju o p r with
  |some y,some l=>some (y::l)
  |_,_=>none
def fA (p:Nat->Bool):Nat->Store->Store
 |_,[]=>[]
 |i,x::r=>(match x with
  | .cells cs e sz true=>if p i then .dead else .cells cs e sz true
  |x=>x)::fA p (i+1) r
def uK (o:Store) (p:Nat->Bool):js->Option js
 |[]=>some []
 |(k,v)::r=>match v.bU o p,uK o p r with
  |some v',some r'=>some ((k,v')::r')
  |_,_=>none
def Bh (h:ky) (st:St):Option AV:=
 match h.off with
 |none=>some (dL st.env h.slot)
 |some k=>match behind st.o (dL st.env h.slot) with
  |some (cs,off)=>cs[off+k]?
  |none=>none
def Bi (id:Nat) (st:St):St:=
 match st.o[id]? with
 |some (.cells cs e sz true)=>⟨st.env,st.o.set id (.cells cs e sz false)⟩
 |_=>st
def Bj (h:ky) (st:St):St:=
 match h.off with
 |none=>match dL st.env h.slot with
  | .sc (.slice none 0 0)=>⟨(h.slot,.os st.o.length 0 0 0)::st.env,st.o++[.cells [] h.e h.sz h.pu]⟩
  | .os id _ _ _=>if h.sz=0 then Bi id st else st
  |_=>st
 |some k=>match dL st.env h.slot with
  | .ptr id off tot=>match st.o[id]? with
   |some (.cells cs e sz pu)=>match cs[off+k]? with
    |some (.sc (.slice none 0 0))=>
     if cs.length=tot/\pu=false then⟨st.env,(st.o.set id (.cells (cs.set (off+k) (.os st.o.length 0 0 0)) e sz pu))++[.cells [] h.e h.sz h.pu]⟩ else st
    |_=>st
   |_=>st
  |_=>st
def Bl (id:Nat) (st:St):St:=
 let p:Nat->Bool:=λi=>i==id;match uK st.o p st.env,ju st.o p st.o with
 |some env,some o=>⟨env,fA p 0 o⟩
 |_,_=>st
def yQ (id:Nat) (st:St):St:=
 match st.o[id]? with
 |some (.cells cs e sz false)=>if dr cs then⟨st.env,st.o.set id (.cells cs e sz true)⟩ else st
 |_=>st
def jU (lo:Nat) (h:ky) (st:St):St:=
 if h.own then Bj h st
 else match Bh h st with
  |some (.os id _ _ _)=>if Nat.ble lo id then Bl id (yQ id st) else st
  |_=>st
def prune (live:List Nat) (env:js):js:=live.map λs=>(s,dL env s)
inductive Out where
 |norm
 |exit (id:Nat)
 |ret
 |goto (l:Nat)
 deriving DecidableEq
def trim (k:Nat) (st:St):St:=
 if st.o.length<=k then st
 else if(st.env.all λp=>p.2.cj k)&&((st.o.take k).all λx=>x.cj k) then⟨st.env,st.o.take k⟩ else st
structure mM where
 slot:Nat
 cell:Option (Option Nat)
structure eZ where
 params:Nat
 ntmps:Nat
 body:IR
 res:List mM
def qQ (st:St) (r:mM):Option AV:=
 match r.cell with
 |none=>some (dL st.env r.slot)
 |some n=>match behind st.o (dL st.env r.slot) with
  |some (cs,off)=>gj cs off n
  |none=>none
def nG (st:St) (rs:List mM):Option AV:=
 match rs.mapM (qQ st) with
 |some [v]=>some v
 |some vs=>some (.bJ vs)
 |none=>none
def lC (k:Nat) (r:AV) (o:Store):Option (AV×Store):=
 match r.bU o (λi=>decide (k<=i)),ju o (λi=>decide (k<=i)) o with
 |some r1,some o1=>
  let o2:=fA (λi=>decide (k<=i)) 0 o1;let ids:=cT o2 fz (r1::(o2.take k).flatMap bR.yR) (ψ k);if iI.pd ids then
   match r1.ren (λj=>idxOf ids j),kN o2 ids ids with
   |some r2,some s2=>some (r2,s2)
   |_,_=>none
  else none
 |_,_=>none
where bR.yR:bR->List AV
 | .cells cs _ _ pu=>if pu then[] else cs
 | .map es _ pu=>if pu then[] else es.map (·.2)
 | .dead=>[]
def finish (own:Bool) (k:Nat) (r:AV) (o:Store):Option (AV×Store):=
 if own then lC k r o
 else match k with
  |0=>match freeze o 6 r with
   |some r'=>some (r',[])
   |none=>none
  |_+1=>none
def iu:Nat->List AV->js
 |_,[]=>[]
 |i,v::vs=>(i,v)::iu (i+1) vs
structure Tab where
 fn:FuncId->Option eZ
 K:dh
def qR (ex:IR->St->Option (Out×St)):IR->St->Option St
 | .skip,st=>some st
 | .seq x y,st=>match ex x st with
  |some (.norm,st')=>qR ex y st'
  |_=>none
 |_,_=>none
def qS:Out->Bool
 | .norm| .ret=>true
 |_=>false
def Fj (ex:Nat->IR->St->Option (Out×St)) (F:Option eZ) (cs:List AV) (s:St):Option (Out×St):=match F with
 |some F=>if cs.length=F.params/\F.res.isEmpty=true then match ex s.o.length F.body ⟨iu 0 cs,s.o⟩ with
  |some (out,s3)=>if qS out=true then some (.ret,⟨s.env,s3.o⟩) else none
  |none=>none else none
 |none=>none
def sY (T:Tab) (ex:Nat->IR->St->Option (Out×St)) (lo:Nat) (c:IR) (st:St):Option (Out×St):=match c with
 | .sW g caps d a b=>match qR (ex lo) a st with
  |some s0=>match ex s0.o.length b ⟨(d,.ud)::s0.env,s0.o⟩ with
   |some (out,s2)=>if qS out=true then Fj ex (T.fn g) (caps.map (eF s0.env)) s2 else none
   |none=>none
  |none=>none
 |c=>ex lo c st
def qe (T:Tab) (ex:Nat->IR->St->Option (Out×St)):dh:=λf args o own=>
 match T.K f args o own with
 |some r=>some r
 |none=>match T.fn f with
  |none=>none
  |some F=>if args.length=F.params then
    match sY T ex o.length F.body ⟨iu 0 args,o⟩ with
    |some (.norm,st)|some (.ret,st)=>match nG st F.res with
     |some r=>finish own o.length r st.o
     |none=>none
    |_=>none
   else none
def qT (t:Nat):js->js
 |[]=>[]
 |p::r=>bif δu p.1 t then qT t r else p::qT t r
def pg (x:Operand) (env:js):js:=
 match x with
 | .tmp t=>qT t env
 |_=>env
inductive Md where
 |plain
noncomputable def Fo (_:Md) (_:Bool) (call:dh) (k:Nat) (ops:List dy) (jJ:List (Nat×Nat)) (st:St):Option St:=pe call k ops jJ st
noncomputable def exec (T:Tab):Md->Nat->Nat->IR->St->Option (Out×St)
 |_,0,_,_,_=>none
 |md,n+1,lo,c,st=>
  match c with
  | .skip=>some (.norm,st)
  | .region _ draw k ops jJ live pre post=>match Fo md draw (qe T (exec T .plain n)) k ops jJ (pre.foldl (λs h=>jU lo h s) st) with
   |some st'=>some (.norm,post.foldl (λs h=>jU lo h s) ⟨prune live st'.env,st'.o⟩)
   |none=>none
  | .seq a b=>match exec T md n lo a st with
   |some (.norm,st')=>exec T md n lo b st'
   |r=>r
  | .cond x a b=>match eF st.env x with
   | .sc (.bool true)=>exec T md n lo a ⟨pg x st.env,st.o⟩
   | .sc (.bool false)=>exec T md n lo b ⟨pg x st.env,st.o⟩
   |_=>none
  | .block id b=>match exec T md n lo b st with
   |some (.exit id',st')=>if id'=id then some (.norm,st') else some (.exit id',st')
   |r=>r
  | .loop b=>match exec T md n lo b st with
   |some (.norm,st')=>exec T md n lo (.loop b) (trim st.o.length st')
   |r=>r
  | .exit id=>some (.exit id,st)
  | .ret=>some (.ret,st)
  | .goto l=>some (.goto l,st)
  | .ou x a b=>match eF st.env x with
   | .sc (.bool true)=>exec T md n lo a st
   | .sc (.bool false)=>exec T md n lo b st
   |_=>none
  | .turns l b=>match exec T md n lo b st with
   |some (.goto l',st')=>if l=some l' then exec T md n lo (.turns l b) (trim st.o.length st') else none
   |r=>r
  | .sW .. =>none
def cJ.kz:cJ->List Operand
 | .uB x| .box _ x| .load _ x| .uC x| .un _ x| .conv _ x| .uD _ x| .field _ _ x| .len _ x| .extract x _=>[x]
 | .pick c a b=>[c,a,b]
 | .alloc .. | .uG _| .pX .. =>[]
 | .build _ ps=>ps.map (·.2.2)
 | .o9 _ _ ps _ _| .sU _ _ ps _ _=>ps.map (·.2)
 | .store _ a x=>[a,x]
 | .bin _ x y| .beq _ x y| .rK _ _ x y| .mm _ x y=>[x,y]
 | .uE _ _ x i| .rL _ x i| .idx _ _ _ x i| .wv x i=>[x,i]
 | .pW _ _ _ _ l c _=>[l,c]
 | .slice _ x lo hi| .uF x lo hi=>x::(lo.toList++hi.toList)
 | .slice3 _ x lo hi mx=>x::hi::mx::lo.toList
 | .append _ _ _ s x _=>[s,x]
 | .call _ args _=>args
 | .jI f args _=>f::args
 | .sV _ a b=>a++b
 | .uH _ x=>[x]
 | .ot _ x args=>x::args
 | .lookup _ _ _ _ x k _=>[x,k]
 | .qN _ _ x k v=>[x,k,v]
def cJ.cls:cJ->Nat
 | .uB _| .pick .. | .build .. | .sU .. | .uC _| .bin .. | .beq .. | .rK .. | .un .. | .conv .. | .uD .. | .field .. | .uE .. | .idx .. | .wv .. | .uF .. | .uG _
 | .mm .. | .extract .. | .sV .. | .uH .. =>0
 | .load .. | .rL .. | .slice .. | .slice3 .. | .len .. | .lookup .. | .ot .. | .call _ _ false| .jI _ _ false=>1
 | .alloc .. | .box .. | .o9 .. | .pW .. | .pX .. | .store .. | .append .. | .qN .. =>2
 | .call _ _ true| .jI _ _ true=>3
def cJ.makes:cJ->Bool
 | .alloc .. | .box .. | .o9 .. | .pW .. | .pX .. | .append .. =>true
 |_=>false
def tmpsOf (l:List Operand):List Nat:=l.filterMap λ| .tmp t=>some t|_=>none
def dy.reads (i:dy):List Nat:=
 tmpsOf i.op.kz++(match i.guard with|some (some s,_)=>[s]|_=>[])
def Fp (d:Option Nat) (l:List Nat):Bool:=match d with|none=>true|some d=>!l.contains d
def yS (a b:dy):Bool:=
 Fp a.dst b.reads&&Fp b.dst a.reads&&(match a.dst,b.dst with|some x,some y=>x !=y|_,_=>true)
def wA (a b:dy):Bool:=a.op.cls==0||b.op.cls==0||(a.op.cls==1&&b.op.cls==1)
def Bm (a b:dy):Bool:=a.op.cls !=3||b.op.cls !=3
def wB:Nat->List Oper->Bool
 |_,[]=>true
 |i,o::r=>o.after.toList.all (λe=>!Region.binds .any e||decide (e.on<i))&&wB (i+1) r
structure RH where
 id:Nat
 live:List Nat
 perm:List Nat:=[]
 flags:List Nat:=[]
 pre:List ky:=[]
 post:List ky:=[]
def qU (c:TypeId->Option (List Nat)):Nat->List Field->Option (List Nat)
 |_,[]=>some []
 |b,f::d=>if f.name= "_" ∨f.offset≠b then none else match c f.type with
  |some a=>match qU c (b+a.length) d with
   |some r=>some (a++r)
   |none=>none
  |none=>none
def gl (P:Program):Nat->TypeId->Option (List Nat)
 |0,_=>none
 |d+1,t=>match P.underlying t,(P.info? t).map (·.size) with
  |some (.int _),some 1=>some [0]
  |some .bool,some 1=>some [1]
  |some .string,some 1=>some [2]
  |some (.struct b),some n=>if P.stoodInHeld t then none else match qU (gl P d) 0 b.toList with
   |some a=>if a.length=n then some a else none
   |none=>none
  |some (.array k e),some n=>match gl P d e with
   |some a=>if n=k*a.length then some ((δ k a).flatten) else none
   |none=>none
  |_,_=>none
def fw (P:Program) (t:TypeId):Option Bool:=
 match P.underlying t with
 |some (.struct _)|some (.array _ _)=>some true
 |some _=>some false
 |none=>none
def sizeT (P:Program) (t:TypeId):Option Nat:=(P.info? t).map (·.size)
def wC (P:Program) (t:TypeId):Option Nat:=(P.info? t).map (·.bytes)
def oC (P:Program) (t:TypeId):Option (Option Nat):=
 match fw P t,sizeT P t with
 |some true,some n=>some (some n)
 |some false,some _=>some none
 |_,_=>none
def lD (P:Program) (t:TypeId):Option (List Value):=
 match(P.info? t).bind (·.zero),sizeT P t with
 |some z,some n=>if z.cells.toList.all (·.oneCell')&&z.cells.size==n then some z.cells.toList else none
 |_,_=>none
def yT (P:Program) (t:TypeId) (g:Bool):Bool:=
 match(P.info? t).bind (·.zero) with
 |some (.agg _)=>g
 |some _=>!g
 |none=>false
def Bn (P:Program) (name:String) (t:TypeId):Option FuncId:=
 match P.underlying t,P.info? t with
 |some (.struct _),some i=>match i.methods.find? (·.name==name) with
  |some m=>match m.path.toList,m.func with
   |[],some (f,false)=>some f
   |_,_=>none
  |none=>none
 |_,_=>none
def wE (P:Program) (name:String):Nat->List (TypeId×FuncId)
 |0=>[]
 |t+1=>match Bn P name t with
  |some f=>(t,f)::wE P name t
  |none=>wE P name t
def Mc (P:Program) (name:String):List (TypeId×FuncId):=wE P name P.types.size
def qV {d c:Type} (f:d->Option c):List d->Option (List c)
 |[]=>some []
 |a::l=>match f a,qV f l with
  |some b,some r=>some (b::r)
  |_,_=>none
def gA (P:Program) (f:FuncId):Bool:=(P.funcs[f]?).any fun a=>a.body.isSome&&!(a.name== "runtime.NumGoroutine")
def Me (P:Program) (a:Array Field):Option (List (Nat×Nat)):=a.toList.mapM λf=>(P.info? f.type).map λi=>(f.offset,i.size)
def MA (a:List (Nat×Nat)) (p:Nat×Operand):Option (Nat×Nat×Operand):=(a[p.1]?).map λq=>(q.1,q.2,p.2)
def pn (P:Program) (fl:Bool) (o:Oper):Option cJ:=
 match o.op with
 | .move x| .assign x=>some (.uB x)
 | .pick c a b=>some (.pick c a b)
 | .alloc e=>(lD P e).map λz=> .alloc z e fl
 | .box e x=>some (.box e x)
 | .build t parts=>match lD P t,P.underlying t with
  |some z,some (.struct fields)=>match Me P fields with
   |some places=>(qV (MA places) parts.toList).map λps=> .build z ps
   |none=>none
  |some z,some (.array _ e)=>(sizeT P e).map λn=> .build z (parts.toList.map λp=>(p.1*n,n,p.2))
  |_,_=>none
 | .buildSlice t len parts=>match P.underlying t with
  |some (.slice e)=>match lD P e with
   |some z=>if len*z.length<=16777216/\0<z.length then some (if fl then .sU z len (parts.toList.map λp=>(p.1*z.length,p.2)) e z.length else .o9 z len (parts.toList.map λp=>(p.1*z.length,p.2)) e z.length) else none
   |none=>none
  |_=>none
 | .load t a=>(oC P t).map λn=> .load n a
 | .store t a x=>(sizeT P t).map λn=> .store n a x
 | .nilCheck x=>some (.uC x)
 | .binOp op t x y _=>match op with
  | .eql| .neq=>match P.underlying t with
   |some (.struct _)|some (.array _ _)=>if 20<=P.depth then(gl P 20 t).map λks=> .rK (op matches .neq) ks x y else none
   |some .bool=>some (.beq (op matches .neq) x y)
   |some (.int _)|some .string=>some (.bin op x y)
   |_=>none
  |_=>some (.bin op x y)
 | .unOp op _ x=>some (.un op x)
 | .convert s d x=>match P.underlying s,P.underlying d with
  |some _,some (.int k)=>some (.conv k x)
  |_,_=>none
 | .fieldAddr s x f=>match P.underlying s with
  |some (.struct fs)=>match fs[f]? with
   |some g=>match sizeT P g.type with
    |some n=>if n=0 then none else some (.uD g.offset x)
    |none=>none
   |none=>none
  |_=>none
 | .field t x f=>match P.underlying t with
  |some (.struct fs)=>match fs[f]? with
   |some g=>(oC P g.type).map λn=> .field g.offset n x
   |none=>none
  |_=>none
 | .indexAddr t x i=>match P.underlying t with
  |some (.array len e)=>(sizeT P e).map λn=> .uE len n x i
  |some (.slice e)=>match sizeT P e with
   |some n=>if n=0 then none else some (.rL n x i)
   |none=>none
  |_=>none
 | .index t x i=>match P.underlying t with
  |some (.array len e)=>match sizeT P e,oC P e with
   |some s,some n=>some (.idx len s n x i)
   |_,_=>none
  |some .string=>some (.wv x i)
  |_=>none
 | .makeSlice t l c=>match P.underlying t with
  |some (.slice e)=>match lD P e,wC P e with
   |some z,some b=>if 0<z.length then some (.pW z e z.length b l c fl) else none
   |_,_=>none
  |_=>none
 | .slice t x lo hi none=>match P.underlying t with
  |some (.slice e)=>match sizeT P e with
   |some n=>if n=0 then none else some (.slice n x lo hi)
   |none=>none
  |some .string=>some (.uF x lo hi)
  |_=>none
 | .slice t x lo (some hi) (some mx)=>match P.underlying t with
  |some (.slice e)=>match sizeT P e with
   |some n=>if n=0 then none else some (.slice3 n x lo hi mx)
   |none=>none
  |_=>none
 | .call c=>match c.callee with
  | .value (.func f)=>if gA P f then some (.call f c.args.toList fl) else none
  | .value v=>some (.jI v c.args.toList fl)
  | .invoke x name=>if fl then none else some (.ot (Mc P name) x c.args.toList)
  | .builtin .append=>match c.args.toList,c.argTypes.toList with
   |[s,x],[t,t']=>if t=t' then match P.underlying t with
     |some (.slice e)=>match lD P e,wC P e with
      |some z,some b=>if 0<z.length then some (.append e z.length b s x fl) else none
      |_,_=>none
     |_=>none
    else none
   |_,_=>none
  | .builtin .len=>match c.args.toList,c.argTypes.toList with
   |[x],[t]=>match P.underlying t with
    |some (.slice _)=>some (.len 0 x)
    |some .string=>some (.len 1 x)
    |some (.map _ _)=>some (.len 2 x)
    |some (.array n _)=>some (.uG n)
    |_=>none
   |_,_=>none
  | .builtin .min=>match c.args.toList with
   |[x,y]=>some (.mm false x y)
   |_=>none
  | .builtin .max=>match c.args.toList with
   |[x,y]=>some (.mm true x y)
   |_=>none
  |_=>none
 | .extract x i=>some (.extract x i)
 | .makeFunc f a b=>match f with
  | .func g=>some (.sV (.func g) a.toList b.toList)
  |_=>none
 | .makeInterface t x=>match P.underlying t with
  |some (.struct _)=>some (.uH t x)
  |_=>none
 | .makeMap t none=>match P.underlying t with
  |some (.map kt _)=>match gl P 20 kt,fw P kt with
    |some ks,some ka=>some (.pX (ks,ka) fl)
    |_,_=>none
  |_=>none
 | .lookup t x k ok=>match P.underlying t with
  |some (.map kt et)=>match gl P 20 kt,fw P kt,lD P et,fw P et with
    |some ks,some ka,some z,some g=>if yT P et g then some (.lookup z g ks ka x k ok) else none
    |_,_,_,_=>none
  |_=>none
 | .mapUpdate t m k v| .insert t m k v=>match P.underlying t with
  |some (.map kt _)=>match gl P 20 kt,fw P kt with
    |some ks,some ka=>some (.qN ks ka m k v)
    |_,_=>none
  |_=>none
 |_=>none
def Bo (a:Nat):Option Nat->Bool
 |none=>true
 |some d=>decide (d<a)
def qW (P:Program) (c:Nat) (fl:List Nat) (a:Array Oper) (bE i:Nat):Option dy:=
 match a[i]? with
 |none=>none
 |some o=>if Bo c o.dst then(pn P (fl.contains i) o).map λb=>⟨i,bE,o.dst,b,o.guard.map λg=>(((a[g.1]?).bind (·.dst)),g.2)⟩ else none
def uL (P:Program) (b:Nat) (fl:List Nat) (a:Array Oper):Nat->List Nat->Option (List dy×Nat)
 |k,[]=>some ([],k)
 |k,i::r=>match qW P b fl a k i with
  |none=>none
  |some x=>match uL P b fl a (if x.op.makes then k+1 else k) r with
   |none=>none
   |some (l,n)=>some (x::l,n)
def Bq (acc:List Nat) (s:Nat) (e:Edge):Nat:=if Region.binds .any e then s |||(2^e.on |||acc.getD e.on 0) else s
def oD (b:Array Oper):List Nat:=
 b.toList.foldl (λa o=>a++[o.after.toList.foldl (Bq a) 0]) []
def qX (c:List Nat):List dy->List (Nat×Nat)
 |[]=>[]
 |a::r=>(r.filterMap λb=>if(c.getD b.idx 0).testBit a.idx||wA a b then none else some (a.idx,b.idx))++qX c r
def wF (c:List Nat):List dy->Bool
 |[]=>true
 |a::r=>r.all (λb=>(c.getD b.idx 0).testBit a.idx||(yS a b&&(wA a b||Bm a b)))&&wF c r
def nodupB:List Nat->Bool
 |[]=>true
 |a::r=>!r.contains a&&nodupB r
def wG (P:Program) (d:Nat) (H:List RH) (id:Nat) (a:Array Oper) (c:Bool):Option IR:=
 match H.find? (·.id==id) with
 |none=>none
 |some h=>
  if c then
   let b:=if h.perm.isEmpty then ψ a.size else h.perm;match uL P d h.flags a 0 b with
   |some (l,k)=>if P.follows .mixedOrders&&b.length==a.size&&nodupB b&&wF (oD a) l&&wB 0 a.toList&&(ψ a.size).all b.contains then some (.region id true k l (qX (oD a) l) h.live h.pre h.post) else none
   |none=>none
  else(uL P d h.flags a 0 (ψ a.size)).map λ(l,k)=> .region id false k l [] h.live h.pre h.post
def Br:Code->Bool
 | .seq a b| .cond _ a b=>Br a||Br b
 | .block _ b| .loop b| .scope b=>Br b
 | .goto _=>true
 |_=>false
def Bt:Code->Option Nat
 | .seq (.label l) c=>if Br c then some l else none
 |_=>none
def MB (H:List RH):Operand->Bool
 | .tmp t=>match H.find? (·.id==999999) with
  |some h=>h.live.contains t
  |none=>false
 |_=>false
def comp (P:Program) (nt:Nat) (H:List RH):Code->Option IR
 | .skip=>some .skip
 | .region id ops draw=>wG P nt H id ops draw
 | .seq a b=>match comp P nt H a,comp P nt H b with
  |some x,some y=>some (.seq x y)
  |_,_=>none
 | .cond c a b=>match comp P nt H a,comp P nt H b with
  |some x,some y=>some (if MB H c then .ou c x y else .cond c x y)
  |_,_=>none
 | .block id b=>(comp P nt H b).map (.block id)
 | .loop b=>(comp P nt H b).map .loop
 | .exit id=>some (.exit id)
 | .ret=>some .ret
 | .label _=>some .skip
 | .goto l=>some (.goto l)
 | .scope b=>(comp P nt H b).map λx=> .turns (Bt b) x
 |_=>none
def Bv (h:Array Oper):Option (FuncId×List Operand×Nat):=match h.toList with
 |[f,e]=>match f.dst,f.op,f.guard,e.op,e.dst,e.guard with
  |some d,.makeFunc (.func g) a b,none,.defer c,none,none=>match c.callee with
   | .value (.tmp i)=>if i=d/\a.toList=[]/\c.args.toList=[] then some (g,b.toList,d) else none
   |_=>none
  |_,_,_,_,_,_=>none
 |_=>none
def uM (P:Program) (f:Nat) (H:List RH):Code->Option (IR×(FuncId×List Operand×Nat)×IR)
 | .seq (.region g e d) c=>match Bv e,d with
  |some x,false=>if x.2.2<f/\gA P x.1=true then(comp P f H c).map λb=>(.skip,x,b) else none
  |_,_=>match wG P f H g e d,uM P f H c with
   |some r,some (a,x,b)=>some (.seq r a,x,b)
   |_,_=>none
 |_=>none
def Fq (P:Program) (a:Nat) (H:List RH) (c:Code):Option IR:=match comp P a H c with
 |some b=>some b
 |none=>(uM P a H c).map λx=> .sW x.2.1.1 x.2.1.2.1 x.2.1.2.2 x.1 x.2.2
def rQ (P:Program):ResultVar->Option mM
 | .tmp t=>some ⟨t,none⟩
 | .cell a t=>(oC P t).map λn=>⟨a,some n⟩
def Bw (P:Program) (H:List RH) (a:Func):Option eZ:=
 match a.body with
 |none=>none
 |some c=>match Fq P a.ntmps H c,qV (rQ P) a.results.toList with
  |some b,some d=>if a.ntmps<a.params.size+a.nfree then none else some ⟨a.params.size+a.nfree,a.ntmps,b,d⟩
  |_,_=>none
end Go.Vi
