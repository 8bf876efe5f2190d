/-
  The abstract interpreter: its values, its small code, and its run. Plain definitions: no proof stands here.
  Conditions: none.
-/
import Derived.Orders
import Derived.RowKit3
set_option maxRecDepth 100000
set_option maxHeartbeats 4000000
set_option linter.all false
open BitVec renaming ofInt->γn
open List renaming replicate->δ,range->ω
open Nat renaming beq->δs
namespace Go.Vi
inductive AV where
 |ud
 |sc (v:Value)
 |agg (cs:List AV)
 |bI (cs:List AV)
 |sl (n:Nat) (cs:List AV)
 |ep (cs:List AV) (off:Nat)
 |ptr (id off tot:Nat)
 |os (id off len tot:Nat)
 |mp (id:Nat)
 |fn (f:Fn) (first captured:List AV)
 |jo (t:TypeId) (cs:List AV)
 deriving Inhabited
inductive bR where
 |dead
 |cells (cs:List AV) (e:TypeId) (sz:Nat) (pu:Bool)
 |map (es:List (Value×AV)) (kt:List Nat×Bool) (pu:Bool)
 deriving Inhabited
def zk:Value:=.slice none 0 0
def AV.qn:AV->AV
 | .sc (.slice none 0 0)=> .sl 0 []
 |v=>v
def eC (pu:Bool) (cs:List AV):List AV:=if pu then cs.map .qn else cs
def AV.cellsOf:AV->List AV
 | .agg cs=>cs
 |v=>[v]
def AV.one:AV->Bool
 | .agg _| .bI _| .ud=>false
 | .sc v=>v.oneCell'
 |_=>true
mutual
def AV.pure:AV->Bool
 | .sc _=>true
 | .sl _ cs=>dB cs
 |_=>false
def dB:List AV->Bool
 |[]=>true
 |c::cs=>c.pure&&dB cs
end
mutual
def AV.bY (k:Nat):AV->Bool
 | .ud=>true
 | .sc _=>true
 | .agg cs=>eu k cs
 | .bI cs=>eu k cs
 | .sl _ _=>true
 | .ep _ _=>true
 | .ptr id _ _=>decide (id<k)
 | .os id _ _ _=>decide (id<k)
 | .mp id=>decide (id<k)
 | .fn _ a b=>eu k a&&eu k b
 | .jo _ _=>true
def eu (k:Nat):List AV->Bool
 |[]=>true
 |c::cs=>c.bY k&&eu k cs
end
def bR.bY (k:Nat):bR->Bool
 | .dead=>true
 | .cells cs _ _ pu=>pu||eu k cs
 | .map es _ pu=>pu||eu k (es.map (·.2))
abbrev Store:=List bR
def bR.mZ:bR->Bool
 | .dead=>true
 |_=>false
def kX (bB:Nat) (x:bR) (o:Store):Option Store:=
 match o[bB]? with
 |some .dead=>some (o.set bB x)
 |_=>none
abbrev jF:=List (Nat×AV)
def dK:jF->Nat->AV
 |[],_=> .ud
 |p::r,s=>bif δs p.1 s then p.2 else dK r s
def oU (env:jF) (dst:Option Nat) (v:AV):jF:=
 match dst with
 |none=>env
 |some d=>(d,v)::env
def AV.uY:Value->AV
 | .agg cs=>if cs.toList.all (·.oneCell') then .agg (cs.toList.map .sc) else .ud
 | .tuple _=> .ud
 |v=> .sc v
def eG (env:jF):Operand->AV
 | .tmp t=>dK env t
 | .const v=> .uY v
 | .global _=> .ud
 | .func f=> .fn (.func f) [] []
inductive cJ where
 |uZ (x:Operand)
 |pick (c a b:Operand)
 |alloc (z:List Value) (e:TypeId) (pu:Bool)
 |box (e:TypeId) (x:Operand)
 |build (z:List Value) (parts:List (Nat×Nat×Operand))
 |pF (z:List Value) (len:Nat) (parts:List (Nat×Operand)) (e:TypeId) (sz:Nat)
 |tH (z:List Value) (len:Nat) (parts:List (Nat×Operand)) (e:TypeId) (sz:Nat)
 |load (n:Option Nat) (a:Operand)
 |store (n:Nat) (a x:Operand)
 |u7 (x:Operand)
 |bin (op:BinOp) (x y:Operand)
 |beq (neg:Bool) (x y:Operand)
 |su (neg:Bool) (ks:List Nat) (x y:Operand)
 |tJ (neg:Bool) (x y:Operand)
 |un (op:UnOp) (x:Operand)
 |conv (k:IntKind) (x:Operand)
 |vd (off:Nat) (x:Operand)
 |field (off:Nat) (n:Option Nat) (x:Operand)
 |ve (len sz:Nat) (x i:Operand)
 |sw (sz:Nat) (x i:Operand)
 |idx (len sz:Nat) (n:Option Nat) (x i:Operand)
 |wU (x i:Operand)
 |qf (z:List Value) (e:TypeId) (sz bytes:Nat) (l c:Operand) (pu:Bool)
 |slice (sz:Nat) (x:Operand) (lo hi:Option Operand)
 |slice3 (sz:Nat) (x:Operand) (lo:Option Operand) (hi mx:Operand)
 |vf (x:Operand) (lo hi:Option Operand)
 |append (e:TypeId) (sz bytes:Nat) (s x:Operand) (pu:Bool)
 |len (k:Nat) (x:Operand)
 |vg (n:Nat)
 |mm (mx:Bool) (x y:Operand)
 |call (f:FuncId) (args:List Operand) (own:Bool)
 |jU (f:Operand) (args:List Operand) (own:Bool)
 |extract (x:Operand) (i:Nat)
 |tK (f:Fn) (first captured:List Operand)
 |vh (t:TypeId) (x:Operand)
 |oV (tab:List (TypeId×FuncId)) (x:Operand) (args:List Operand)
 |qg (kt:List Nat×Bool) (pu:Bool)
 |lookup (z:List Value) (agg:Bool) (ks:List Nat) (ka:Bool) (x k:Operand) (ok:Bool)
 |ra (ks:List Nat) (ka:Bool) (x k v:Operand)
structure dC where
 idx:Nat
 bB:Nat
 dst:Option Nat
 op:cJ
 guard:Option (Option Nat×Bool)
structure kB where
 own:Bool
 slot:Nat
 off:Option Nat
 e:TypeId
 sz:Nat
 pu:Bool
inductive IR where
 |skip
 |region (id:Nat) (draw:Bool) (k:Nat) (ops:List dC) (kC:List (Nat×Nat)) (live:List Nat) (pre post:List kB)
 |seq (a b:IR)
 |cond (c:Operand) (a b:IR)
 |block (id:Nat) (c:IR)
 |loop (c:IR)
 |exit (id:Nat)
 |ret
 |goto (l:Nat)
 |turns (l:Option Nat) (b:IR)
 |oW (c:Operand) (a b:IR)
 |tL (g:FuncId) (caps:List Operand) (d:Nat) (a b:IR)
structure St where
 env:jF
 o:Store
def behind (o:Store):AV->Option (List AV×Nat)
 | .ptr id off tot=>match o[id]? with
  |some (.cells cs _ _ _)=>if cs.length=tot then some (cs,off) else none
  |_=>none
 | .ep cs off=>some (cs,off)
 |_=>none
def gv (cs:List AV) (off:Nat):Option Nat->Option AV
 |none=>cs[off]?
 |some n=>if off+n<=cs.length then some (.agg ((cs.drop off).take n)) else none
def gh (cs:List AV) (off:Nat):List AV->List AV
 |[]=>cs
 |v::vs=>gh (cs.set off v) (off+1) vs
def eK (l:List AV):Bool:=l.all (·.one)
def eX (k:IntKind) (n:Int):Int:=
 match k with
 | .i64=>if decide (-9223372036854775808<=n)&&decide (n<=9223372036854775807) then n else IntKind.wrap .i64 n
 | .u32=>if decide (0<=n)&&decide (n<=4294967295) then n else IntKind.wrap .u32 n
 | .u64=>if decide (0<=n)&&decide (n<=18446744073709551615) then n else IntKind.wrap .u64 n
 |k=>k.wrap n
def BR (n:Nat):Int:=Int.ofNat (Nat.pow 2 n)
def lu (op:BinOp) (k:IntKind) (a b:Int):Option Value:=
 match op with
 | .add=>some (.int k (eX k (a+b)))
 | .sub=>some (.int k (eX k (a - b)))
 | .mul=>some (.int k (eX k (a*b)))
 | .quo=>if b=0 then none else some (.int k (eX k (a.tdiv b)))
 | .rem=>if b=0 then none else some (.int k (a.tmod b))
 | .and=>some (.int k (eX k (γn k.bits a &&&γn k.bits b).toNat))
 | .or=>some (.int k (eX k (γn k.bits a |||γn k.bits b).toNat))
 | .xor=>some (.int k (eX k (γn k.bits a ^^^γn k.bits b).toNat))
 | .andNot=>some (.int k (eX k (γn k.bits a &&&~~~(γn k.bits b)).toNat))
 | .eql=>some (.bool (a==b))
 | .neq=>some (.bool (a !=b))
 | .lss=>some (.bool (decide (a<b)))
 | .leq=>some (.bool (decide (a<=b)))
 | .gtr=>some (.bool (decide (b<a)))
 | .geq=>some (.bool (decide (b<=a)))
 |_=>none
def gV (op:BinOp):Value->Value->Option Value
 | .int k a,.int k' b=>
  match op with
  | .shl=>if b<0 then none else some (.int k (eX k (a*BR (min b.toNat k.bits))))
  | .shr=>if b<0 then none else some (.int k (a.fdiv (BR (min b.toNat k.bits))))
  |_=>if k=k' then lu op k a b else none
 | .string a,.string b=>match op with
  | .eql=>some (.bool (a.toList==b.toList))
  | .neq=>some (.bool (!(a.toList==b.toList)))
  | .add=>if a.size+b.size<=1000000000 then some (.string (a++b)) else none
  |_=>none
 |_,_=>none
def seq1:Value->Value->Option Bool
 | .int k a,.int k' b=>if k=k' then some (a==b) else none
 | .bool a,.bool b=>some (a==b)
 | .string a,.string b=>some (a.toList==b.toList)
 |_,_=>none
def fN:List Value->List Value->Option Bool
 |[],[]=>some true
 |x::xs,y::ys=>match seq1 x y,fN xs ys with
  |some a,some b=>some (a&&b)
  |_,_=>none
 |_,_=>none
def eD:List Nat->List Value->Bool
 |[],[]=>true
 |0::ks,.int _ _::vs=>eD ks vs
 |1::ks,.bool _::vs=>eD ks vs
 |2::ks,.string _::vs=>eD ks vs
 |_,_=>false
def sx:List AV->Option (List Value)
 |[]=>some []
 | .sc v::r=>(sx r).map (v::·)
 |_=>none
def wV (ks:List Nat) (a b:List AV):Option Bool:=
 match sx a,sx b with
 |some x,some y=>if eD ks x&&eD ks y then fN x y else none
 |_,_=>none
def tM (op:UnOp):AV->Option AV
 | .sc (.bool b)=>match op with| .not=>some (.sc (.bool !b))|_=>none
 | .sc (.int k n)=>match op with| .neg=>some (.sc (.int k (eX k (0 - n))))|_=>none
 |_=>none
def iq:AV->Option Int
 | .sc (.int _ n)=>some n
 |_=>none
def nc (d:Nat):AV->Option AV
 | .ptr id off tot=>some (.ptr id (off+d) tot)
 | .ep cs off=>some (.ep cs (off+d))
 |_=>none
def nf (o:Store) (sz:Nat):AV->Option (Nat×List AV)
 | .sl n cs=>if cs.length=n*sz then some (n,cs) else none
 | .os id off len tot=>match o[id]? with
  |some (.cells cs _ sz' _)=>if cs.length=tot/\sz'=sz/\off+len*sz<=tot then some (len,(cs.drop off).take (len*sz)) else none
  |_=>none
 | .sc (.slice none 0 0)=>some (0,[])
 |_=>none
def sy (off tot sz:Nat):Nat:=if Nat.ble off tot then off else off - tot - sz
def qh (o:Store) (sz:Nat) (x:AV) (i:Int):Option AV:=
 match x with
 | .sl n cs=>if 0<=i/\i<n/\cs.length=n*sz then some (.ep cs (i.toNat*sz)) else none
 | .os id off len tot=>match o[id]? with
  |some (.cells cs _ sz' _)=>if cs.length=tot/\sz'=sz/\0<=i/\i<len/\sy off tot sz+len*sz<=tot then some (.ptr id (sy off tot sz+i.toNat*sz) tot) else none
  |_=>none
 |_=>none
def lv (o:Store):Nat->AV->Option Nat
 |0,.sl n _=>some n
 |0,.os _ _ len _=>some len
 |0,.sc (.slice _ n _)=>some n
 |1,.sc (.string s)=>some s.size
 |2,.mp id=>match o[id]? with
  |some (.map es _ _)=>some es.length
  |_=>none
 |_,_=>none
def qj (e:TypeId) (sz a:Nat) (pu:Bool) (s x:AV) (o:Store) (bB:Nat):Option (AV×Store):=
 match nf o sz x with
 |none=>none
 |some (m,b)=>
  if eK b=false then none else
  match s with
  | .sc (.slice none 0 0)=>
   if m=0 then some (.sc zk,o)
   else if m*a<=140737488355328/\m<=1000000000000/\(pu=false\/dB b=true) then(kX bB (.cells b e sz pu) o).map λk=>(.os bB 0 m (m*sz),k) else none
  | .os h 0 c d=>match o[h]? with
   |some (.cells g j i f)=>
    if g.length=d/\j=e/\i=sz/\c*sz=d/\(c+m)*a<=140737488355328/\c+m<=1000000000000/\(f=false\/dB b=true)
    then some (.os h 0 (c+m) (d+m*sz),o.set h (.cells (g++b) e sz f)) else none
   |_=>none
  | .sl n g=>if m=0 then some (.sl n g,o) else none
  |_=>none
def iu (d:Nat):Option AV->Option Nat
 |none=>some d
 |some (.sc (.int _ n))=>if 0<=n then some n.toNat else none
 |_=>none
def qk (o:Store) (sz:Nat) (x:AV) (lo hi:Option AV):Option AV:=
 match x with
 | .sl n cs=>match iu 0 lo,iu n hi with
  |some l,some h=>if l<=h/\h<=n/\cs.length=n*sz then some (.sl (h - l) ((cs.drop (l*sz)).take ((h - l)*sz))) else none
  |_,_=>none
 | .os id off len tot=>match iu 0 lo,iu len hi with
  |some l,some h=>match o[id]? with
   |some (.cells cs _ sz' _)=>if l<=h/\h<=len/\cs.length=tot/\sz'=sz then some (.os id (off+l*sz) (h - l) tot) else none
   |_=>none
  |_,_=>none
 | .sc (.slice none 0 0)=>match iu 0 lo,iu 0 hi with
  |some 0,some 0=>some (.sc zk)
  |_,_=>none
 |_=>none
def sA (o:Store) (sz:Nat) (x:AV) (lo:Option AV) (hi mx:AV):Option AV:=
 match x with
 | .sl n cs=>match iu 0 lo,iu n (some hi),iu n (some mx) with
  |some l,some h,some m=>if l<=h/\h<=m/\m<=n/\cs.length=n*sz then some (.sl (h - l) ((cs.drop (l*sz)).take ((h - l)*sz))) else none
  |_,_,_=>none
 | .os id off len tot=>match iu 0 lo,iu len (some hi),iu len (some mx) with
  |some l,some h,some m=>match o[id]? with
   |some (.cells cs _ sz' _)=>if l<=h/\h<=m/\m<=len/\cs.length=tot/\sz'=sz/\off+len*sz<=tot/\0<sz then some (.os id (off+l*sz+(tot+sz)) (h - l) tot) else none
   |_=>none
  |_,_,_=>none
 |_=>none
def ql (ks:List Nat) (ka:Bool):AV->Option Value
 | .sc v=>if !ka&&eD ks [v] then some v else none
 | .agg cs=>match sx cs with
  |some vs=>if ka&&eD ks vs then some (.agg vs.toArray) else none
  |none=>none
 |_=>none
def keq:Value->Value->Option Bool
 | .agg a,.agg b=>fN a.toList b.toList
 | .agg _,_=>none
 |_,.agg _=>none
 |a,b=>seq1 a b
def mD (k:Value):List (Value×AV)->Nat->Option (Option (Nat×AV))
 |[],_=>some none
 |e::es,i=>match keq k e.1 with
  |some true=>some (some (i,e.2))
  |some false=>mD k es (i+1)
  |none=>none
def rb (z:List Value) (agg:Bool):Option AV:=
 if agg then some (.agg (z.map .sc)) else match z with
  |[v]=>some (.sc v)
  |_=>none
def freeze (o:Store):Nat->AV->Option AV
 |_,.ud=>some .ud
 |_,.sc v=>match v with
  | .slice none 0 0=>some (.sl 0 [])
  |v=>some (.sc v)
 |_,.sl n cs=>some (.sl n cs)
 |_,.jo t cs=>some (.jo t cs)
 |d+1,.agg cs=>(cs.mapM (freeze o d)).map .agg
 |d+1,.bI cs=>(cs.mapM (freeze o d)).map .bI
 |d+1,.fn f a b=>match a.mapM (freeze o d),b.mapM (freeze o d) with
  |some a',some b'=>some (.fn f a' b')
  |_,_=>none
 |d+1,.os id off len tot=>match o[id]? with
  |some (.cells cs _ sz pu)=>
   if cs.length=tot/\off+len*sz<=tot then
    if pu then some (.sl len ((cs.drop off).take (len*sz)))
    else match((cs.drop off).take (len*sz)).mapM (freeze o d) with
     |some cs'=>if dB cs' then some (.sl len cs') else none
     |none=>none
   else none
  |_=>none
 |_,_=>none
mutual
def AV.ren (m:Nat->Option Nat):AV->Option AV
 | .ud=>some .ud
 | .sc v=>some (.sc v)
 | .sl n cs=>some (.sl n cs)
 | .jo t cs=>some (.jo t cs)
 | .ep cs off=>some (.ep cs off)
 | .agg cs=>(iN m cs).map .agg
 | .bI cs=>(iN m cs).map .bI
 | .ptr id off tot=>(m id).map λi=> .ptr i off tot
 | .os id off len tot=>(m id).map λi=> .os i off len tot
 | .mp id=>(m id).map .mp
 | .fn f a b=>match iN m a,iN m b with
  |some a',some b'=>some (.fn f a' b')
  |_,_=>none
def iN (m:Nat->Option Nat):List AV->Option (List AV)
 |[]=>some []
 |c::cs=>match c.ren m,iN m cs with
  |some c',some cs'=>some (c'::cs')
  |_,_=>none
end
def oY (m:Nat->Option Nat):List (Value×AV)->Option (List (Value×AV))
 |[]=>some []
 |e::es=>match e.2.ren m,oY m es with
  |some v,some es'=>some ((e.1,v)::es')
  |_,_=>none
def bR.ren (m:Nat->Option Nat):bR->Option bR
 | .dead=>some .dead
 | .cells cs e sz pu=>if pu then some (.cells cs e sz pu) else(iN m cs).map λcs'=> .cells cs' e sz pu
 | .map es kt pu=>if pu then some (.map es kt pu) else(oY m es).map λes'=> .map es' kt pu
def idxOf (ids:List Nat) (i:Nat) (k:Nat:=0):Option Nat:=
 match ids with
 |[]=>none
 |j::r=>if j==i then some k else idxOf r i (k+1)
def cT (o:Store):Nat->List AV->List Nat->List Nat
 |0,_,acc=>acc
 |_,[],acc=>acc
 |d+1,v::vs,acc=>
  let visit (id:Nat) (acc:List Nat):List Nat:=
   if acc.contains id then acc else
   match o[id]? with
   |some (.cells cs _ _ pu)=>if pu then acc++[id] else cT o d cs (acc++[id])
   |some (.map es _ pu)=>if pu then acc++[id] else cT o d (es.map (·.2)) (acc++[id])
   |_=>acc++[id];let acc':=match v with
   | .agg cs| .bI cs=>cT o d cs acc
   | .ptr id _ _| .os id _ _ _| .mp id=>visit id acc
   | .fn _ a b=>cT o d b (cT o d a acc)
   |_=>acc;cT o d vs acc'
def fO:Nat:=400
def kY (o:Store) (ids:List Nat):List Nat->Option Store
 |[]=>some []
 |i::r=>match o[i]?,kY o ids r with
  |some x,some l=>(x.ren (λj=>idxOf ids j)).map (·::l)
  |_,_=>none
def oZ (ids:List Nat) (n i:Nat):Option Nat:=
 match ids[i]? with
 |some j=>some j
 |none=>some (n+(i - ids.length))
def sB (m:Nat->Option Nat):Store->Option Store
 |[]=>some []
 |x::r=>match x.ren m,sB m r with
  |some y,some l=>some (y::l)
  |_,_=>none
def lM (o:Store):List Nat->Store->Store
 |[],_=>o
 |_,[]=>o
 |i::r,x::l=>lM (o.set i x) r l
abbrev dh:=FuncId->List AV->Store->Bool->Option (AV×Store)
def iO (call:dh) (f:FuncId) (args:List AV) (o:Store):Option (AV×Store):=
 let ids:=cT o fO args [];match iN (λj=>idxOf ids j) args,kY o ids ids with
 |some args',some small=>match call f args' small true with
  |some (r,M9)=>
   if M9.length<ids.length\/pG ids=false then none else
   match r.ren (oZ ids o.length),sB (oZ ids o.length) M9 with
   |some r',some big=>some (r',lM o ids (big.take ids.length)++big.drop ids.length)
   |_,_=>none
  |none=>none
 |_,_=>none
where pG:List Nat->Bool
 |[]=>true
 |a::r=>!r.contains a&&pG r
mutual
def AV.kZ:AV->Bool
 | .ud| .sc _=>true
 | .agg cs| .bI cs=>vi cs
 | .sl _ cs=>cs.isEmpty
 |_=>false
def vi:List AV->Bool
 |[]=>true
 |c::cs=>c.kZ&&vi cs
end
def fw (o:Store):Nat->AV->List Nat
 |d+1,.agg cs=>cs.flatMap (fw o d)
 |d+1,.bI cs=>cs.flatMap (fw o d)
 |d+1,.fn _ a b=>a.flatMap (fw o d)++b.flatMap (fw o d)
 |d+1,.os id off len _=>id::(match o[id]? with
  |some (.cells cs _ sz pu)=>if pu then[] else((cs.drop off).take (len*sz)).flatMap (fw o d)
  |_=>[])
 |_,_=>[]
def vj:List (TypeId×FuncId)->TypeId->Option FuncId
 |[],_=>none
 |p::r,t=>bif δs p.1 t then some p.2 else vj r t
def gK (call:dh) (f:FuncId) (args:List AV) (o:Store) (own:Bool):Option (AV×Store):=
 if own then iO call f args o
 else match args.mapM (freeze o 6) with
  |none=>none
  |some args'=>match call f args' [] false with
   |some (r,[])=>if(args.flatMap (fw o 6)).isEmpty||r.kZ then some (r,o) else none
   |_=>none
def lx (parts:List (Nat×Nat×AV)) (cs:List AV):Option (List AV):=
 match parts with
 |[]=>some cs
 |(off,n,v)::rest=>
  if v.cellsOf.length=n/\eK v.cellsOf=true/\off+n<=cs.length then lx rest (gh cs off v.cellsOf) else none
def bK (call:dh) (op:cJ) (ρ:Operand->AV) (o:Store) (bB:Nat):Option (AV×Store):=
 match op with
 | .uZ x=>some (ρ x,o)
 | .pick c a b=>match ρ c with
  | .sc (.bool true)=>some (ρ a,o)
  | .sc (.bool false)=>some (ρ b,o)
  |_=>none
 | .alloc z e pu=>(kX bB (.cells (z.map .sc) e z.length pu) o).map λo'=>(.ptr bB 0 z.length,o')
 | .box e x=>if eK (ρ x).cellsOf then(kX bB (.cells (ρ x).cellsOf e (ρ x).cellsOf.length false) o).map λo'=>(.ptr bB 0 (ρ x).cellsOf.length,o') else none
 | .build z parts=>(lx (parts.map λp=>(p.1,p.2.1,ρ p.2.2)) (z.map .sc)).map λcs=>(.agg cs,o)
 | .pF z len parts e sz=>
  match lx (parts.map λp=>(p.1,sz,ρ p.2)) ((δ len (z.map AV.sc)).flatten) with
  |some cs=>(kX bB (.cells (eC (dB cs) cs) e sz (dB cs)) o).map λo'=>(.os bB 0 len (len*sz),o')
  |none=>none
 | .tH z len parts _ sz=>
  match lx (parts.map λp=>(p.1,sz,ρ p.2)) ((δ len (z.map AV.sc)).flatten) with
  |some cs=>if dB cs=true then some (.sl len (eC true cs),o) else none
  |none=>none
 | .load n a=>match behind o (ρ a) with
  |some (cs,off)=>(gv cs off n).map (·,o)
  |none=>none
 | .store n a x=>match ρ a with
  | .ptr id off tot=>match o[id]? with
   |some (.cells cs e sz pu)=>
    let v:=(ρ x).cellsOf;if cs.length=tot/\v.length=n/\eK v=true/\off+n<=cs.length/\(pu=false\/dB v=true) then some (.ud,o.set id (.cells (gh cs off (eC pu v)) e sz pu)) else none
   |_=>none
  |_=>none
 | .u7 x=>match ρ x with
  | .ptr a b c=>some (.ptr a b c,o)
  | .ep a b=>some (.ep a b,o)
  |_=>none
 | .bin op x y=>match ρ x,ρ y with
  | .sc a,.sc b=>(gV op a b).map λv=>(.sc v,o)
  |_,_=>none
 | .beq neg x y=>match ρ x,ρ y with
  | .sc (.bool a),.sc (.bool b)=>some (.sc (.bool (if neg then !(a==b) else a==b)),o)
  |_,_=>none
 | .su neg ks x y=>match ρ x,ρ y with
  | .agg a,.agg b=>(wV ks a b).map λr=>(.sc (.bool (if neg then !r else r)),o)
  |_,_=>none
 | .tJ neg x y=>match ρ x,ρ y with
  | .ptr _ _ _,.sc (.pointer none)=>some (.sc (.bool neg),o)
  | .sc (.pointer none),.sc (.pointer none)=>some (.sc (.bool !neg),o)
  |_,_=>none
 | .un op x=>(tM op (ρ x)).map (·,o)
 | .conv k x=>match ρ x with
  | .sc (.int _ n)=>some (.sc (.int k (eX k n)),o)
  |_=>none
 | .vd off x=>(nc off (ρ x)).map (·,o)
 | .field off n x=>match ρ x with
  | .agg cs=>(gv cs off n).map (·,o)
  |_=>none
 | .ve len sz x i=>match iq (ρ i) with
  |some n=>if 0<=n/\n<len then(nc (n.toNat*sz) (ρ x)).map (·,o) else none
  |none=>none
 | .sw sz x i=>match iq (ρ i) with
  |some n=>(qh o sz (ρ x) n).map (·,o)
  |none=>none
 | .idx len sz n x i=>match iq (ρ i),ρ x with
  |some k,.agg cs=>if 0<=k/\k<len then(gv cs (k.toNat*sz) n).map (·,o) else none
  |_,_=>none
 | .wU x i=>match iq (ρ i),ρ x with
  |some k,.sc (.string s)=>if 0<=k then(s[k.toNat]?).map λb=>(.sc (.int .u8 b.toNat),o) else none
  |_,_=>none
 | .qf z e sz bytes l c pu=>match iq (ρ l),iq (ρ c) with
  |some n,some m=>if 0<=n/\n<=m/\m*bytes<=140737488355328/\m<=1000000000000 then
    (kX bB (.cells ((δ n.toNat (eC pu (z.map AV.sc))).flatten) e sz pu) o).map λo'=>(.os bB 0 n.toNat (n.toNat*sz),o') else none
  |_,_=>none
 | .slice sz x lo hi=>(qk o sz (ρ x) (lo.map ρ) (hi.map ρ)).map (·,o)
 | .slice3 sz x lo hi mx=>(sA o sz (ρ x) (lo.map ρ) (ρ hi) (ρ mx)).map (·,o)
 | .vf x lo hi=>match ρ x with
  | .sc (.string s)=>match iu 0 (lo.map ρ),iu s.size (hi.map ρ) with
   |some l,some h=>if l<=h/\h<=s.size then some (.sc (.string (s.extract l h)),o) else none
   |_,_=>none
  |_=>none
 | .append e sz bytes s x pu=>qj e sz bytes pu (ρ s) (ρ x) o bB
 | .len k x=>(lv o k (ρ x)).map λ(n:Nat)=>(.sc (.int .i64 n),o)
 | .vg n=>some (.sc (.int .i64 n),o)
 | .mm mx x y=>match ρ x,ρ y with
  | .sc (.int k a),.sc (.int k' b)=>if k=k' then some (.sc (.int k (if mx then(if b>a then b else a) else(if b<a then b else a))),o) else none
  |_,_=>none
 | .call f args own=>gK call f (args.map ρ) o own
 | .jU f args own=>match ρ f with
  | .fn (.func g) first captured=>gK call g (first++args.map ρ++captured) o own
  |_=>none
 | .extract x i=>match ρ x with
  | .bI vs=>(vs[i]?).map (·,o)
  |_=>none
 | .tK f first captured=>some (.fn f (first.map ρ) (captured.map ρ),o)
 | .vh t x=>match ρ x with
  | .agg cs=>if dB cs=true then some (.jo t cs,o) else none
  |_=>none
 | .oV tab x args=>match ρ x with
  | .jo t cs=>match vj tab t with
   |some f=>gK call f (.agg cs::args.map ρ) o false
   |none=>none
  |_=>none
 | .qg kt pu=>(kX bB (.map [] kt pu) o).map λo'=>(.mp bB,o')
 | .lookup z agg ks ka x k ok=>match ρ x,ql ks ka (ρ k) with
  | .mp id,some kv=>match o[id]? with
   |some (.map es kt _)=>if kt=(ks,ka) then match mD kv es 0,rb z agg with
    |some (some (_,v)),_=>some (if ok then .bI [v,.sc (.bool true)] else v,o)
    |some none,some v=>some (if ok then .bI [v,.sc (.bool false)] else v,o)
    |_,_=>none
    else none
   |_=>none
  |_,_=>none
 | .ra ks ka x k v=>match ρ x,ql ks ka (ρ k) with
  | .mp id,some kv=>match o[id]? with
   |some (.map es kt pu)=>
    if(pu=true/\(ρ v).pure=false)\/kt≠(ks,ka) then none else
    match mD kv es 0 with
    |some (some (i,_))=>some (.ud,o.set id (.map (es.modify i λ_=>(kv,ρ v)) kt pu))
    |some none=>some (.ud,o.set id (.map (es++[(kv,ρ v)]) kt pu))
    |none=>none
   |_=>none
  |_,_=>none
def Wl (x:Operand) (_call:dh) (ρ:Operand->AV) (o:Store) (_nid:Nat):Option (AV×Store):=some (ρ x,o)
def Wm (c:Operand) (a:Operand) (b:Operand) (_call:dh) (ρ:Operand->AV) (o:Store) (_nid:Nat):Option (AV×Store):=match ρ c with
  | .sc (.bool true)=>some (ρ a,o)
  | .sc (.bool false)=>some (ρ b,o)
  |_=>none
def Wn (z:List Value) (e:TypeId) (pu:Bool) (_call:dh) (_ρ:Operand->AV) (o:Store) (bB:Nat):Option (AV×Store):=(kX bB (.cells (z.map .sc) e z.length pu) o).map λo'=>(.ptr bB 0 z.length,o')
def Wp (e:TypeId) (x:Operand) (_call:dh) (ρ:Operand->AV) (o:Store) (bB:Nat):Option (AV×Store):=if eK (ρ x).cellsOf then(kX bB (.cells (ρ x).cellsOf e (ρ x).cellsOf.length false) o).map λo'=>(.ptr bB 0 (ρ x).cellsOf.length,o') else none
def Wq (z:List Value) (parts:List (Nat×Nat×Operand)) (_call:dh) (ρ:Operand->AV) (o:Store) (_nid:Nat):Option (AV×Store):=(lx (parts.map λp=>(p.1,p.2.1,ρ p.2.2)) (z.map .sc)).map λcs=>(.agg cs,o)
def Ws (z:List Value) (len:Nat) (parts:List (Nat×Operand)) (e:TypeId) (sz:Nat) (_call:dh) (ρ:Operand->AV) (o:Store) (bB:Nat):Option (AV×Store):=
  match lx (parts.map λp=>(p.1,sz,ρ p.2)) ((δ len (z.map AV.sc)).flatten) with
  |some cs=>(kX bB (.cells (eC (dB cs) cs) e sz (dB cs)) o).map λo'=>(.os bB 0 len (len*sz),o')
  |none=>none
def Wt (z:List Value) (len:Nat) (parts:List (Nat×Operand)) (_a3:TypeId) (sz:Nat) (_call:dh) (ρ:Operand->AV) (o:Store) (_nid:Nat):Option (AV×Store):=
  match lx (parts.map λp=>(p.1,sz,ρ p.2)) ((δ len (z.map AV.sc)).flatten) with
  |some cs=>if dB cs=true then some (.sl len (eC true cs),o) else none
  |none=>none
def Wu (n:Option Nat) (a:Operand) (_call:dh) (ρ:Operand->AV) (o:Store) (_nid:Nat):Option (AV×Store):=match behind o (ρ a) with
  |some (cs,off)=>(gv cs off n).map (·,o)
  |none=>none
def Wv (n:Nat) (a:Operand) (x:Operand) (_call:dh) (ρ:Operand->AV) (o:Store) (_nid:Nat):Option (AV×Store):=match ρ a with
  | .ptr id off tot=>match o[id]? with
   |some (.cells cs e sz pu)=>
    let v:=(ρ x).cellsOf;if cs.length=tot/\v.length=n/\eK v=true/\off+n<=cs.length/\(pu=false\/dB v=true) then some (.ud,o.set id (.cells (gh cs off (eC pu v)) e sz pu)) else none
   |_=>none
  |_=>none
def Ww (x:Operand) (_call:dh) (ρ:Operand->AV) (o:Store) (_nid:Nat):Option (AV×Store):=match ρ x with
  | .ptr a b c=>some (.ptr a b c,o)
  | .ep a b=>some (.ep a b,o)
  |_=>none
def Wx (op:BinOp) (x:Operand) (y:Operand) (_call:dh) (ρ:Operand->AV) (o:Store) (_nid:Nat):Option (AV×Store):=match ρ x,ρ y with
  | .sc a,.sc b=>(gV op a b).map λv=>(.sc v,o)
  |_,_=>none
def Wy (neg:Bool) (x:Operand) (y:Operand) (_call:dh) (ρ:Operand->AV) (o:Store) (_nid:Nat):Option (AV×Store):=match ρ x,ρ y with
  | .sc (.bool a),.sc (.bool b)=>some (.sc (.bool (if neg then !(a==b) else a==b)),o)
  |_,_=>none
def Wz (neg:Bool) (ks:List Nat) (x:Operand) (y:Operand) (_call:dh) (ρ:Operand->AV) (o:Store) (_nid:Nat):Option (AV×Store):=match ρ x,ρ y with
  | .agg a,.agg b=>(wV ks a b).map λr=>(.sc (.bool (if neg then !r else r)),o)
  |_,_=>none
def WA (neg:Bool) (x:Operand) (y:Operand) (_call:dh) (ρ:Operand->AV) (o:Store) (_nid:Nat):Option (AV×Store):=match ρ x,ρ y with
  | .ptr _ _ _,.sc (.pointer none)=>some (.sc (.bool neg),o)
  | .sc (.pointer none),.sc (.pointer none)=>some (.sc (.bool !neg),o)
  |_,_=>none
def WC (op:UnOp) (x:Operand) (_call:dh) (ρ:Operand->AV) (o:Store) (_nid:Nat):Option (AV×Store):=(tM op (ρ x)).map (·,o)
def WE (k:IntKind) (x:Operand) (_call:dh) (ρ:Operand->AV) (o:Store) (_nid:Nat):Option (AV×Store):=match ρ x with
  | .sc (.int _ n)=>some (.sc (.int k (eX k n)),o)
  |_=>none
def WG (off:Nat) (x:Operand) (_call:dh) (ρ:Operand->AV) (o:Store) (_nid:Nat):Option (AV×Store):=(nc off (ρ x)).map (·,o)
def WH (off:Nat) (n:Option Nat) (x:Operand) (_call:dh) (ρ:Operand->AV) (o:Store) (_nid:Nat):Option (AV×Store):=match ρ x with
  | .agg cs=>(gv cs off n).map (·,o)
  |_=>none
def WI (len:Nat) (sz:Nat) (x:Operand) (i:Operand) (_call:dh) (ρ:Operand->AV) (o:Store) (_nid:Nat):Option (AV×Store):=match iq (ρ i) with
  |some n=>if 0<=n/\n<len then(nc (n.toNat*sz) (ρ x)).map (·,o) else none
  |none=>none
def WJ (sz:Nat) (x:Operand) (i:Operand) (_call:dh) (ρ:Operand->AV) (o:Store) (_nid:Nat):Option (AV×Store):=match iq (ρ i) with
  |some n=>(qh o sz (ρ x) n).map (·,o)
  |none=>none
def WL (len:Nat) (sz:Nat) (n:Option Nat) (x:Operand) (i:Operand) (_call:dh) (ρ:Operand->AV) (o:Store) (_nid:Nat):Option (AV×Store):=match iq (ρ i),ρ x with
  |some k,.agg cs=>if 0<=k/\k<len then(gv cs (k.toNat*sz) n).map (·,o) else none
  |_,_=>none
def WM (x:Operand) (i:Operand) (_call:dh) (ρ:Operand->AV) (o:Store) (_nid:Nat):Option (AV×Store):=match iq (ρ i),ρ x with
  |some k,.sc (.string s)=>if 0<=k then(s[k.toNat]?).map λb=>(.sc (.int .u8 b.toNat),o) else none
  |_,_=>none
def WN (z:List Value) (e:TypeId) (sz:Nat) (a:Nat) (l:Operand) (c:Operand) (pu:Bool) (b:dh) (ρ:Operand->AV) (o:Store) (bB:Nat):Option (AV×Store):=match iq (ρ l),iq (ρ c) with
  |some n,some m=>if 0<=n/\n<=m/\m*a<=140737488355328/\m<=1000000000000 then
    (kX bB (.cells ((δ n.toNat (eC pu (z.map AV.sc))).flatten) e sz pu) o).map λd=>(.os bB 0 n.toNat (n.toNat*sz),d) else none
  |_,_=>none
def WO (sz:Nat) (x:Operand) (lo:Option Operand) (hi:Option Operand) (_call:dh) (ρ:Operand->AV) (o:Store) (_nid:Nat):Option (AV×Store):=(qk o sz (ρ x) (lo.map ρ) (hi.map ρ)).map (·,o)
def WQ (sz:Nat) (x:Operand) (lo:Option Operand) (hi:Operand) (mx:Operand) (_call:dh) (ρ:Operand->AV) (o:Store) (_nid:Nat):Option (AV×Store):=(sA o sz (ρ x) (lo.map ρ) (ρ hi) (ρ mx)).map (·,o)
def WR (x:Operand) (lo:Option Operand) (hi:Option Operand) (_call:dh) (ρ:Operand->AV) (o:Store) (_nid:Nat):Option (AV×Store):=match ρ x with
  | .sc (.string s)=>match iu 0 (lo.map ρ),iu s.size (hi.map ρ) with
   |some l,some h=>if l<=h/\h<=s.size then some (.sc (.string (s.extract l h)),o) else none
   |_,_=>none
  |_=>none
def WS (e:TypeId) (sz:Nat) (a:Nat) (s:Operand) (x:Operand) (pu:Bool) (b:dh) (ρ:Operand->AV) (o:Store) (bB:Nat):Option (AV×Store):=qj e sz a pu (ρ s) (ρ x) o bB
def WT (k:Nat) (x:Operand) (_call:dh) (ρ:Operand->AV) (o:Store) (_nid:Nat):Option (AV×Store):=(lv o k (ρ x)).map λ(n:Nat)=>(.sc (.int .i64 n),o)
def WU (n:Nat) (_call:dh) (_ρ:Operand->AV) (o:Store) (_nid:Nat):Option (AV×Store):=some (.sc (.int .i64 n),o)
def WV (mx:Bool) (x:Operand) (y:Operand) (_call:dh) (ρ:Operand->AV) (o:Store) (_nid:Nat):Option (AV×Store):=match ρ x,ρ y with
  | .sc (.int k a),.sc (.int k' b)=>if k=k' then some (.sc (.int k (if mx then(if b>a then b else a) else(if b<a then b else a))),o) else none
  |_,_=>none
def WW (f:FuncId) (args:List Operand) (own:Bool) (call:dh) (ρ:Operand->AV) (o:Store) (_nid:Nat):Option (AV×Store):=gK call f (args.map ρ) o own
def Na (f:Operand) (args:List Operand) (own:Bool) (call:dh) (ρ:Operand->AV) (o:Store) (_nid:Nat):Option (AV×Store):=match ρ f with
  | .fn (.func g) first captured=>gK call g (first++args.map ρ++captured) o own
  |_=>none
def WX (x:Operand) (i:Nat) (_call:dh) (ρ:Operand->AV) (o:Store) (_nid:Nat):Option (AV×Store):=match ρ x with
  | .bI vs=>(vs[i]?).map (·,o)
  |_=>none
def WY (f:Fn) (first:List Operand) (captured:List Operand) (_call:dh) (ρ:Operand->AV) (o:Store) (_nid:Nat):Option (AV×Store):=some (.fn f (first.map ρ) (captured.map ρ),o)
def WZ (t:TypeId) (x:Operand) (_call:dh) (ρ:Operand->AV) (o:Store) (_nid:Nat):Option (AV×Store):=match ρ x with
  | .agg cs=>if dB cs=true then some (.jo t cs,o) else none
  |_=>none
def Nb (tab:List (TypeId×FuncId)) (x:Operand) (args:List Operand) (call:dh) (ρ:Operand->AV) (o:Store) (_nid:Nat):Option (AV×Store):=match ρ x with
  | .jo t cs=>match vj tab t with
   |some f=>gK call f (.agg cs::args.map ρ) o false
   |none=>none
  |_=>none
def W0 (kt:List Nat×Bool) (pu:Bool) (_call:dh) (_ρ:Operand->AV) (o:Store) (bB:Nat):Option (AV×Store):=(kX bB (.map [] kt pu) o).map λo'=>(.mp bB,o')
def W1 (z:List Value) (agg:Bool) (ks:List Nat) (ka:Bool) (x:Operand) (k:Operand) (ok:Bool) (_call:dh) (ρ:Operand->AV) (o:Store) (_nid:Nat):Option (AV×Store):=match ρ x,ql ks ka (ρ k) with
  | .mp id,some kv=>match o[id]? with
   |some (.map es kt _)=>if kt=(ks,ka) then match mD kv es 0,rb z agg with
    |some (some (_,v)),_=>some (if ok then .bI [v,.sc (.bool true)] else v,o)
    |some none,some v=>some (if ok then .bI [v,.sc (.bool false)] else v,o)
    |_,_=>none
    else none
   |_=>none
  |_,_=>none
def W3 (ks:List Nat) (ka:Bool) (x:Operand) (k:Operand) (v:Operand) (_call:dh) (ρ:Operand->AV) (o:Store) (_nid:Nat):Option (AV×Store):=match ρ x,ql ks ka (ρ k) with
  | .mp id,some kv=>match o[id]? with
   |some (.map es kt pu)=>
    if(pu=true/\(ρ v).pure=false)\/kt≠(ks,ka) then none else
    match mD kv es 0 with
    |some (some (i,_))=>some (.ud,o.set id (.map (es.modify i λ_=>(kv,ρ v)) kt pu))
    |some none=>some (.ud,o.set id (.map (es++[(kv,ρ v)]) kt pu))
    |none=>none
   |_=>none
  |_,_=>none
def FK (op:cJ):dh->(Operand->AV)->Store->Nat->Option (AV×Store):=
 match op with
 | .uZ x=>Wl x
 | .pick c a b=>Wm c a b
 | .alloc z e pu=>Wn z e pu
 | .box e x=>Wp e x
 | .build z parts=>Wq z parts
 | .pF z len parts e sz=>Ws z len parts e sz
 | .tH z len parts a3 sz=>Wt z len parts a3 sz
 | .load n a=>Wu n a
 | .store n a x=>Wv n a x
 | .u7 x=>Ww x
 | .bin op x y=>Wx op x y
 | .beq neg x y=>Wy neg x y
 | .su neg ks x y=>Wz neg ks x y
 | .tJ neg x y=>WA neg x y
 | .un op x=>WC op x
 | .conv k x=>WE k x
 | .vd off x=>WG off x
 | .field off n x=>WH off n x
 | .ve len sz x i=>WI len sz x i
 | .sw sz x i=>WJ sz x i
 | .idx len sz n x i=>WL len sz n x i
 | .wU x i=>WM x i
 | .qf z e sz bytes l c pu=>WN z e sz bytes l c pu
 | .slice sz x lo hi=>WO sz x lo hi
 | .slice3 sz x lo hi mx=>WQ sz x lo hi mx
 | .vf x lo hi=>WR x lo hi
 | .append e sz bytes s x pu=>WS e sz bytes s x pu
 | .len k x=>WT k x
 | .vg n=>WU n
 | .mm mx x y=>WV mx x y
 | .call f args own=>WW f args own
 | .jU f args own=>Na f args own
 | .extract x i=>WX x i
 | .tK f first captured=>WY f first captured
 | .vh t x=>WZ t x
 | .oV tab x args=>Nb tab x args
 | .qg kt pu=>W0 kt pu
 | .lookup z agg ks ka x k ok=>W1 z agg ks ka x k ok
 | .ra ks ka x k v=>W3 ks ka x k v
def qm (call:dh) (op:cJ) (ρ:Operand->AV) (o:Store) (bB:Nat):Option (AV×Store):=FK op call ρ o bB
theorem zl (call:dh) (a:cJ) (ρ:Operand->AV) (o:Store) (bB:Nat):qm call a ρ o bB=bK call a ρ o bB:=by
 cases a<;>rfl
def mE (env:jF) (g:Option (Option Nat×Bool)):Option Bool:=
 match g with
 |none=>some true
 |some (none,_)=>none
 |some (some s,b)=>match dK env s with
  | .sc (.bool c)=>some (c==b)
  | .bI []=>some false
  |_=>none
def iw (call:dh) (base:Nat) (i:dC) (st:St):Option St:=
 match mE st.env i.guard with
 |none=>none
 |some false=>some ⟨oU st.env i.dst (.bI []),st.o⟩
 |some true=>match qm call i.op (eG st.env) st.o (base+i.bB) with
  |some (v,o')=>some ⟨oU st.env i.dst v,o'⟩
  |none=>none
def gi (call:dh) (base:Nat):List dC->St->Option St
 |[],st=>some st
 |i::r,st=>match iw call base i st with
  |some st'=>gi call base r st'
  |none=>none
def fy:AV->List Nat
 | .ptr id _ _=>[id]
 | .os id _ _ _=>[id]
 | .mp id=>[id]
 |_=>[]
def dR (op:cJ) (ρ:Operand->AV) (o:Store) (bB:Nat):List Nat:=
 match op with
 | .load _ a=>fy (ρ a)
 | .sw _ x _=>fy (ρ x)
 | .slice _ x _ _=>fy (ρ x)
 | .slice3 _ x _ _ _=>fy (ρ x)
 | .len _ x=>fy (ρ x)
 | .lookup _ _ _ _ x _ _=>fy (ρ x)
 | .call _ args false=>(args.map ρ).flatMap (fw o 6)
 | .jU f args false=>match ρ f with
  | .fn _ first captured=>(first++args.map ρ++captured).flatMap (fw o 6)
  |_=>[]
 | .call _ args true=>cT o fO (args.map ρ) []
 | .jU f args true=>match ρ f with
  | .fn _ first captured=>cT o fO (first++args.map ρ++captured) []
  |_=>[]
 | .oV _ x args=>match ρ x with
  | .jo _ cs=>(.agg cs::args.map ρ).flatMap (fw o 6)
  |_=>[]
 | .alloc .. | .box .. | .pF .. | .qf .. | .qg .. =>[bB]
 | .store _ a _=>fy (ρ a)
 | .append _ _ _ s x _=>bB::(fy (ρ s)++fy (ρ x))
 | .ra _ _ x _ _=>fy (ρ x)
 |_=>[]
def wrt (op:cJ) (ρ:Operand->AV) (o:Store) (bB:Nat):List Nat:=
 match op with
 | .alloc .. | .box .. | .pF .. | .qf .. | .qg .. =>[bB]
 | .store _ a _=>fy (ρ a)
 | .append _ _ _ s _ _=>bB::fy (ρ s)
 | .call _ args true=>cT o fO (args.map ρ) []
 | .jU f args true=>match ρ f with
  | .fn _ first captured=>cT o fO (first++args.map ρ++captured) []
  |_=>[]
 | .ra _ _ x _ _=>fy (ρ x)
 |_=>[]
open Classical in
noncomputable def ew (call:dh) (op:cJ) (ρ:Operand->AV) (o:Store) (bB:Nat):List Nat:=
 match op with
 | .call f args true=>match iO call f (args.map ρ) o with
  |some (_,o')=>(cT o fO (args.map ρ) []).filter λj=>decide (o'[j]?≠o[j]?)
  |none=>[]
 |op=>wrt op ρ o bB
abbrev Trace:=List (Nat×List Nat×List Nat)
noncomputable def mG (call:dh) (base:Nat):List dC->St->Trace
 |[],_=>[]
 |i::r,st=>(match mE st.env i.guard with
   |some true=>(i.idx,dR i.op (eG st.env) st.o (base+i.bB),ew call i.op (eG st.env) st.o (base+i.bB))
   |_=>(i.idx,[],[]))::match iw call base i st with
  |some st'=>mG call base r st'
  |none=>[]
def wW (a b:List Nat):Bool:=a.all λx=>!b.contains x
def qo (tr:Trace) (i:Nat):List Nat×List Nat:=
 match tr with
 |[]=>([],[])
 |(j,x)::r=>if j==i then x else qo r i
def tN (n:Nat) (tr:Trace) (kC:List (Nat×Nat)):Bool:=
 kC.all λp=>let a:=qo tr p.1;let b:=qo tr p.2;wW a.2 b.1&&wW b.2 a.1&&a.1.all (λi=>decide (i<n))&&b.1.all (λi=>decide (i<n))
def gj (k:Nat):Store:=δ k .dead
def rc (base:Nat) (o:Store):Store:=if(o.drop base).all (·.mZ) then o.take base else o
noncomputable def pH (call:dh) (k:Nat) (ops:List dC) (kC:List (Nat×Nat)) (st:St):Option St:=
 let st0:St:=⟨st.env,st.o++gj k⟩;match gi call st.o.length ops st0 with
 |some st'=>if kC.isEmpty||tN st0.o.length (mG call st.o.length ops st0) kC then some ⟨st'.env,if k=0 then st'.o else rc st.o.length st'.o⟩ else none
 |none=>none
mutual
def AV.bV (o:Store) (p:Nat->Bool):AV->Option AV
 | .os id off len tot=>if p id then match o[id]? with
   |some (.cells cs _ sz pu)=>if pu then(if cs.length=tot/\off+len*sz<=tot then some (.sl len ((cs.drop off).take (len*sz))) else none) else some (.os id off len tot)
   |_=>some (.os id off len tot)
  else some (.os id off len tot)
 | .ptr id off tot=>if p id then match o[id]? with
   |some (.cells _ _ _ pu)=>if pu then none else some (.ptr id off tot)
   |_=>some (.ptr id off tot)
  else some (.ptr id off tot)
 | .agg cs=>(gW o p cs).map .agg
 | .bI cs=>(gW o p cs).map .bI
 | .fn f a b=>match gW o p a,gW o p b with
  |some a',some b'=>some (.fn f a' b')
  |_,_=>none
 |v=>some v
def gW (o:Store) (p:Nat->Bool):List AV->Option (List AV)
 |[]=>some []
 |c::cs=>match c.bV o p,gW o p cs with
  |some c',some cs'=>some (c'::cs')
  |_,_=>none
end
def qp (o:Store) (p:Nat->Bool):List (Value×AV)->Option (List (Value×AV))
 |[]=>some []
 |e::es=>match e.2.bV o p,qp o p es with
  |some v,some es'=>some ((e.1,v)::es')
  |_,_=>none
def bR.bV (o:Store) (p:Nat->Bool):bR->Option bR
 | .dead=>some .dead
 | .cells cs e sz pu=>if pu then some (.cells cs e sz pu) else(gW o p cs).map λcs'=> .cells cs' e sz pu
 | .map es kt pu=>if pu then some (.map es kt pu) else(qp o p es).map λes'=> .map es' kt pu
def jG (o:Store) (p:Nat->Bool):Store->Option Store
 |[]=>some []
 |x::r=>match x.bV o p,jG o p r with
  |some y,some l=>some (y::l)
  |_,_=>none
def fQ (p:Nat->Bool):Nat->Store->Store
 |_,[]=>[]
 |i,x::r=>(match x with
  | .cells cs e sz true=>if p i then .dead else .cells cs e sz true
  |x=>x)::fQ p (i+1) r
def vk (o:Store) (p:Nat->Bool):jF->Option jF
 |[]=>some []
 |(k,v)::r=>match v.bV o p,vk o p r with
  |some v',some r'=>some ((k,v')::r')
  |_,_=>none
def BS (h:kB) (st:St):Option AV:=
 match h.off with
 |none=>some (dK st.env h.slot)
 |some k=>match behind st.o (dK st.env h.slot) with
  |some (cs,off)=>cs[off+k]?
  |none=>none
def BU (id:Nat) (st:St):St:=
 match st.o[id]? with
 |some (.cells cs e sz true)=>⟨st.env,st.o.set id (.cells cs e sz false)⟩
 |_=>st
def BV (h:kB) (st:St):St:=
 match h.off with
 |none=>match dK st.env h.slot with
  | .sc (.slice none 0 0)=>⟨(h.slot,.os st.o.length 0 0 0)::st.env,st.o++[.cells [] h.e h.sz h.pu]⟩
  | .os id _ _ _=>if h.sz=0 then BU id st else st
  |_=>st
 |some k=>match dK st.env h.slot with
  | .ptr id off tot=>match st.o[id]? with
   |some (.cells cs e sz pu)=>match cs[off+k]? with
    |some (.sc (.slice none 0 0))=>
     if cs.length=tot/\pu=false then⟨st.env,(st.o.set id (.cells (cs.set (off+k) (.os st.o.length 0 0 0)) e sz pu))++[.cells [] h.e h.sz h.pu]⟩ else st
    |_=>st
   |_=>st
  |_=>st
def BW (id:Nat) (st:St):St:=
 let p:Nat->Bool:=λi=>i==id;match vk st.o p st.env,jG st.o p st.o with
 |some env,some o=>⟨env,fQ p 0 o⟩
 |_,_=>st
def zm (id:Nat) (st:St):St:=
 match st.o[id]? with
 |some (.cells cs e sz false)=>if dB cs then⟨st.env,st.o.set id (.cells cs e sz true)⟩ else st
 |_=>st
def kg (lo:Nat) (h:kB) (st:St):St:=
 if h.own then BV h st
 else match BS h st with
  |some (.os id _ _ _)=>if Nat.ble lo id then BW id (zm id st) else st
  |_=>st
def prune (live:List Nat) (env:jF):jF:=live.map λs=>(s,dK env s)
inductive Out where
 |norm
 |exit (id:Nat)
 |ret
 |goto (l:Nat)
 deriving DecidableEq
def trim (k:Nat) (st:St):St:=
 if st.o.length<=k then st
 else if(st.env.all λp=>p.2.bY k)&&((st.o.take k).all λx=>x.bY k) then⟨st.env,st.o.take k⟩ else st
structure ng where
 slot:Nat
 cell:Option (Option Nat)
structure fz where
 params:Nat
 ntmps:Nat
 body:IR
 res:List ng
def rf (st:St) (r:ng):Option AV:=
 match r.cell with
 |none=>some (dK st.env r.slot)
 |some n=>match behind st.o (dK st.env r.slot) with
  |some (cs,off)=>gv cs off n
  |none=>none
def nV (st:St) (rs:List ng):Option AV:=
 match rs.mapM (rf st) with
 |some [v]=>some v
 |some vs=>some (.bI vs)
 |none=>none
def lN (k:Nat) (r:AV) (o:Store):Option (AV×Store):=
 match r.bV o (λi=>decide (k<=i)),jG o (λi=>decide (k<=i)) o with
 |some r1,some o1=>
  let o2:=fQ (λi=>decide (k<=i)) 0 o1;let ids:=cT o2 fO (r1::(o2.take k).flatMap bR.zn) (ω k);if iO.pG ids then
   match r1.ren (λj=>idxOf ids j),kY o2 ids ids with
   |some r2,some s2=>some (r2,s2)
   |_,_=>none
  else none
 |_,_=>none
where bR.zn:bR->List AV
 | .cells cs _ _ pu=>if pu then[] else cs
 | .map es _ pu=>if pu then[] else es.map (·.2)
 | .dead=>[]
def finish (own:Bool) (k:Nat) (r:AV) (o:Store):Option (AV×Store):=
 if own then lN k r o
 else match k with
  |0=>match freeze o 6 r with
   |some r'=>some (r',[])
   |none=>none
  |_+1=>none
def ix:Nat->List AV->jF
 |_,[]=>[]
 |i,v::vs=>(i,v)::ix (i+1) vs
structure Tab where
 fn:FuncId->Option fz
 K:dh
def rh (ex:IR->St->Option (Out×St)):IR->St->Option St
 | .skip,st=>some st
 | .seq x y,st=>match ex x st with
  |some (.norm,st')=>rh ex y st'
  |_=>none
 |_,_=>none
def ri:Out->Bool
 | .norm| .ret=>true
 |_=>false
def FM (ex:Nat->IR->St->Option (Out×St)) (F:Option fz) (cs:List AV) (s:St):Option (Out×St):=match F with
 |some F=>if cs.length=F.params/\F.res.isEmpty=true then match ex s.o.length F.body ⟨ix 0 cs,s.o⟩ with
  |some (out,s3)=>if ri out=true then some (.ret,⟨s.env,s3.o⟩) else none
  |none=>none else none
 |none=>none
def tO (T:Tab) (ex:Nat->IR->St->Option (Out×St)) (lo:Nat) (c:IR) (st:St):Option (Out×St):=match c with
 | .tL g caps d a b=>match rh (ex lo) a st with
  |some s0=>match ex s0.o.length b ⟨(d,.ud)::s0.env,s0.o⟩ with
   |some (out,s2)=>if ri out=true then FM ex (T.fn g) (caps.map (eG s0.env)) s2 else none
   |none=>none
  |none=>none
 |c=>ex lo c st
def qs (T:Tab) (ex:Nat->IR->St->Option (Out×St)):dh:=λf args o own=>
 match T.K f args o own with
 |some r=>some r
 |none=>match T.fn f with
  |none=>none
  |some F=>if args.length=F.params then
    match tO T ex o.length F.body ⟨ix 0 args,o⟩ with
    |some (.norm,st)|some (.ret,st)=>match nV st F.res with
     |some r=>finish own o.length r st.o
     |none=>none
    |_=>none
   else none
def rj (t:Nat):jF->jF
 |[]=>[]
 |p::r=>bif δs p.1 t then rj t r else p::rj t r
def pI (x:Operand) (env:jF):jF:=
 match x with
 | .tmp t=>rj t env
 |_=>env
inductive Md where
 |plain
noncomputable def FN (_:Md) (_:Bool) (call:dh) (k:Nat) (ops:List dC) (kC:List (Nat×Nat)) (st:St):Option St:=pH call k ops kC st
noncomputable def exec (T:Tab):Md->Nat->Nat->IR->St->Option (Out×St)
 |_,0,_,_,_=>none
 |md,n+1,lo,c,st=>
  match c with
  | .skip=>some (.norm,st)
  | .region _ draw k ops kC live pre post=>match FN md draw (qs T (exec T .plain n)) k ops kC (pre.foldl (λs h=>kg lo h s) st) with
   |some st'=>some (.norm,post.foldl (λs h=>kg lo h s) ⟨prune live st'.env,st'.o⟩)
   |none=>none
  | .seq a b=>match exec T md n lo a st with
   |some (.norm,st')=>exec T md n lo b st'
   |r=>r
  | .cond x a b=>match eG st.env x with
   | .sc (.bool true)=>exec T md n lo a ⟨pI x st.env,st.o⟩
   | .sc (.bool false)=>exec T md n lo b ⟨pI x st.env,st.o⟩
   |_=>none
  | .block id b=>match exec T md n lo b st with
   |some (.exit id',st')=>if id'=id then some (.norm,st') else some (.exit id',st')
   |r=>r
  | .loop b=>match exec T md n lo b st with
   |some (.norm,st')=>exec T md n lo (.loop b) (trim st.o.length st')
   |r=>r
  | .exit id=>some (.exit id,st)
  | .ret=>some (.ret,st)
  | .goto l=>some (.goto l,st)
  | .oW x a b=>match eG st.env x with
   | .sc (.bool true)=>exec T md n lo a st
   | .sc (.bool false)=>exec T md n lo b st
   |_=>none
  | .turns l b=>match exec T md n lo b st with
   |some (.goto l',st')=>if l=some l' then exec T md n lo (.turns l b) (trim st.o.length st') else none
   |r=>r
  | .tL .. =>none
def cJ.kD:cJ->List Operand
 | .uZ x| .box _ x| .load _ x| .u7 x| .un _ x| .conv _ x| .vd _ x| .field _ _ x| .len _ x| .extract x _=>[x]
 | .pick c a b=>[c,a,b]
 | .alloc .. | .vg _| .qg .. =>[]
 | .build _ ps=>ps.map (·.2.2)
 | .pF _ _ ps _ _| .tH _ _ ps _ _=>ps.map (·.2)
 | .store _ a x=>[a,x]
 | .bin _ x y| .beq _ x y| .su _ _ x y| .tJ _ x y| .mm _ x y=>[x,y]
 | .ve _ _ x i| .sw _ x i| .idx _ _ _ x i| .wU x i=>[x,i]
 | .qf _ _ _ _ l c _=>[l,c]
 | .slice _ x lo hi| .vf x lo hi=>x::(lo.toList++hi.toList)
 | .slice3 _ x lo hi mx=>x::hi::mx::lo.toList
 | .append _ _ _ s x _=>[s,x]
 | .call _ args _=>args
 | .jU f args _=>f::args
 | .tK _ a b=>a++b
 | .vh _ x=>[x]
 | .oV _ x args=>x::args
 | .lookup _ _ _ _ x k _=>[x,k]
 | .ra _ _ x k v=>[x,k,v]
def cJ.cls:cJ->Nat
 | .uZ _| .pick .. | .build .. | .tH .. | .u7 _| .bin .. | .beq .. | .su .. | .tJ .. | .un .. | .conv .. | .vd .. | .field .. | .ve .. | .idx .. | .wU .. | .vf .. | .vg _
 | .mm .. | .extract .. | .tK .. | .vh .. =>0
 | .load .. | .sw .. | .slice .. | .slice3 .. | .len .. | .lookup .. | .oV .. | .call _ _ false| .jU _ _ false=>1
 | .alloc .. | .box .. | .pF .. | .qf .. | .qg .. | .store .. | .append .. | .ra .. =>2
 | .call _ _ true| .jU _ _ true=>3
def cJ.makes:cJ->Bool
 | .alloc .. | .box .. | .pF .. | .qf .. | .qg .. | .append .. =>true
 |_=>false
def tmpsOf (l:List Operand):List Nat:=l.filterMap λ| .tmp t=>some t|_=>none
def dC.reads (i:dC):List Nat:=
 tmpsOf i.op.kD++(match i.guard with|some (some s,_)=>[s]|_=>[])
def FO (d:Option Nat) (l:List Nat):Bool:=match d with|none=>true|some d=>!l.contains d
def zo (a b:dC):Bool:=
 FO a.dst b.reads&&FO b.dst a.reads&&(match a.dst,b.dst with|some x,some y=>x !=y|_,_=>true)
def wX (a b:dC):Bool:=a.op.cls==0||b.op.cls==0||(a.op.cls==1&&b.op.cls==1)
def BX (a b:dC):Bool:=a.op.cls !=3||b.op.cls !=3
def wY:Nat->List Oper->Bool
 |_,[]=>true
 |i,o::r=>o.after.toList.all (λe=>!Region.binds .any e||decide (e.on<i))&&wY (i+1) r
structure RH where
 id:Nat
 live:List Nat
 perm:List Nat:=[]
 flags:List Nat:=[]
 pre:List kB:=[]
 post:List kB:=[]
def rk (c:TypeId->Option (List Nat)):Nat->List Field->Option (List Nat)
 |_,[]=>some []
 |b,f::d=>if f.name= "_" ∨f.offset≠b then none else match c f.type with
  |some a=>match rk c (b+a.length) d with
   |some r=>some (a++r)
   |none=>none
  |none=>none
def gw (P:Program):Nat->TypeId->Option (List Nat)
 |0,_=>none
 |d+1,t=>match P.underlying t,(P.info? t).map (·.size) with
  |some (.int _),some 1=>some [0]
  |some .bool,some 1=>some [1]
  |some .string,some 1=>some [2]
  |some (.struct b),some n=>if P.stoodInHeld t then none else match rk (gw P d) 0 b.toList with
   |some a=>if a.length=n then some a else none
   |none=>none
  |some (.array k e),some n=>match gw P d e with
   |some a=>if n=k*a.length then some ((δ k a).flatten) else none
   |none=>none
  |_,_=>none
def fJ (P:Program) (t:TypeId):Option Bool:=
 match P.underlying t with
 |some (.struct _)|some (.array _ _)=>some true
 |some _=>some false
 |none=>none
def sizeT (P:Program) (t:TypeId):Option Nat:=(P.info? t).map (·.size)
def wZ (P:Program) (t:TypeId):Option Nat:=(P.info? t).map (·.bytes)
def o5 (P:Program) (t:TypeId):Option (Option Nat):=
 match fJ P t,sizeT P t with
 |some true,some n=>some (some n)
 |some false,some _=>some none
 |_,_=>none
def lO (P:Program) (t:TypeId):Option (List Value):=
 match(P.info? t).bind (·.zero),sizeT P t with
 |some z,some n=>if z.cells.toList.all (·.oneCell')&&z.cells.size==n then some z.cells.toList else none
 |_,_=>none
def zp (P:Program) (t:TypeId) (g:Bool):Bool:=
 match(P.info? t).bind (·.zero) with
 |some (.agg _)=>g
 |some _=>!g
 |none=>false
def BY (P:Program) (name:String) (t:TypeId):Option FuncId:=
 match P.underlying t,P.info? t with
 |some (.struct _),some i=>match i.methods.find? (·.name==name) with
  |some m=>match m.path.toList,m.func with
   |[],some (f,false)=>some f
   |_,_=>none
  |none=>none
 |_,_=>none
def w8 (P:Program) (name:String):Nat->List (TypeId×FuncId)
 |0=>[]
 |t+1=>match BY P name t with
  |some f=>(t,f)::w8 P name t
  |none=>w8 P name t
def Nc (P:Program) (name:String):List (TypeId×FuncId):=w8 P name P.types.size
def rl {d c:Type} (f:d->Option c):List d->Option (List c)
 |[]=>some []
 |a::l=>match f a,rl f l with
  |some b,some r=>some (b::r)
  |_,_=>none
def gX (P:Program) (f:FuncId):Bool:=(P.funcs[f]?).any fun a=>a.body.isSome&&!(a.name== "runtime.NumGoroutine")
def Nh (P:Program) (a:Array Field):Option (List (Nat×Nat)):=a.toList.mapM λf=>(P.info? f.type).map λi=>(f.offset,i.size)
def Ni (a:List (Nat×Nat)) (p:Nat×Operand):Option (Nat×Nat×Operand):=(a[p.1]?).map λq=>(q.1,q.2,p.2)
def pJ (P:Program) (fl:Bool) (o:Oper):Option cJ:=
 match o.op with
 | .move x| .assign x=>some (.uZ x)
 | .pick c a b=>some (.pick c a b)
 | .alloc e=>(lO P e).map λz=> .alloc z e fl
 | .box e x=>some (.box e x)
 | .build t parts=>match lO P t,P.underlying t with
  |some z,some (.struct fields)=>match Nh P fields with
   |some places=>(rl (Ni places) parts.toList).map λps=> .build z ps
   |none=>none
  |some z,some (.array _ e)=>(sizeT P e).map λn=> .build z (parts.toList.map λp=>(p.1*n,n,p.2))
  |_,_=>none
 | .buildSlice t len parts=>match P.underlying t with
  |some (.slice e)=>match lO P e with
   |some z=>if len*z.length<=16777216/\0<z.length then some (if fl then .tH z len (parts.toList.map λp=>(p.1*z.length,p.2)) e z.length else .pF z len (parts.toList.map λp=>(p.1*z.length,p.2)) e z.length) else none
   |none=>none
  |_=>none
 | .load t a=>(o5 P t).map λn=> .load n a
 | .store t a x=>(sizeT P t).map λn=> .store n a x
 | .nilCheck x=>some (.u7 x)
 | .binOp op t x y _=>match op with
  | .eql| .neq=>match P.underlying t with
   |some (.struct _)|some (.array _ _)=>if 20<=P.depth then(gw P 20 t).map λks=> .su (op matches .neq) ks x y else none
   |some .bool=>some (.beq (op matches .neq) x y)
   |some (.int _)|some .string=>some (.bin op x y)
   |some (.pointer _)=>some (.tJ (op matches .neq) x y)
   |_=>none
  |_=>some (.bin op x y)
 | .unOp op _ x=>some (.un op x)
 | .convert s d x=>match P.underlying s,P.underlying d with
  |some _,some (.int k)=>some (.conv k x)
  |_,_=>none
 | .fieldAddr s x f=>match P.underlying s with
  |some (.struct fs)=>match fs[f]? with
   |some g=>match sizeT P g.type with
    |some n=>if n=0 then none else some (.vd g.offset x)
    |none=>none
   |none=>none
  |_=>none
 | .field t x f=>match P.underlying t with
  |some (.struct fs)=>match fs[f]? with
   |some g=>(o5 P g.type).map λn=> .field g.offset n x
   |none=>none
  |_=>none
 | .indexAddr t x i=>match P.underlying t with
  |some (.array len e)=>(sizeT P e).map λn=> .ve len n x i
  |some (.slice e)=>match sizeT P e with
   |some n=>if n=0 then none else some (.sw n x i)
   |none=>none
  |_=>none
 | .index t x i=>match P.underlying t with
  |some (.array len e)=>match sizeT P e,o5 P e with
   |some s,some n=>some (.idx len s n x i)
   |_,_=>none
  |some .string=>some (.wU x i)
  |_=>none
 | .makeSlice t l c=>match P.underlying t with
  |some (.slice e)=>match lO P e,wZ P e with
   |some z,some b=>if 0<z.length then some (.qf z e z.length b l c fl) else none
   |_,_=>none
  |_=>none
 | .slice t x lo hi none=>match P.underlying t with
  |some (.slice e)=>match sizeT P e with
   |some n=>if n=0 then none else some (.slice n x lo hi)
   |none=>none
  |some .string=>some (.vf x lo hi)
  |_=>none
 | .slice t x lo (some hi) (some mx)=>match P.underlying t with
  |some (.slice e)=>match sizeT P e with
   |some n=>if n=0 then none else some (.slice3 n x lo hi mx)
   |none=>none
  |_=>none
 | .call c=>match c.callee with
  | .value (.func f)=>if gX P f then some (.call f c.args.toList fl) else none
  | .value v=>some (.jU v c.args.toList fl)
  | .invoke x name=>if fl then none else some (.oV (Nc P name) x c.args.toList)
  | .builtin .append=>match c.args.toList,c.argTypes.toList with
   |[s,x],[t,t']=>if t=t' then match P.underlying t with
     |some (.slice e)=>match lO P e,wZ P e with
      |some z,some b=>if 0<z.length then some (.append e z.length b s x fl) else none
      |_,_=>none
     |_=>none
    else none
   |_,_=>none
  | .builtin .len=>match c.args.toList,c.argTypes.toList with
   |[x],[t]=>match P.underlying t with
    |some (.slice _)=>some (.len 0 x)
    |some .string=>some (.len 1 x)
    |some (.map _ _)=>some (.len 2 x)
    |some (.array n _)=>some (.vg n)
    |_=>none
   |_,_=>none
  | .builtin .min=>match c.args.toList with
   |[x,y]=>some (.mm false x y)
   |_=>none
  | .builtin .max=>match c.args.toList with
   |[x,y]=>some (.mm true x y)
   |_=>none
  |_=>none
 | .extract x i=>some (.extract x i)
 | .makeFunc f a b=>match f with
  | .func g=>some (.tK (.func g) a.toList b.toList)
  |_=>none
 | .makeInterface t x=>match P.underlying t with
  |some (.struct _)=>some (.vh t x)
  |_=>none
 | .makeMap t none=>match P.underlying t with
  |some (.map kt _)=>match gw P 20 kt,fJ P kt with
    |some ks,some ka=>some (.qg (ks,ka) fl)
    |_,_=>none
  |_=>none
 | .lookup t x k ok=>match P.underlying t with
  |some (.map kt et)=>match gw P 20 kt,fJ P kt,lO P et,fJ P et with
    |some ks,some ka,some z,some g=>if zp P et g then some (.lookup z g ks ka x k ok) else none
    |_,_,_,_=>none
  |_=>none
 | .mapUpdate t m k v| .insert t m k v=>match P.underlying t with
  |some (.map kt _)=>match gw P 20 kt,fJ P kt with
    |some ks,some ka=>some (.ra ks ka m k v)
    |_,_=>none
  |_=>none
 |_=>none
def BZ (a:Nat):Option Nat->Bool
 |none=>true
 |some d=>decide (d<a)
def rm (P:Program) (c:Nat) (fl:List Nat) (a:Array Oper) (bB i:Nat):Option dC:=
 match a[i]? with
 |none=>none
 |some o=>if BZ c o.dst then(pJ P (fl.contains i) o).map λb=>⟨i,bB,o.dst,b,o.guard.map λg=>(((a[g.1]?).bind (·.dst)),g.2)⟩ else none
def vl (P:Program) (b:Nat) (fl:List Nat) (a:Array Oper):Nat->List Nat->Option (List dC×Nat)
 |k,[]=>some ([],k)
 |k,i::r=>match rm P b fl a k i with
  |none=>none
  |some x=>match vl P b fl a (if x.op.makes then k+1 else k) r with
   |none=>none
   |some (l,n)=>some (x::l,n)
def B0 (acc:List Nat) (s:Nat) (e:Edge):Nat:=if Region.binds .any e then s |||(2^e.on |||acc.getD e.on 0) else s
def o6 (b:Array Oper):List Nat:=
 b.toList.foldl (λa o=>a++[o.after.toList.foldl (B0 a) 0]) []
def rq (c:List Nat):List dC->List (Nat×Nat)
 |[]=>[]
 |a::r=>(r.filterMap λb=>if(c.getD b.idx 0).testBit a.idx||wX a b then none else some (a.idx,b.idx))++rq c r
def w9 (c:List Nat):List dC->Bool
 |[]=>true
 |a::r=>r.all (λb=>(c.getD b.idx 0).testBit a.idx||(zo a b&&(wX a b||BX a b)))&&w9 c r
def nodupB:List Nat->Bool
 |[]=>true
 |a::r=>!r.contains a&&nodupB r
def xd (P:Program) (d:Nat) (H:List RH) (id:Nat) (a:Array Oper) (c:Bool):Option IR:=
 match H.find? (·.id==id) with
 |none=>none
 |some h=>
  if c then
   let b:=if h.perm.isEmpty then ω a.size else h.perm;match vl P d h.flags a 0 b with
   |some (l,k)=>if P.follows .mixedOrders&&b.length==a.size&&nodupB b&&w9 (o6 a) l&&wY 0 a.toList&&(ω a.size).all b.contains then some (.region id true k l (rq (o6 a) l) h.live h.pre h.post) else none
   |none=>none
  else(vl P d h.flags a 0 (ω a.size)).map λ(l,k)=> .region id false k l [] h.live h.pre h.post
def B2:Code->Bool
 | .seq a b| .cond _ a b=>B2 a||B2 b
 | .block _ b| .loop b| .scope b=>B2 b
 | .goto _=>true
 |_=>false
def B5:Code->Option Nat
 | .seq (.label l) c=>if B2 c then some l else none
 |_=>none
def Nj (H:List RH):Operand->Bool
 | .tmp t=>match H.find? (·.id==999999) with
  |some h=>h.live.contains t
  |none=>false
 |_=>false
def comp (P:Program) (nt:Nat) (H:List RH):Code->Option IR
 | .skip=>some .skip
 | .region id ops draw=>xd P nt H id ops draw
 | .seq a b=>match comp P nt H a,comp P nt H b with
  |some x,some y=>some (.seq x y)
  |_,_=>none
 | .cond c a b=>match comp P nt H a,comp P nt H b with
  |some x,some y=>some (if Nj H c then .oW c x y else .cond c x y)
  |_,_=>none
 | .block id b=>(comp P nt H b).map (.block id)
 | .loop b=>(comp P nt H b).map .loop
 | .exit id=>some (.exit id)
 | .ret=>some .ret
 | .label _=>some .skip
 | .goto l=>some (.goto l)
 | .scope b=>(comp P nt H b).map λx=> .turns (B5 b) x
 |_=>none
def B6 (h:Array Oper):Option (FuncId×List Operand×Nat):=match h.toList with
 |[f,e]=>match f.dst,f.op,f.guard,e.op,e.dst,e.guard with
  |some d,.makeFunc (.func g) a b,none,.defer c,none,none=>match c.callee with
   | .value (.tmp i)=>if i=d/\a.toList=[]/\c.args.toList=[] then some (g,b.toList,d) else none
   |_=>none
  |_,_,_,_,_,_=>none
 |_=>none
def vm (P:Program) (f:Nat) (H:List RH):Code->Option (IR×(FuncId×List Operand×Nat)×IR)
 | .seq (.region g e d) c=>match B6 e,d with
  |some x,false=>if x.2.2<f/\gX P x.1=true then(comp P f H c).map λb=>(.skip,x,b) else none
  |_,_=>match xd P f H g e d,vm P f H c with
   |some r,some (a,x,b)=>some (.seq r a,x,b)
   |_,_=>none
 |_=>none
def FP (P:Program) (a:Nat) (H:List RH) (c:Code):Option IR:=match comp P a H c with
 |some b=>some b
 |none=>(vm P a H c).map λx=> .tL x.2.1.1 x.2.1.2.1 x.2.1.2.2 x.1 x.2.2
def sC (P:Program):ResultVar->Option ng
 | .tmp t=>some ⟨t,none⟩
 | .cell a t=>(o5 P t).map λn=>⟨a,some n⟩
def B7 (P:Program) (H:List RH) (a:Func):Option fz:=
 match a.body with
 |none=>none
 |some c=>match FP P a.ntmps H c,rl (sC P) a.results.toList with
  |some b,some d=>if a.ntmps<a.params.size+a.nfree then none else some ⟨a.params.size+a.nfree,a.ntmps,b,d⟩
  |_,_=>none
end Go.Vi
