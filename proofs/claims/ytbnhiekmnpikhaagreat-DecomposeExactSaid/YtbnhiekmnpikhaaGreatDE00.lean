import Derived.Orders
import Derived.RowKit3
set_option maxRecDepth 100000
set_option maxHeartbeats 4000000
set_option linter.all false
open BitVec renaming ofInt->γt
open List renaming replicate->δ,range->ω
open Nat renaming beq->δu
namespace Go.Vi
inductive AV where
 |ud
 |sc (v:Value)
 |agg (cs:List AV)
 |Gz (cs:List AV)
 |sl (n:Nat) (cs:List AV)
 |ep (cs:List AV) (bt:Nat)
 |ptr (id bt tot:Nat)
 |os (id bt len tot:Nat)
 |mp (id:Nat)
 |fn (f:Fn) (first captured:List AV)
 |ifc (t:TypeId) (cs:List AV)
 deriving Inhabited
inductive OL where
 |dead
 |cells (cs:List AV) (e:TypeId) (sz:Nat) (pu:Bool)
 |map (es:List (Value×AV)) (kt:List Nat×Bool) (pu:Bool)
 deriving Inhabited
def yu:Value:=.slice none 0 0
def AV.qn:AV->AV
 | .sc (.slice none 0 0)=> .sl 0 []
 |v=>v
def eh (pu:Bool) (cs:List AV):List AV:=if pu then cs.map .qn else cs
def AV.cellsOf:AV->List AV
 | .agg cs=>cs
 |v=>[v]
def AV.one:AV->Bool
 | .agg _| .Gz _| .ud=>false
 | .sc v=>v.oneCell'
 |_=>true
mutual
def AV.pure:AV->Bool
 | .sc _=>true
 | .sl _ cs=>cL cs
 |_=>false
def cL:List AV->Bool
 |[]=>true
 |c::cs=>c.pure&&cL cs
end
mutual
def AV.VI (k:Nat):AV->Bool
 | .ud=>true
 | .sc _=>true
 | .agg cs=>dJ k cs
 | .Gz cs=>dJ k cs
 | .sl _ _=>true
 | .ep _ _=>true
 | .ptr id _ _=>decide (id<k)
 | .os id _ _ _=>decide (id<k)
 | .mp id=>decide (id<k)
 | .fn _ a b=>dJ k a&&dJ k b
 | .ifc _ _=>true
def dJ (k:Nat):List AV->Bool
 |[]=>true
 |c::cs=>c.VI k&&dJ k cs
end
def OL.VI (k:Nat):OL->Bool
 | .dead=>true
 | .cells cs _ _ pu=>pu||dJ k cs
 | .map es _ pu=>pu||dJ k (es.map (·.2))
abbrev a_:=List OL
def OL.lZ:OL->Bool
 | .dead=>true
 |_=>false
def j5 (qE:Nat) (x:OL) (o:a_):Option a_:=
 match o[qE]? with
 |some .dead=>some (o.set qE x)
 |_=>none
abbrev iV:=List (Nat×AV)
def c_:iV->Nat->AV
 |[],_=> .ud
 |p::r,s=>bif δu p.1 s then p.2 else c_ r s
def ny (env:iV) (dst:Option Nat) (v:AV):iV:=
 match dst with
 |none=>env
 |some d=>(d,v)::env
def AV.ta:Value->AV
 | .agg cs=>if cs.toList.all (·.oneCell') then .agg (cs.toList.map .sc) else .ud
 | .tuple _=> .ud
 |v=> .sc v
def dQ (env:iV):Operand->AV
 | .tmp t=>c_ env t
 | .const v=> .ta v
 | .global _=> .ud
 | .func f=> .fn (.func f) [] []
inductive bT where
 |mov (x:Operand)
 |pick (c a b:Operand)
 |alloc (z:List Value) (e:TypeId) (pu:Bool)
 |box (e:TypeId) (x:Operand)
 |build (z:List Value) (parts:List (Nat×Nat×Operand))
 |aoE (z:List Value) (len:Nat) (parts:List (Nat×Operand)) (e:TypeId) (sz:Nat)
 |ard (z:List Value) (len:Nat) (parts:List (Nat×Operand)) (e:TypeId) (sz:Nat)
 |load (n:Option Nat) (a:Operand)
 |store (n:Nat) (a x:Operand)
 |asq (x:Operand)
 |bin (op:BinOp) (x y:Operand)
 |beq (neg:Bool) (x y:Operand)
 |eqf (neg:Bool) (ks:List Nat) (x y:Operand)
 |arf (neg:Bool) (x y:Operand)
 |un (op:UnOp) (x:Operand)
 |conv (k:IntKind) (x:Operand)
 |asr (bt:Nat) (x:Operand)
 |field (bt:Nat) (n:Option Nat) (x:Operand)
 |asu (len sz:Nat) (x i:Operand)
 |aqx (sz:Nat) (x i:Operand)
 |idx (len sz:Nat) (n:Option Nat) (x i:Operand)
 |atG (x i:Operand)
 |ao6 (z:List Value) (e:TypeId) (sz bytes:Nat) (l c:Operand) (pu:Bool)
 |slice (sz:Nat) (x:Operand) (lo hi:Option Operand)
 |slice3 (sz:Nat) (x:Operand) (lo:Option Operand) (hi mx:Operand)
 |asv (x:Operand) (lo hi:Option Operand)
 |append (e:TypeId) (sz bytes:Nat) (s x:Operand) (pu:Bool)
 |len (k:Nat) (x:Operand)
 |asw (n:Nat)
 |mm (mx:Bool) (x y:Operand)
 |call (f:FuncId) (args:List Operand) (own:Bool)
 |ak4 (f:Operand) (args:List Operand) (own:Bool)
 |extract (x:Operand) (i:Nat)
 |arh (f:Fn) (first captured:List Operand)
 |asx (t:TypeId) (x:Operand)
 |aoe (tab:List (TypeId×FuncId)) (x:Operand) (args:List Operand)
 |ao7 (kt:List Nat×Bool) (pu:Bool)
 |lookup (z:List Value) (agg:Bool) (ks:List Nat) (ka:Bool) (x k:Operand) (ok:Bool)
 |apP (ks:List Nat) (ka:Bool) (x k v:Operand)
structure cO where
 idx:Nat
 qE:Nat
 dst:Option Nat
 op:bT
 guard:Option (Option Nat×Bool)
structure iO where
 own:Bool
 slot:Nat
 bt:Option Nat
 e:TypeId
 sz:Nat
 pu:Bool
inductive IR where
 |skip
 |region (id:Nat) (draw:Bool) (k:Nat) (ops:List cO) (chk:List (Nat×Nat)) (live:List Nat) (pre post:List iO)
 |seq (a b:IR)
 |cond (c:Operand) (a b:IR)
 |block (id:Nat) (c:IR)
 |loop (c:IR)
 |exit (id:Nat)
 |ret
 |goto (l:Nat)
 |turns (l:Option Nat) (b:IR)
 |nx (c:Operand) (a b:IR)
 |dfr (g:FuncId) (caps:List Operand) (d:Nat) (a b:IR)
structure St where
 env:iV
 o:a_
def behind (o:a_):AV->Option (List AV×Nat)
 | .ptr id bt tot=>match o[id]? with
  |some (.cells cs _ _ _)=>if cs.length=tot then some (cs,bt) else none
  |_=>none
 | .ep cs bt=>some (cs,bt)
 |_=>none
def fF (cs:List AV) (bt:Nat):Option Nat->Option AV
 |none=>cs[bt]?
 |some n=>if bt+n<=cs.length then some (.agg ((cs.drop bt).take n)) else none
def fy (cs:List AV) (bt:Nat):List AV->List AV
 |[]=>cs
 |v::vs=>fy (cs.set bt v) (bt+1) vs
def dS (l:List AV):Bool:=l.all (·.one)
def ef (k:IntKind) (n:Int):Int:=
 match k with
 | .i64=>if decide (-9223372036854775808<=n)&&decide (n<=9223372036854775807) then n else IntKind.wrap .i64 n
 | .u32=>if decide (0<=n)&&decide (n<=4294967295) then n else IntKind.wrap .u32 n
 | .u64=>if decide (0<=n)&&decide (n<=18446744073709551615) then n else IntKind.wrap .u64 n
 |k=>k.wrap n
def Bu (n:Nat):Int:=Int.ofNat (Nat.pow 2 n)
def kC (op:BinOp) (k:IntKind) (a b:Int):Option Value:=
 match op with
 | .add=>some (.int k (ef k (a+b)))
 | .sub=>some (.int k (ef k (a - b)))
 | .mul=>some (.int k (ef k (a*b)))
 | .quo=>if b=0 then none else some (.int k (ef k (a.tdiv b)))
 | .rem=>if b=0 then none else some (.int k (a.tmod b))
 | .and=>some (.int k (ef k (γt k.bits a &&&γt k.bits b).toNat))
 | .or=>some (.int k (ef k (γt k.bits a |||γt k.bits b).toNat))
 | .xor=>some (.int k (ef k (γt k.bits a ^^^γt k.bits b).toNat))
 | .andNot=>some (.int k (ef k (γt k.bits a &&&~~~(γt k.bits b)).toNat))
 | .eql=>some (.bool (a==b))
 | .neq=>some (.bool (a !=b))
 | .lss=>some (.bool (decide (a<b)))
 | .leq=>some (.bool (decide (a<=b)))
 | .gtr=>some (.bool (decide (b<a)))
 | .geq=>some (.bool (decide (b<=a)))
 |_=>none
def gi (op:BinOp):Value->Value->Option Value
 | .int k a,.int k' b=>
  match op with
  | .shl=>if b<0 then none else some (.int k (ef k (a*Bu (min b.toNat k.bits))))
  | .shr=>if b<0 then none else some (.int k (a.fdiv (Bu (min b.toNat k.bits))))
  |_=>if k=k' then kC op k a b else none
 | .string a,.string b=>match op with
  | .eql=>some (.bool (a.toList==b.toList))
  | .neq=>some (.bool (!(a.toList==b.toList)))
  | .add=>if a.size+b.size<=1000000000 then some (.string (a++b)) else none
  |_=>none
 |_,_=>none
def seq1:Value->Value->Option Bool
 | .int k a,.int k' b=>if k=k' then some (a==b) else none
 | .bool a,.bool b=>some (a==b)
 | .string a,.string b=>some (a.toList==b.toList)
 |_,_=>none
def fe:List Value->List Value->Option Bool
 |[],[]=>some true
 |x::xs,y::ys=>match seq1 x y,fe xs ys with
  |some a,some b=>some (a&&b)
  |_,_=>none
 |_,_=>none
def dO:List Nat->List Value->Bool
 |[],[]=>true
 |0::ks,.int _ _::vs=>dO ks vs
 |1::ks,.bool _::vs=>dO ks vs
 |2::ks,.string _::vs=>dO ks vs
 |_,_=>false
def p8:List AV->Option (List Value)
 |[]=>some []
 | .sc v::r=>(p8 r).map (v::·)
 |_=>none
def um (ks:List Nat) (a b:List AV):Option Bool:=
 match p8 a,p8 b with
 |some x,some y=>if dO ks x&&dO ks y then fe x y else none
 |_,_=>none
def q9 (op:UnOp):AV->Option AV
 | .sc (.bool b)=>match op with| .not=>some (.sc (.bool !b))|_=>none
 | .sc (.int k n)=>match op with| .neg=>some (.sc (.int k (ef k (0 - n))))|_=>none
 |_=>none
def gu:AV->Option Int
 | .sc (.int _ n)=>some n
 |_=>none
def lY (d:Nat):AV->Option AV
 | .ptr id bt tot=>some (.ptr id (bt+d) tot)
 | .ep cs bt=>some (.ep cs (bt+d))
 |_=>none
def lX (o:a_) (sz:Nat):AV->Option (Nat×List AV)
 | .sl n cs=>if cs.length=n*sz then some (n,cs) else none
 | .os id bt len tot=>match o[id]? with
  |some (.cells cs _ sz' _)=>if cs.length=tot/\sz'=sz/\bt+len*sz<=tot then some (len,(cs.drop bt).take (len*sz)) else none
  |_=>none
 | .sc (.slice none 0 0)=>some (0,[])
 |_=>none
def qg (bt tot sz:Nat):Nat:=if Nat.ble bt tot then bt else bt - tot - sz
def o8 (o:a_) (sz:Nat) (x:AV) (i:Int):Option AV:=
 match x with
 | .sl n cs=>if 0<=i/\i<n/\cs.length=n*sz then some (.ep cs (i.toNat*sz)) else none
 | .os id bt len tot=>match o[id]? with
  |some (.cells cs _ sz' _)=>if cs.length=tot/\sz'=sz/\0<=i/\i<len/\qg bt tot sz+len*sz<=tot then some (.ptr id (qg bt tot sz+i.toNat*sz) tot) else none
  |_=>none
 |_=>none
def kB (o:a_):Nat->AV->Option Nat
 |0,.sl n _=>some n
 |0,.os _ _ len _=>some len
 |0,.sc (.slice _ n _)=>some n
 |1,.sc (.string s)=>some s.size
 |2,.mp id=>match o[id]? with
  |some (.map es _ _)=>some es.length
  |_=>none
 |_,_=>none
def o7 (e:TypeId) (sz a:Nat) (pu:Bool) (s x:AV) (o:a_) (qE:Nat):Option (AV×a_):=
 match lX o sz x with
 |none=>none
 |some (m,b)=>
  if dS b=false then none else
  match s with
  | .sc (.slice none 0 0)=>
   if m=0 then some (.sc yu,o)
   else if m*a<=140737488355328/\m<=1000000000000/\(pu=false\/cL b=true) then(j5 qE (.cells b e sz pu) o).map λk=>(.os qE 0 m (m*sz),k) else none
  | .os h 0 c d=>match o[h]? with
   |some (.cells g j i f)=>
    if g.length=d/\j=e/\i=sz/\c*sz=d/\(c+m)*a<=140737488355328/\c+m<=1000000000000/\(f=false\/cL b=true)
    then some (.os h 0 (c+m) (d+m*sz),o.set h (.cells (g++b) e sz f)) else none
   |_=>none
  | .sl n g=>if m=0 then some (.sl n g,o) else none
  |_=>none
def gr (d:Nat):Option AV->Option Nat
 |none=>some d
 |some (.sc (.int _ n))=>if 0<=n then some n.toNat else none
 |_=>none
def oN (o:a_) (sz:Nat) (x:AV) (lo hi:Option AV):Option AV:=
 match x with
 | .sl n cs=>match gr 0 lo,gr n hi with
  |some l,some h=>if l<=h/\h<=n/\cs.length=n*sz then some (.sl (h - l) ((cs.drop (l*sz)).take ((h - l)*sz))) else none
  |_,_=>none
 | .os id bt len tot=>match gr 0 lo,gr len hi with
  |some l,some h=>match o[id]? with
   |some (.cells cs _ sz' _)=>if l<=h/\h<=len/\cs.length=tot/\sz'=sz then some (.os id (bt+l*sz) (h - l) tot) else none
   |_=>none
  |_,_=>none
 | .sc (.slice none 0 0)=>match gr 0 lo,gr 0 hi with
  |some 0,some 0=>some (.sc yu)
  |_,_=>none
 |_=>none
def qG (o:a_) (sz:Nat) (x:AV) (lo:Option AV) (hi mx:AV):Option AV:=
 match x with
 | .sl n cs=>match gr 0 lo,gr n (some hi),gr n (some mx) with
  |some l,some h,some m=>if l<=h/\h<=m/\m<=n/\cs.length=n*sz then some (.sl (h - l) ((cs.drop (l*sz)).take ((h - l)*sz))) else none
  |_,_,_=>none
 | .os id bt len tot=>match gr 0 lo,gr len (some hi),gr len (some mx) with
  |some l,some h,some m=>match o[id]? with
   |some (.cells cs _ sz' _)=>if l<=h/\h<=m/\m<=len/\cs.length=tot/\sz'=sz/\bt+len*sz<=tot/\0<sz then some (.os id (bt+l*sz+(tot+sz)) (h - l) tot) else none
   |_=>none
  |_,_,_=>none
 |_=>none
def oM (ks:List Nat) (ka:Bool):AV->Option Value
 | .sc v=>if !ka&&dO ks [v] then some v else none
 | .agg cs=>match p8 cs with
  |some vs=>if ka&&dO ks vs then some (.agg vs.toArray) else none
  |none=>none
 |_=>none
def lf:Value->Value->Option Bool
 | .agg a,.agg b=>fe a.toList b.toList
 | .agg _,_=>none
 |_,.agg _=>none
 |a,b=>seq1 a b
def lz (k:Value):List (Value×AV)->Nat->Option (Option (Nat×AV))
 |[],_=>some none
 |e::es,i=>match lf k e.1 with
  |some true=>some (some (i,e.2))
  |some false=>lz k es (i+1)
  |none=>none
def pR (z:List Value) (agg:Bool):Option AV:=
 if agg then some (.agg (z.map .sc)) else match z with
  |[v]=>some (.sc v)
  |_=>none
def freeze (o:a_):Nat->AV->Option AV
 |_,.ud=>some .ud
 |_,.sc v=>match v with
  | .slice none 0 0=>some (.sl 0 [])
  |v=>some (.sc v)
 |_,.sl n cs=>some (.sl n cs)
 |_,.ifc t cs=>some (.ifc t cs)
 |d+1,.agg cs=>(cs.mapM (freeze o d)).map .agg
 |d+1,.Gz cs=>(cs.mapM (freeze o d)).map .Gz
 |d+1,.fn f a b=>match a.mapM (freeze o d),b.mapM (freeze o d) with
  |some a',some b'=>some (.fn f a' b')
  |_,_=>none
 |d+1,.os id bt len tot=>match o[id]? with
  |some (.cells cs _ sz pu)=>
   if cs.length=tot/\bt+len*sz<=tot then
    if pu then some (.sl len ((cs.drop bt).take (len*sz)))
    else match((cs.drop bt).take (len*sz)).mapM (freeze o d) with
     |some cs'=>if cL cs' then some (.sl len cs') else none
     |none=>none
   else none
  |_=>none
 |_,_=>none
mutual
def AV.bJ (m:Nat->Option Nat):AV->Option AV
 | .ud=>some .ud
 | .sc v=>some (.sc v)
 | .sl n cs=>some (.sl n cs)
 | .ifc t cs=>some (.ifc t cs)
 | .ep cs bt=>some (.ep cs bt)
 | .agg cs=>(gW m cs).map .agg
 | .Gz cs=>(gW m cs).map .Gz
 | .ptr id bt tot=>(m id).map λi=> .ptr i bt tot
 | .os id bt len tot=>(m id).map λi=> .os i bt len tot
 | .mp id=>(m id).map .mp
 | .fn f a b=>match gW m a,gW m b with
  |some a',some b'=>some (.fn f a' b')
  |_,_=>none
def gW (m:Nat->Option Nat):List AV->Option (List AV)
 |[]=>some []
 |c::cs=>match c.bJ m,gW m cs with
  |some c',some cs'=>some (c'::cs')
  |_,_=>none
end
def nw (m:Nat->Option Nat):List (Value×AV)->Option (List (Value×AV))
 |[]=>some []
 |e::es=>match e.2.bJ m,nw m es with
  |some v,some es'=>some ((e.1,v)::es')
  |_,_=>none
def OL.bJ (m:Nat->Option Nat):OL->Option OL
 | .dead=>some .dead
 | .cells cs e sz pu=>if pu then some (.cells cs e sz pu) else(gW m cs).map λcs'=> .cells cs' e sz pu
 | .map es kt pu=>if pu then some (.map es kt pu) else(nw m es).map λes'=> .map es' kt pu
def idxOf (ids:List Nat) (i:Nat) (k:Nat:=0):Option Nat:=
 match ids with
 |[]=>none
 |j::r=>if j==i then some k else idxOf r i (k+1)
def cd (o:a_):Nat->List AV->List Nat->List Nat
 |0,_,acc=>acc
 |_,[],acc=>acc
 |d+1,v::vs,acc=>
  let visit (id:Nat) (acc:List Nat):List Nat:=
   if acc.contains id then acc else
   match o[id]? with
   |some (.cells cs _ _ pu)=>if pu then acc++[id] else cd o d cs (acc++[id])
   |some (.map es _ pu)=>if pu then acc++[id] else cd o d (es.map (·.2)) (acc++[id])
   |_=>acc++[id];let acc':=match v with
   | .agg cs| .Gz cs=>cd o d cs acc
   | .ptr id _ _| .os id _ _ _| .mp id=>visit id acc
   | .fn _ a b=>cd o d b (cd o d a acc)
   |_=>acc;cd o d vs acc'
def fc:Nat:=400
def j8 (o:a_) (ids:List Nat):List Nat->Option a_
 |[]=>some []
 |i::r=>match o[i]?,j8 o ids r with
  |some x,some l=>(x.bJ (λj=>idxOf ids j)).map (·::l)
  |_,_=>none
def nv (ids:List Nat) (n i:Nat):Option Nat:=
 match ids[i]? with
 |some j=>some j
 |none=>some (n+(i - ids.length))
def qF (m:Nat->Option Nat):a_->Option a_
 |[]=>some []
 |x::r=>match x.bJ m,qF m r with
  |some y,some l=>some (y::l)
  |_,_=>none
def kL (o:a_):List Nat->a_->a_
 |[],_=>o
 |_,[]=>o
 |i::r,x::l=>kL (o.set i x) r l
abbrev cy:=FuncId->List AV->a_->Bool->Option (AV×a_)
def gV (call:cy) (f:FuncId) (args:List AV) (o:a_):Option (AV×a_):=
 let ids:=cd o fc args [];match gW (λj=>idxOf ids j) args,j8 o ids ids with
 |some args',some small=>match call f args' small true with
  |some (r,aGj)=>
   if aGj.length<ids.length\/aoF ids=false then none else
   match r.bJ (nv ids o.length),qF (nv ids o.length) aGj with
   |some r',some iB=>some (r',kL o ids (iB.take ids.length)++iB.drop ids.length)
   |_,_=>none
  |none=>none
 |_,_=>none
where aoF:List Nat->Bool
 |[]=>true
 |a::r=>!r.contains a&&aoF r
mutual
def AV.kg:AV->Bool
 | .ud| .sc _=>true
 | .agg cs| .Gz cs=>s_ cs
 | .sl _ cs=>cs.isEmpty
 |_=>false
def s_:List AV->Bool
 |[]=>true
 |c::cs=>c.kg&&s_ cs
end
def eG (o:a_):Nat->AV->List Nat
 |d+1,.agg cs=>cs.flatMap (eG o d)
 |d+1,.Gz cs=>cs.flatMap (eG o d)
 |d+1,.fn _ a b=>a.flatMap (eG o d)++b.flatMap (eG o d)
 |d+1,.os id bt len _=>id::(match o[id]? with
  |some (.cells cs _ sz pu)=>if pu then[] else((cs.drop bt).take (len*sz)).flatMap (eG o d)
  |_=>[])
 |_,_=>[]
def s9:List (TypeId×FuncId)->TypeId->Option FuncId
 |[],_=>none
 |p::r,t=>bif δu p.1 t then some p.2 else s9 r t
def fV (call:cy) (f:FuncId) (args:List AV) (o:a_) (own:Bool):Option (AV×a_):=
 if own then gV call f args o
 else match args.mapM (freeze o 6) with
  |none=>none
  |some args'=>match call f args' [] false with
   |some (r,[])=>if(args.flatMap (eG o 6)).isEmpty||r.kg then some (r,o) else none
   |_=>none
def kA (parts:List (Nat×Nat×AV)) (cs:List AV):Option (List AV):=
 match parts with
 |[]=>some cs
 |(bt,n,v)::rest=>
  if v.cellsOf.length=n/\dS v.cellsOf=true/\bt+n<=cs.length then kA rest (fy cs bt v.cellsOf) else none
def MO (call:cy) (op:bT) (ρ:Operand->AV) (o:a_) (qE:Nat):Option (AV×a_):=
 match op with
 | .mov x=>some (ρ x,o)
 | .pick c a b=>match ρ c with
  | .sc (.bool true)=>some (ρ a,o)
  | .sc (.bool false)=>some (ρ b,o)
  |_=>none
 | .alloc z e pu=>(j5 qE (.cells (z.map .sc) e z.length pu) o).map λo'=>(.ptr qE 0 z.length,o')
 | .box e x=>if dS (ρ x).cellsOf then(j5 qE (.cells (ρ x).cellsOf e (ρ x).cellsOf.length false) o).map λo'=>(.ptr qE 0 (ρ x).cellsOf.length,o') else none
 | .build z parts=>(kA (parts.map λp=>(p.1,p.2.1,ρ p.2.2)) (z.map .sc)).map λcs=>(.agg cs,o)
 | .aoE z len parts e sz=>
  match kA (parts.map λp=>(p.1,sz,ρ p.2)) ((δ len (z.map AV.sc)).flatten) with
  |some cs=>(j5 qE (.cells (eh (cL cs) cs) e sz (cL cs)) o).map λo'=>(.os qE 0 len (len*sz),o')
  |none=>none
 | .ard z len parts _ sz=>
  match kA (parts.map λp=>(p.1,sz,ρ p.2)) ((δ len (z.map AV.sc)).flatten) with
  |some cs=>if cL cs=true then some (.sl len (eh true cs),o) else none
  |none=>none
 | .load n a=>match behind o (ρ a) with
  |some (cs,bt)=>(fF cs bt n).map (·,o)
  |none=>none
 | .store n a x=>match ρ a with
  | .ptr id bt tot=>match o[id]? with
   |some (.cells cs e sz pu)=>
    let v:=(ρ x).cellsOf;if cs.length=tot/\v.length=n/\dS v=true/\bt+n<=cs.length/\(pu=false\/cL v=true) then some (.ud,o.set id (.cells (fy cs bt (eh pu v)) e sz pu)) else none
   |_=>none
  |_=>none
 | .asq x=>match ρ x with
  | .ptr a b c=>some (.ptr a b c,o)
  | .ep a b=>some (.ep a b,o)
  |_=>none
 | .bin op x y=>match ρ x,ρ y with
  | .sc a,.sc b=>(gi op a b).map λv=>(.sc v,o)
  |_,_=>none
 | .beq neg x y=>match ρ x,ρ y with
  | .sc (.bool a),.sc (.bool b)=>some (.sc (.bool (if neg then !(a==b) else a==b)),o)
  |_,_=>none
 | .eqf neg ks x y=>match ρ x,ρ y with
  | .agg a,.agg b=>(um ks a b).map λr=>(.sc (.bool (if neg then !r else r)),o)
  |_,_=>none
 | .arf neg x y=>match ρ x,ρ y with
  | .ptr _ _ _,.sc (.pointer none)=>some (.sc (.bool neg),o)
  | .sc (.pointer none),.sc (.pointer none)=>some (.sc (.bool !neg),o)
  |_,_=>none
 | .un op x=>(q9 op (ρ x)).map (·,o)
 | .conv k x=>match ρ x with
  | .sc (.int _ n)=>some (.sc (.int k (ef k n)),o)
  |_=>none
 | .asr bt x=>(lY bt (ρ x)).map (·,o)
 | .field bt n x=>match ρ x with
  | .agg cs=>(fF cs bt n).map (·,o)
  |_=>none
 | .asu len sz x i=>match gu (ρ i) with
  |some n=>if 0<=n/\n<len then(lY (n.toNat*sz) (ρ x)).map (·,o) else none
  |none=>none
 | .aqx sz x i=>match gu (ρ i) with
  |some n=>(o8 o sz (ρ x) n).map (·,o)
  |none=>none
 | .idx len sz n x i=>match gu (ρ i),ρ x with
  |some k,.agg cs=>if 0<=k/\k<len then(fF cs (k.toNat*sz) n).map (·,o) else none
  |_,_=>none
 | .atG x i=>match gu (ρ i),ρ x with
  |some k,.sc (.string s)=>if 0<=k then(s[k.toNat]?).map λb=>(.sc (.int .u8 b.toNat),o) else none
  |_,_=>none
 | .ao6 z e sz bytes l c pu=>match gu (ρ l),gu (ρ c) with
  |some n,some m=>if 0<=n/\n<=m/\m*bytes<=140737488355328/\m<=1000000000000 then
    (j5 qE (.cells ((δ n.toNat (eh pu (z.map AV.sc))).flatten) e sz pu) o).map λo'=>(.os qE 0 n.toNat (n.toNat*sz),o') else none
  |_,_=>none
 | .slice sz x lo hi=>(oN o sz (ρ x) (lo.map ρ) (hi.map ρ)).map (·,o)
 | .slice3 sz x lo hi mx=>(qG o sz (ρ x) (lo.map ρ) (ρ hi) (ρ mx)).map (·,o)
 | .asv x lo hi=>match ρ x with
  | .sc (.string s)=>match gr 0 (lo.map ρ),gr s.size (hi.map ρ) with
   |some l,some h=>if l<=h/\h<=s.size then some (.sc (.string (s.extract l h)),o) else none
   |_,_=>none
  |_=>none
 | .append e sz bytes s x pu=>o7 e sz bytes pu (ρ s) (ρ x) o qE
 | .len k x=>(kB o k (ρ x)).map λ(n:Nat)=>(.sc (.int .i64 n),o)
 | .asw n=>some (.sc (.int .i64 n),o)
 | .mm mx x y=>match ρ x,ρ y with
  | .sc (.int k a),.sc (.int k' b)=>if k=k' then some (.sc (.int k (if mx then(if b>a then b else a) else(if b<a then b else a))),o) else none
  |_,_=>none
 | .call f args own=>fV call f (args.map ρ) o own
 | .ak4 f args own=>match ρ f with
  | .fn (.func g) first captured=>fV call g (first++args.map ρ++captured) o own
  |_=>none
 | .extract x i=>match ρ x with
  | .Gz vs=>(vs[i]?).map (·,o)
  |_=>none
 | .arh f first captured=>some (.fn f (first.map ρ) (captured.map ρ),o)
 | .asx t x=>match ρ x with
  | .agg cs=>if cL cs=true then some (.ifc t cs,o) else none
  |_=>none
 | .aoe tab x args=>match ρ x with
  | .ifc t cs=>match s9 tab t with
   |some f=>fV call f (.agg cs::args.map ρ) o false
   |none=>none
  |_=>none
 | .ao7 kt pu=>(j5 qE (.map [] kt pu) o).map λo'=>(.mp qE,o')
 | .lookup z agg ks ka x k ok=>match ρ x,oM ks ka (ρ k) with
  | .mp id,some kv=>match o[id]? with
   |some (.map es kt _)=>if kt=(ks,ka) then match lz kv es 0,pR z agg with
    |some (some (_,v)),_=>some (if ok then .Gz [v,.sc (.bool true)] else v,o)
    |some none,some v=>some (if ok then .Gz [v,.sc (.bool false)] else v,o)
    |_,_=>none
    else none
   |_=>none
  |_,_=>none
 | .apP ks ka x k v=>match ρ x,oM ks ka (ρ k) with
  | .mp id,some kv=>match o[id]? with
   |some (.map es kt pu)=>
    if(pu=true/\(ρ v).pure=false)\/kt≠(ks,ka) then none else
    match lz kv es 0 with
    |some (some (i,_))=>some (.ud,o.set id (.map (es.modify i λ_=>(kv,ρ v)) kt pu))
    |some none=>some (.ud,o.set id (.map (es++[(kv,ρ v)]) kt pu))
    |none=>none
   |_=>none
  |_,_=>none
def aNA (x:Operand) (_call:cy) (ρ:Operand->AV) (o:a_) (_nid:Nat):Option (AV×a_):=some (ρ x,o)
def aNB (c:Operand) (a:Operand) (b:Operand) (_call:cy) (ρ:Operand->AV) (o:a_) (_nid:Nat):Option (AV×a_):=match ρ c with
  | .sc (.bool true)=>some (ρ a,o)
  | .sc (.bool false)=>some (ρ b,o)
  |_=>none
def aNC (z:List Value) (e:TypeId) (pu:Bool) (_call:cy) (_ρ:Operand->AV) (o:a_) (qE:Nat):Option (AV×a_):=(j5 qE (.cells (z.map .sc) e z.length pu) o).map λo'=>(.ptr qE 0 z.length,o')
def aND (e:TypeId) (x:Operand) (_call:cy) (ρ:Operand->AV) (o:a_) (qE:Nat):Option (AV×a_):=if dS (ρ x).cellsOf then(j5 qE (.cells (ρ x).cellsOf e (ρ x).cellsOf.length false) o).map λo'=>(.ptr qE 0 (ρ x).cellsOf.length,o') else none
def aNE (z:List Value) (parts:List (Nat×Nat×Operand)) (_call:cy) (ρ:Operand->AV) (o:a_) (_nid:Nat):Option (AV×a_):=(kA (parts.map λp=>(p.1,p.2.1,ρ p.2.2)) (z.map .sc)).map λcs=>(.agg cs,o)
def aNF (z:List Value) (len:Nat) (parts:List (Nat×Operand)) (e:TypeId) (sz:Nat) (_call:cy) (ρ:Operand->AV) (o:a_) (qE:Nat):Option (AV×a_):=
  match kA (parts.map λp=>(p.1,sz,ρ p.2)) ((δ len (z.map AV.sc)).flatten) with
  |some cs=>(j5 qE (.cells (eh (cL cs) cs) e sz (cL cs)) o).map λo'=>(.os qE 0 len (len*sz),o')
  |none=>none
def aNG (z:List Value) (len:Nat) (parts:List (Nat×Operand)) (_a3:TypeId) (sz:Nat) (_call:cy) (ρ:Operand->AV) (o:a_) (_nid:Nat):Option (AV×a_):=
  match kA (parts.map λp=>(p.1,sz,ρ p.2)) ((δ len (z.map AV.sc)).flatten) with
  |some cs=>if cL cs=true then some (.sl len (eh true cs),o) else none
  |none=>none
def aNH (n:Option Nat) (a:Operand) (_call:cy) (ρ:Operand->AV) (o:a_) (_nid:Nat):Option (AV×a_):=match behind o (ρ a) with
  |some (cs,bt)=>(fF cs bt n).map (·,o)
  |none=>none
def aNI (n:Nat) (a:Operand) (x:Operand) (_call:cy) (ρ:Operand->AV) (o:a_) (_nid:Nat):Option (AV×a_):=match ρ a with
  | .ptr id bt tot=>match o[id]? with
   |some (.cells cs e sz pu)=>
    let v:=(ρ x).cellsOf;if cs.length=tot/\v.length=n/\dS v=true/\bt+n<=cs.length/\(pu=false\/cL v=true) then some (.ud,o.set id (.cells (fy cs bt (eh pu v)) e sz pu)) else none
   |_=>none
  |_=>none
def aNJ (x:Operand) (_call:cy) (ρ:Operand->AV) (o:a_) (_nid:Nat):Option (AV×a_):=match ρ x with
  | .ptr a b c=>some (.ptr a b c,o)
  | .ep a b=>some (.ep a b,o)
  |_=>none
def aNK (op:BinOp) (x:Operand) (y:Operand) (_call:cy) (ρ:Operand->AV) (o:a_) (_nid:Nat):Option (AV×a_):=match ρ x,ρ y with
  | .sc a,.sc b=>(gi op a b).map λv=>(.sc v,o)
  |_,_=>none
def aNL (neg:Bool) (x:Operand) (y:Operand) (_call:cy) (ρ:Operand->AV) (o:a_) (_nid:Nat):Option (AV×a_):=match ρ x,ρ y with
  | .sc (.bool a),.sc (.bool b)=>some (.sc (.bool (if neg then !(a==b) else a==b)),o)
  |_,_=>none
def aNM (neg:Bool) (ks:List Nat) (x:Operand) (y:Operand) (_call:cy) (ρ:Operand->AV) (o:a_) (_nid:Nat):Option (AV×a_):=match ρ x,ρ y with
  | .agg a,.agg b=>(um ks a b).map λr=>(.sc (.bool (if neg then !r else r)),o)
  |_,_=>none
def aNN (neg:Bool) (x:Operand) (y:Operand) (_call:cy) (ρ:Operand->AV) (o:a_) (_nid:Nat):Option (AV×a_):=match ρ x,ρ y with
  | .ptr _ _ _,.sc (.pointer none)=>some (.sc (.bool neg),o)
  | .sc (.pointer none),.sc (.pointer none)=>some (.sc (.bool !neg),o)
  |_,_=>none
def aNO (op:UnOp) (x:Operand) (_call:cy) (ρ:Operand->AV) (o:a_) (_nid:Nat):Option (AV×a_):=(q9 op (ρ x)).map (·,o)
def aNP (k:IntKind) (x:Operand) (_call:cy) (ρ:Operand->AV) (o:a_) (_nid:Nat):Option (AV×a_):=match ρ x with
  | .sc (.int _ n)=>some (.sc (.int k (ef k n)),o)
  |_=>none
def aNQ (bt:Nat) (x:Operand) (_call:cy) (ρ:Operand->AV) (o:a_) (_nid:Nat):Option (AV×a_):=(lY bt (ρ x)).map (·,o)
def aNR (bt:Nat) (n:Option Nat) (x:Operand) (_call:cy) (ρ:Operand->AV) (o:a_) (_nid:Nat):Option (AV×a_):=match ρ x with
  | .agg cs=>(fF cs bt n).map (·,o)
  |_=>none
def aNS (len:Nat) (sz:Nat) (x:Operand) (i:Operand) (_call:cy) (ρ:Operand->AV) (o:a_) (_nid:Nat):Option (AV×a_):=match gu (ρ i) with
  |some n=>if 0<=n/\n<len then(lY (n.toNat*sz) (ρ x)).map (·,o) else none
  |none=>none
def aNT (sz:Nat) (x:Operand) (i:Operand) (_call:cy) (ρ:Operand->AV) (o:a_) (_nid:Nat):Option (AV×a_):=match gu (ρ i) with
  |some n=>(o8 o sz (ρ x) n).map (·,o)
  |none=>none
def Z_ (len:Nat) (sz:Nat) (n:Option Nat) (x:Operand) (i:Operand) (_call:cy) (ρ:Operand->AV) (o:a_) (_nid:Nat):Option (AV×a_):=match gu (ρ i),ρ x with
  |some k,.agg cs=>if 0<=k/\k<len then(fF cs (k.toNat*sz) n).map (·,o) else none
  |_,_=>none
def Z9 (x:Operand) (i:Operand) (_call:cy) (ρ:Operand->AV) (o:a_) (_nid:Nat):Option (AV×a_):=match gu (ρ i),ρ x with
  |some k,.sc (.string s)=>if 0<=k then(s[k.toNat]?).map λb=>(.sc (.int .u8 b.toNat),o) else none
  |_,_=>none
def Z8 (z:List Value) (e:TypeId) (sz:Nat) (a:Nat) (l:Operand) (c:Operand) (pu:Bool) (b:cy) (ρ:Operand->AV) (o:a_) (qE:Nat):Option (AV×a_):=match gu (ρ l),gu (ρ c) with
  |some n,some m=>if 0<=n/\n<=m/\m*a<=140737488355328/\m<=1000000000000 then
    (j5 qE (.cells ((δ n.toNat (eh pu (z.map AV.sc))).flatten) e sz pu) o).map λd=>(.os qE 0 n.toNat (n.toNat*sz),d) else none
  |_,_=>none
def Z7 (sz:Nat) (x:Operand) (lo:Option Operand) (hi:Option Operand) (_call:cy) (ρ:Operand->AV) (o:a_) (_nid:Nat):Option (AV×a_):=(oN o sz (ρ x) (lo.map ρ) (hi.map ρ)).map (·,o)
def Z6 (sz:Nat) (x:Operand) (lo:Option Operand) (hi:Operand) (mx:Operand) (_call:cy) (ρ:Operand->AV) (o:a_) (_nid:Nat):Option (AV×a_):=(qG o sz (ρ x) (lo.map ρ) (ρ hi) (ρ mx)).map (·,o)
def Z5 (x:Operand) (lo:Option Operand) (hi:Option Operand) (_call:cy) (ρ:Operand->AV) (o:a_) (_nid:Nat):Option (AV×a_):=match ρ x with
  | .sc (.string s)=>match gr 0 (lo.map ρ),gr s.size (hi.map ρ) with
   |some l,some h=>if l<=h/\h<=s.size then some (.sc (.string (s.extract l h)),o) else none
   |_,_=>none
  |_=>none
def aN0 (e:TypeId) (sz:Nat) (a:Nat) (s:Operand) (x:Operand) (pu:Bool) (b:cy) (ρ:Operand->AV) (o:a_) (qE:Nat):Option (AV×a_):=o7 e sz a pu (ρ s) (ρ x) o qE
def aN1 (k:Nat) (x:Operand) (_call:cy) (ρ:Operand->AV) (o:a_) (_nid:Nat):Option (AV×a_):=(kB o k (ρ x)).map λ(n:Nat)=>(.sc (.int .i64 n),o)
def aN2 (n:Nat) (_call:cy) (_ρ:Operand->AV) (o:a_) (_nid:Nat):Option (AV×a_):=some (.sc (.int .i64 n),o)
def aN3 (mx:Bool) (x:Operand) (y:Operand) (_call:cy) (ρ:Operand->AV) (o:a_) (_nid:Nat):Option (AV×a_):=match ρ x,ρ y with
  | .sc (.int k a),.sc (.int k' b)=>if k=k' then some (.sc (.int k (if mx then(if b>a then b else a) else(if b<a then b else a))),o) else none
  |_,_=>none
def aN4 (f:FuncId) (args:List Operand) (own:Bool) (call:cy) (ρ:Operand->AV) (o:a_) (_nid:Nat):Option (AV×a_):=fV call f (args.map ρ) o own
def Pz (f:Operand) (args:List Operand) (own:Bool) (call:cy) (ρ:Operand->AV) (o:a_) (_nid:Nat):Option (AV×a_):=match ρ f with
  | .fn (.func g) first captured=>fV call g (first++args.map ρ++captured) o own
  |_=>none
def aN5 (x:Operand) (i:Nat) (_call:cy) (ρ:Operand->AV) (o:a_) (_nid:Nat):Option (AV×a_):=match ρ x with
  | .Gz vs=>(vs[i]?).map (·,o)
  |_=>none
def aN6 (f:Fn) (first:List Operand) (captured:List Operand) (_call:cy) (ρ:Operand->AV) (o:a_) (_nid:Nat):Option (AV×a_):=some (.fn f (first.map ρ) (captured.map ρ),o)
def aN7 (t:TypeId) (x:Operand) (_call:cy) (ρ:Operand->AV) (o:a_) (_nid:Nat):Option (AV×a_):=match ρ x with
  | .agg cs=>if cL cs=true then some (.ifc t cs,o) else none
  |_=>none
def Py (tab:List (TypeId×FuncId)) (x:Operand) (args:List Operand) (call:cy) (ρ:Operand->AV) (o:a_) (_nid:Nat):Option (AV×a_):=match ρ x with
  | .ifc t cs=>match s9 tab t with
   |some f=>fV call f (.agg cs::args.map ρ) o false
   |none=>none
  |_=>none
def aN8 (kt:List Nat×Bool) (pu:Bool) (_call:cy) (_ρ:Operand->AV) (o:a_) (qE:Nat):Option (AV×a_):=(j5 qE (.map [] kt pu) o).map λo'=>(.mp qE,o')
def aN9 (z:List Value) (agg:Bool) (ks:List Nat) (ka:Bool) (x:Operand) (k:Operand) (ok:Bool) (_call:cy) (ρ:Operand->AV) (o:a_) (_nid:Nat):Option (AV×a_):=match ρ x,oM ks ka (ρ k) with
  | .mp id,some kv=>match o[id]? with
   |some (.map es kt _)=>if kt=(ks,ka) then match lz kv es 0,pR z agg with
    |some (some (_,v)),_=>some (if ok then .Gz [v,.sc (.bool true)] else v,o)
    |some none,some v=>some (if ok then .Gz [v,.sc (.bool false)] else v,o)
    |_,_=>none
    else none
   |_=>none
  |_,_=>none
def Zw (ks:List Nat) (ka:Bool) (x:Operand) (k:Operand) (v:Operand) (_call:cy) (ρ:Operand->AV) (o:a_) (_nid:Nat):Option (AV×a_):=match ρ x,oM ks ka (ρ k) with
  | .mp id,some kv=>match o[id]? with
   |some (.map es kt pu)=>
    if(pu=true/\(ρ v).pure=false)\/kt≠(ks,ka) then none else
    match lz kv es 0 with
    |some (some (i,_))=>some (.ud,o.set id (.map (es.modify i λ_=>(kv,ρ v)) kt pu))
    |some none=>some (.ud,o.set id (.map (es++[(kv,ρ v)]) kt pu))
    |none=>none
   |_=>none
  |_,_=>none
def Ho (op:bT):cy->(Operand->AV)->a_->Nat->Option (AV×a_):=
 match op with
 | .mov x=>aNA x
 | .pick c a b=>aNB c a b
 | .alloc z e pu=>aNC z e pu
 | .box e x=>aND e x
 | .build z parts=>aNE z parts
 | .aoE z len parts e sz=>aNF z len parts e sz
 | .ard z len parts a3 sz=>aNG z len parts a3 sz
 | .load n a=>aNH n a
 | .store n a x=>aNI n a x
 | .asq x=>aNJ x
 | .bin op x y=>aNK op x y
 | .beq neg x y=>aNL neg x y
 | .eqf neg ks x y=>aNM neg ks x y
 | .arf neg x y=>aNN neg x y
 | .un op x=>aNO op x
 | .conv k x=>aNP k x
 | .asr bt x=>aNQ bt x
 | .field bt n x=>aNR bt n x
 | .asu len sz x i=>aNS len sz x i
 | .aqx sz x i=>aNT sz x i
 | .idx len sz n x i=>Z_ len sz n x i
 | .atG x i=>Z9 x i
 | .ao6 z e sz bytes l c pu=>Z8 z e sz bytes l c pu
 | .slice sz x lo hi=>Z7 sz x lo hi
 | .slice3 sz x lo hi mx=>Z6 sz x lo hi mx
 | .asv x lo hi=>Z5 x lo hi
 | .append e sz bytes s x pu=>aN0 e sz bytes s x pu
 | .len k x=>aN1 k x
 | .asw n=>aN2 n
 | .mm mx x y=>aN3 mx x y
 | .call f args own=>aN4 f args own
 | .ak4 f args own=>Pz f args own
 | .extract x i=>aN5 x i
 | .arh f first captured=>aN6 f first captured
 | .asx t x=>aN7 t x
 | .aoe tab x args=>Py tab x args
 | .ao7 kt pu=>aN8 kt pu
 | .lookup z agg ks ka x k ok=>aN9 z agg ks ka x k ok
 | .apP ks ka x k v=>Zw ks ka x k v
def qc (call:cy) (op:bT) (ρ:Operand->AV) (o:a_) (qE:Nat):Option (AV×a_):=Ho op call ρ o qE
theorem yt (call:cy) (a:bT) (ρ:Operand->AV) (o:a_) (qE:Nat):qc call a ρ o qE=MO call a ρ o qE:=by
 cases a<;>rfl
def lv (env:iV) (g:Option (Option Nat×Bool)):Option Bool:=
 match g with
 |none=>some true
 |some (none,_)=>none
 |some (some s,b)=>match c_ env s with
  | .sc (.bool c)=>some (c==b)
  | .Gz []=>some false
  |_=>none
def gq (call:cy) (base:Nat) (i:cO) (st:St):Option St:=
 match lv st.env i.guard with
 |none=>none
 |some false=>some ⟨ny st.env i.dst (.Gz []),st.o⟩
 |some true=>match qc call i.op (dQ st.env) st.o (base+i.qE) with
  |some (v,o')=>some ⟨ny st.env i.dst v,o'⟩
  |none=>none
def fw (call:cy) (base:Nat):List cO->St->Option St
 |[],st=>some st
 |i::r,st=>match gq call base i st with
  |some st'=>fw call base r st'
  |none=>none
def eE:AV->List Nat
 | .ptr id _ _=>[id]
 | .os id _ _ _=>[id]
 | .mp id=>[id]
 |_=>[]
def dm (op:bT) (ρ:Operand->AV) (o:a_) (qE:Nat):List Nat:=
 match op with
 | .load _ a=>eE (ρ a)
 | .aqx _ x _=>eE (ρ x)
 | .slice _ x _ _=>eE (ρ x)
 | .slice3 _ x _ _ _=>eE (ρ x)
 | .len _ x=>eE (ρ x)
 | .lookup _ _ _ _ x _ _=>eE (ρ x)
 | .call _ args false=>(args.map ρ).flatMap (eG o 6)
 | .ak4 f args false=>match ρ f with
  | .fn _ first captured=>(first++args.map ρ++captured).flatMap (eG o 6)
  |_=>[]
 | .call _ args true=>cd o fc (args.map ρ) []
 | .ak4 f args true=>match ρ f with
  | .fn _ first captured=>cd o fc (first++args.map ρ++captured) []
  |_=>[]
 | .aoe _ x args=>match ρ x with
  | .ifc _ cs=>(.agg cs::args.map ρ).flatMap (eG o 6)
  |_=>[]
 | .alloc .. | .box .. | .aoE .. | .ao6 .. | .ao7 .. =>[qE]
 | .store _ a _=>eE (ρ a)
 | .append _ _ _ s x _=>qE::(eE (ρ s)++eE (ρ x))
 | .apP _ _ x _ _=>eE (ρ x)
 |_=>[]
def fj (op:bT) (ρ:Operand->AV) (o:a_) (qE:Nat):List Nat:=
 match op with
 | .alloc .. | .box .. | .aoE .. | .ao6 .. | .ao7 .. =>[qE]
 | .store _ a _=>eE (ρ a)
 | .append _ _ _ s _ _=>qE::eE (ρ s)
 | .call _ args true=>cd o fc (args.map ρ) []
 | .ak4 f args true=>match ρ f with
  | .fn _ first captured=>cd o fc (first++args.map ρ++captured) []
  |_=>[]
 | .apP _ _ x _ _=>eE (ρ x)
 |_=>[]
open Classical in
noncomputable def dN (call:cy) (op:bT) (ρ:Operand->AV) (o:a_) (qE:Nat):List Nat:=
 match op with
 | .call f args true=>match gV call f (args.map ρ) o with
  |some (_,o')=>(cd o fc (args.map ρ) []).filter λj=>decide (o'[j]?≠o[j]?)
  |none=>[]
 |op=>fj op ρ o qE
abbrev Trace:=List (Nat×List Nat×List Nat)
noncomputable def lu (call:cy) (base:Nat):List cO->St->Trace
 |[],_=>[]
 |i::r,st=>(match lv st.env i.guard with
   |some true=>(i.idx,dm i.op (dQ st.env) st.o (base+i.qE),dN call i.op (dQ st.env) st.o (base+i.qE))
   |_=>(i.idx,[],[]))::match gq call base i st with
  |some st'=>lu call base r st'
  |none=>[]
def wv (a b:List Nat):Bool:=a.all λx=>!b.contains x
def oL (tr:Trace) (i:Nat):List Nat×List Nat:=
 match tr with
 |[]=>([],[])
 |(j,x)::r=>if j==i then x else oL r i
def rz (n:Nat) (tr:Trace) (chk:List (Nat×Nat)):Bool:=
 chk.all λp=>let a:=oL tr p.1;let b:=oL tr p.2;wv a.2 b.1&&wv b.2 a.1&&a.1.all (λi=>decide (i<n))&&b.1.all (λi=>decide (i<n))
def fu (k:Nat):a_:=δ k .dead
def pQ (base:Nat) (o:a_):a_:=if(o.drop base).all (·.lZ) then o.take base else o
noncomputable def n_ (call:cy) (k:Nat) (ops:List cO) (chk:List (Nat×Nat)) (st:St):Option St:=
 let st0:St:=⟨st.env,st.o++fu k⟩;match fw call st.o.length ops st0 with
 |some st'=>if chk.isEmpty||rz st0.o.length (lu call st.o.length ops st0) chk then some ⟨st'.env,if k=0 then st'.o else pQ st.o.length st'.o⟩ else none
 |none=>none
mutual
def AV.Q5 (o:a_) (p:Nat->Bool):AV->Option AV
 | .os id bt len tot=>if p id then match o[id]? with
   |some (.cells cs _ sz pu)=>if pu then(if cs.length=tot/\bt+len*sz<=tot then some (.sl len ((cs.drop bt).take (len*sz))) else none) else some (.os id bt len tot)
   |_=>some (.os id bt len tot)
  else some (.os id bt len tot)
 | .ptr id bt tot=>if p id then match o[id]? with
   |some (.cells _ _ _ pu)=>if pu then none else some (.ptr id bt tot)
   |_=>some (.ptr id bt tot)
  else some (.ptr id bt tot)
 | .agg cs=>(gh o p cs).map .agg
 | .Gz cs=>(gh o p cs).map .Gz
 | .fn f a b=>match gh o p a,gh o p b with
  |some a',some b'=>some (.fn f a' b')
  |_,_=>none
 |v=>some v
def gh (o:a_) (p:Nat->Bool):List AV->Option (List AV)
 |[]=>some []
 |c::cs=>match c.Q5 o p,gh o p cs with
  |some c',some cs'=>some (c'::cs')
  |_,_=>none
end
def oK (o:a_) (p:Nat->Bool):List (Value×AV)->Option (List (Value×AV))
 |[]=>some []
 |e::es=>match e.2.Q5 o p,oK o p es with
  |some v,some es'=>some ((e.1,v)::es')
  |_,_=>none
def OL.Q5 (o:a_) (p:Nat->Bool):OL->Option OL
 | .dead=>some .dead
 | .cells cs e sz pu=>if pu then some (.cells cs e sz pu) else(gh o p cs).map λcs'=> .cells cs' e sz pu
 | .map es kt pu=>if pu then some (.map es kt pu) else(oK o p es).map λes'=> .map es' kt pu
def iU (o:a_) (p:Nat->Bool):a_->Option a_
 |[]=>some []
 |x::r=>match x.Q5 o p,iU o p r with
  |some y,some l=>some (y::l)
  |_,_=>none
def e_ (p:Nat->Bool):Nat->a_->a_
 |_,[]=>[]
 |i,x::r=>(match x with
  | .cells cs e sz true=>if p i then .dead else .cells cs e sz true
  |x=>x)::e_ p (i+1) r
def tG (o:a_) (p:Nat->Bool):iV->Option iV
 |[]=>some []
 |(k,v)::r=>match v.Q5 o p,tG o p r with
  |some v',some r'=>some ((k,v')::r')
  |_,_=>none
def Bt (h:iO) (st:St):Option AV:=
 match h.bt with
 |none=>some (c_ st.env h.slot)
 |some k=>match behind st.o (c_ st.env h.slot) with
  |some (cs,bt)=>cs[bt+k]?
  |none=>none
def Bs (id:Nat) (st:St):St:=
 match st.o[id]? with
 |some (.cells cs e sz true)=>⟨st.env,st.o.set id (.cells cs e sz false)⟩
 |_=>st
def Br (h:iO) (st:St):St:=
 match h.bt with
 |none=>match c_ st.env h.slot with
  | .sc (.slice none 0 0)=>⟨(h.slot,.os st.o.length 0 0 0)::st.env,st.o++[.cells [] h.e h.sz h.pu]⟩
  | .os id _ _ _=>if h.sz=0 then Bs id st else st
  |_=>st
 |some k=>match c_ st.env h.slot with
  | .ptr id bt tot=>match st.o[id]? with
   |some (.cells cs e sz pu)=>match cs[bt+k]? with
    |some (.sc (.slice none 0 0))=>
     if cs.length=tot/\pu=false then⟨st.env,(st.o.set id (.cells (cs.set (bt+k) (.os st.o.length 0 0 0)) e sz pu))++[.cells [] h.e h.sz h.pu]⟩ else st
    |_=>st
   |_=>st
  |_=>st
def Bq (id:Nat) (st:St):St:=
 let p:Nat->Bool:=λi=>i==id;match tG st.o p st.env,iU st.o p st.o with
 |some env,some o=>⟨env,e_ p 0 o⟩
 |_,_=>st
def yr (id:Nat) (st:St):St:=
 match st.o[id]? with
 |some (.cells cs e sz false)=>if cL cs then⟨st.env,st.o.set id (.cells cs e sz true)⟩ else st
 |_=>st
def jF (lo:Nat) (h:iO) (st:St):St:=
 if h.own then Br h st
 else match Bt h st with
  |some (.os id _ _ _)=>if Nat.ble lo id then Bq id (yr id st) else st
  |_=>st
def eL (live:List Nat) (env:iV):iV:=live.map λs=>(s,c_ env s)
inductive Out where
 |norm
 |exit (id:Nat)
 |ret
 |goto (l:Nat)
 deriving DecidableEq
def trim (k:Nat) (st:St):St:=
 if st.o.length<=k then st
 else if(st.env.all λp=>p.2.VI k)&&((st.o.take k).all λx=>x.VI k) then⟨st.env,st.o.take k⟩ else st
structure lW where
 slot:Nat
 cell:Option (Option Nat)
structure eu where
 params:Nat
 ntmps:Nat
 body:IR
 res:List lW
def pP (st:St) (r:lW):Option AV:=
 match r.cell with
 |none=>some (c_ st.env r.slot)
 |some n=>match behind st.o (c_ st.env r.slot) with
  |some (cs,bt)=>fF cs bt n
  |none=>none
def mL (st:St) (rs:List lW):Option AV:=
 match rs.mapM (pP st) with
 |some [v]=>some v
 |some vs=>some (.Gz vs)
 |none=>none
def kK (k:Nat) (r:AV) (o:a_):Option (AV×a_):=
 match r.Q5 o (λi=>decide (k<=i)),iU o (λi=>decide (k<=i)) o with
 |some r1,some o1=>
  let o2:=e_ (λi=>decide (k<=i)) 0 o1;let ids:=cd o2 fc (r1::(o2.take k).flatMap OL.avs) (ω k);if gV.aoF ids then
   match r1.bJ (λj=>idxOf ids j),j8 o2 ids ids with
   |some r2,some s2=>some (r2,s2)
   |_,_=>none
  else none
 |_,_=>none
where OL.avs:OL->List AV
 | .cells cs _ _ pu=>if pu then[] else cs
 | .map es _ pu=>if pu then[] else es.map (·.2)
 | .dead=>[]
def finish (own:Bool) (k:Nat) (r:AV) (o:a_):Option (AV×a_):=
 if own then kK k r o
 else match k with
  |0=>match freeze o 6 r with
   |some r'=>some (r',[])
   |none=>none
  |_+1=>none
def gp:Nat->List AV->iV
 |_,[]=>[]
 |i,v::vs=>(i,v)::gp (i+1) vs
structure jn where
 fn:FuncId->Option eu
 K:cy
def pO (ex:IR->St->Option (Out×St)):IR->St->Option St
 | .skip,st=>some st
 | .seq x y,st=>match ex x st with
  |some (.norm,st')=>pO ex y st'
  |_=>none
 |_,_=>none
def pN:Out->Bool
 | .norm| .ret=>true
 |_=>false
def Hn (ex:Nat->IR->St->Option (Out×St)) (F:Option eu) (cs:List AV) (s:St):Option (Out×St):=match F with
 |some F=>if cs.length=F.params/\F.res.isEmpty=true then match ex s.o.length F.body ⟨gp 0 cs,s.o⟩ with
  |some (out,s3)=>if pN out=true then some (.ret,⟨s.env,s3.o⟩) else none
  |none=>none else none
 |none=>none
def ry (T:jn) (ex:Nat->IR->St->Option (Out×St)) (lo:Nat) (c:IR) (st:St):Option (Out×St):=match c with
 | .dfr g caps d a b=>match pO (ex lo) a st with
  |some s0=>match ex s0.o.length b ⟨(d,.ud)::s0.env,s0.o⟩ with
   |some (out,s2)=>if pN out=true then Hn ex (T.fn g) (caps.map (dQ s0.env)) s2 else none
   |none=>none
  |none=>none
 |c=>ex lo c st
def oJ (T:jn) (ex:Nat->IR->St->Option (Out×St)):cy:=λf args o own=>
 match T.K f args o own with
 |some r=>some r
 |none=>match T.fn f with
  |none=>none
  |some F=>if args.length=F.params then
    match ry T ex o.length F.body ⟨gp 0 args,o⟩ with
    |some (.norm,st)|some (.ret,st)=>match mL st F.res with
     |some r=>finish own o.length r st.o
     |none=>none
    |_=>none
   else none
def pM (t:Nat):iV->iV
 |[]=>[]
 |p::r=>bif δu p.1 t then pM t r else p::pM t r
def n9 (x:Operand) (env:iV):iV:=
 match x with
 | .tmp t=>pM t env
 |_=>env
inductive Md where
 |plain
noncomputable def Hm (_:Md) (_:Bool) (call:cy) (k:Nat) (ops:List cO) (chk:List (Nat×Nat)) (st:St):Option St:=n_ call k ops chk st
noncomputable def exec (T:jn):Md->Nat->Nat->IR->St->Option (Out×St)
 |_,0,_,_,_=>none
 |md,n+1,lo,c,st=>
  match c with
  | .skip=>some (.norm,st)
  | .region _ draw k ops chk live pre post=>match Hm md draw (oJ T (exec T .plain n)) k ops chk (pre.foldl (λs h=>jF lo h s) st) with
   |some st'=>some (.norm,post.foldl (λs h=>jF lo h s) ⟨eL live st'.env,st'.o⟩)
   |none=>none
  | .seq a b=>match exec T md n lo a st with
   |some (.norm,st')=>exec T md n lo b st'
   |r=>r
  | .cond x a b=>match dQ st.env x with
   | .sc (.bool true)=>exec T md n lo a ⟨n9 x st.env,st.o⟩
   | .sc (.bool false)=>exec T md n lo b ⟨n9 x st.env,st.o⟩
   |_=>none
  | .block id b=>match exec T md n lo b st with
   |some (.exit id',st')=>if id'=id then some (.norm,st') else some (.exit id',st')
   |r=>r
  | .loop b=>match exec T md n lo b st with
   |some (.norm,st')=>exec T md n lo (.loop b) (trim st.o.length st')
   |r=>r
  | .exit id=>some (.exit id,st)
  | .ret=>some (.ret,st)
  | .goto l=>some (.goto l,st)
  | .nx x a b=>match dQ st.env x with
   | .sc (.bool true)=>exec T md n lo a st
   | .sc (.bool false)=>exec T md n lo b st
   |_=>none
  | .turns l b=>match exec T md n lo b st with
   |some (.goto l',st')=>if l=some l' then exec T md n lo (.turns l b) (trim st.o.length st') else none
   |r=>r
  | .dfr .. =>none
def bT.j3:bT->List Operand
 | .mov x| .box _ x| .load _ x| .asq x| .un _ x| .conv _ x| .asr _ x| .field _ _ x| .len _ x| .extract x _=>[x]
 | .pick c a b=>[c,a,b]
 | .alloc .. | .asw _| .ao7 .. =>[]
 | .build _ ps=>ps.map (·.2.2)
 | .aoE _ _ ps _ _| .ard _ _ ps _ _=>ps.map (·.2)
 | .store _ a x=>[a,x]
 | .bin _ x y| .beq _ x y| .eqf _ _ x y| .arf _ x y| .mm _ x y=>[x,y]
 | .asu _ _ x i| .aqx _ x i| .idx _ _ _ x i| .atG x i=>[x,i]
 | .ao6 _ _ _ _ l c _=>[l,c]
 | .slice _ x lo hi| .asv x lo hi=>x::(lo.toList++hi.toList)
 | .slice3 _ x lo hi mx=>x::hi::mx::lo.toList
 | .append _ _ _ s x _=>[s,x]
 | .call _ args _=>args
 | .ak4 f args _=>f::args
 | .arh _ a b=>a++b
 | .asx _ x=>[x]
 | .aoe _ x args=>x::args
 | .lookup _ _ _ _ x k _=>[x,k]
 | .apP _ _ x k v=>[x,k,v]
def bT.bs:bT->Nat
 | .mov _| .pick .. | .build .. | .ard .. | .asq _| .bin .. | .beq .. | .eqf .. | .arf .. | .un .. | .conv .. | .asr .. | .field .. | .asu .. | .idx .. | .atG .. | .asv .. | .asw _
 | .mm .. | .extract .. | .arh .. | .asx .. =>0
 | .load .. | .aqx .. | .slice .. | .slice3 .. | .len .. | .lookup .. | .aoe .. | .call _ _ false| .ak4 _ _ false=>1
 | .alloc .. | .box .. | .aoE .. | .ao6 .. | .ao7 .. | .store .. | .append .. | .apP .. =>2
 | .call _ _ true| .ak4 _ _ true=>3
def bT.makes:bT->Bool
 | .alloc .. | .box .. | .aoE .. | .ao6 .. | .ao7 .. | .append .. =>true
 |_=>false
def tmpsOf (l:List Operand):List Nat:=l.filterMap λ| .tmp t=>some t|_=>none
def cO.reads (i:cO):List Nat:=
 tmpsOf i.op.j3++(match i.guard with|some (some s,_)=>[s]|_=>[])
def Hl (d:Option Nat) (l:List Nat):Bool:=match d with|none=>true|some d=>!l.contains d
def yq (a b:cO):Bool:=
 Hl a.dst b.reads&&Hl b.dst a.reads&&(match a.dst,b.dst with|some x,some y=>x !=y|_,_=>true)
def wu (a b:cO):Bool:=a.op.bs==0||b.op.bs==0||(a.op.bs==1&&b.op.bs==1)
def Bp (a b:cO):Bool:=a.op.bs !=3||b.op.bs !=3
def wt:Nat->List Oper->Bool
 |_,[]=>true
 |i,o::r=>o.after.toList.all (λe=>!Region.binds .any e||decide (e.on<i))&&wt (i+1) r
structure RH where
 id:Nat
 live:List Nat
 perm:List Nat:=[]
 flags:List Nat:=[]
 pre:List iO:=[]
 post:List iO:=[]
def pL (c:TypeId->Option (List Nat)):Nat->List Field->Option (List Nat)
 |_,[]=>some []
 |b,f::d=>if f.name= "_" ∨f.offset≠b then none else match c f.type with
  |some a=>match pL c (b+a.length) d with
   |some r=>some (a++r)
   |none=>none
  |none=>none
def fE (P:Program):Nat->TypeId->Option (List Nat)
 |0,_=>none
 |d+1,t=>match P.underlying t,(P.info? t).map (·.size) with
  |some (.int _),some 1=>some [0]
  |some .bool,some 1=>some [1]
  |some .string,some 1=>some [2]
  |some (.struct b),some n=>if P.stoodInHeld t then none else match pL (fE P d) 0 b.toList with
   |some a=>if a.length=n then some a else none
   |none=>none
  |some (.array k e),some n=>match fE P d e with
   |some a=>if n=k*a.length then some ((δ k a).flatten) else none
   |none=>none
  |_,_=>none
def eI (P:Program) (t:TypeId):Option Bool:=
 match P.underlying t with
 |some (.struct _)|some (.array _ _)=>some true
 |some _=>some false
 |none=>none
def bL (P:Program) (t:TypeId):Option Nat:=(P.info? t).map (·.size)
def wq (P:Program) (t:TypeId):Option Nat:=(P.info? t).map (·.bytes)
def nu (P:Program) (t:TypeId):Option (Option Nat):=
 match eI P t,bL P t with
 |some true,some n=>some (some n)
 |some false,some _=>some none
 |_,_=>none
def kJ (P:Program) (t:TypeId):Option (List Value):=
 match(P.info? t).bind (·.zero),bL P t with
 |some z,some n=>if z.cells.toList.all (·.oneCell')&&z.cells.size==n then some z.cells.toList else none
 |_,_=>none
def yp (P:Program) (t:TypeId) (g:Bool):Bool:=
 match(P.info? t).bind (·.zero) with
 |some (.agg _)=>g
 |some _=>!g
 |none=>false
def Bo (P:Program) (name:String) (t:TypeId):Option FuncId:=
 match P.underlying t,P.info? t with
 |some (.struct _),some i=>match i.methods.find? (·.name==name) with
  |some m=>match m.path.toList,m.func with
   |[],some (f,false)=>some f
   |_,_=>none
  |none=>none
 |_,_=>none
def wo (P:Program) (name:String):Nat->List (TypeId×FuncId)
 |0=>[]
 |t+1=>match Bo P name t with
  |some f=>(t,f)::wo P name t
  |none=>wo P name t
def Px (P:Program) (name:String):List (TypeId×FuncId):=wo P name P.types.size
def pK {d c:Type} (f:d->Option c):List d->Option (List c)
 |[]=>some []
 |a::l=>match f a,pK f l with
  |some b,some r=>some (b::r)
  |_,_=>none
def fU (P:Program) (f:FuncId):Bool:=(P.funcs[f]?).any fun a=>a.body.isSome&&!(a.name== "runtime.NumGoroutine")
def Pw (P:Program) (a:Array Field):Option (List (Nat×Nat)):=a.toList.mapM λf=>(P.info? f.type).map λi=>(f.offset,i.size)
def Pv (a:List (Nat×Nat)) (p:Nat×Operand):Option (Nat×Nat×Operand):=(a[p.1]?).map λq=>(q.1,q.2,p.2)
def n5 (P:Program) (fl:Bool) (o:Oper):Option bT:=
 match o.op with
 | .move x| .assign x=>some (.mov x)
 | .pick c a b=>some (.pick c a b)
 | .alloc e=>(kJ P e).map λz=> .alloc z e fl
 | .box e x=>some (.box e x)
 | .build t parts=>match kJ P t,P.underlying t with
  |some z,some (.struct fields)=>match Pw P fields with
   |some places=>(pK (Pv places) parts.toList).map λps=> .build z ps
   |none=>none
  |some z,some (.array _ e)=>(bL P e).map λn=> .build z (parts.toList.map λp=>(p.1*n,n,p.2))
  |_,_=>none
 | .buildSlice t len parts=>match P.underlying t with
  |some (.slice e)=>match kJ P e with
   |some z=>if len*z.length<=16777216/\0<z.length then some (if fl then .ard z len (parts.toList.map λp=>(p.1*z.length,p.2)) e z.length else .aoE z len (parts.toList.map λp=>(p.1*z.length,p.2)) e z.length) else none
   |none=>none
  |_=>none
 | .load t a=>(nu P t).map λn=> .load n a
 | .store t a x=>(bL P t).map λn=> .store n a x
 | .nilCheck x=>some (.asq x)
 | .binOp op t x y _=>match op with
  | .eql| .neq=>match P.underlying t with
   |some (.struct _)|some (.array _ _)=>if 20<=P.depth then(fE P 20 t).map λks=> .eqf (op matches .neq) ks x y else none
   |some .bool=>some (.beq (op matches .neq) x y)
   |some (.int _)|some .string=>some (.bin op x y)
   |some (.pointer _)=>some (.arf (op matches .neq) x y)
   |_=>none
  |_=>some (.bin op x y)
 | .unOp op _ x=>some (.un op x)
 | .convert s d x=>match P.underlying s,P.underlying d with
  |some _,some (.int k)=>some (.conv k x)
  |_,_=>none
 | .fieldAddr s x f=>match P.underlying s with
  |some (.struct fs)=>match fs[f]? with
   |some g=>match bL P g.type with
    |some n=>if n=0 then none else some (.asr g.offset x)
    |none=>none
   |none=>none
  |_=>none
 | .field t x f=>match P.underlying t with
  |some (.struct fs)=>match fs[f]? with
   |some g=>(nu P g.type).map λn=> .field g.offset n x
   |none=>none
  |_=>none
 | .indexAddr t x i=>match P.underlying t with
  |some (.array len e)=>(bL P e).map λn=> .asu len n x i
  |some (.slice e)=>match bL P e with
   |some n=>if n=0 then none else some (.aqx n x i)
   |none=>none
  |_=>none
 | .index t x i=>match P.underlying t with
  |some (.array len e)=>match bL P e,nu P e with
   |some s,some n=>some (.idx len s n x i)
   |_,_=>none
  |some .string=>some (.atG x i)
  |_=>none
 | .makeSlice t l c=>match P.underlying t with
  |some (.slice e)=>match kJ P e,wq P e with
   |some z,some b=>if 0<z.length then some (.ao6 z e z.length b l c fl) else none
   |_,_=>none
  |_=>none
 | .slice t x lo hi none=>match P.underlying t with
  |some (.slice e)=>match bL P e with
   |some n=>if n=0 then none else some (.slice n x lo hi)
   |none=>none
  |some .string=>some (.asv x lo hi)
  |_=>none
 | .slice t x lo (some hi) (some mx)=>match P.underlying t with
  |some (.slice e)=>match bL P e with
   |some n=>if n=0 then none else some (.slice3 n x lo hi mx)
   |none=>none
  |_=>none
 | .call c=>match c.callee with
  | .value (.func f)=>if fU P f then some (.call f c.args.toList fl) else none
  | .value v=>some (.ak4 v c.args.toList fl)
  | .invoke x name=>if fl then none else some (.aoe (Px P name) x c.args.toList)
  | .builtin .append=>match c.args.toList,c.argTypes.toList with
   |[s,x],[t,t']=>if t=t' then match P.underlying t with
     |some (.slice e)=>match kJ P e,wq P e with
      |some z,some b=>if 0<z.length then some (.append e z.length b s x fl) else none
      |_,_=>none
     |_=>none
    else none
   |_,_=>none
  | .builtin .len=>match c.args.toList,c.argTypes.toList with
   |[x],[t]=>match P.underlying t with
    |some (.slice _)=>some (.len 0 x)
    |some .string=>some (.len 1 x)
    |some (.map _ _)=>some (.len 2 x)
    |some (.array n _)=>some (.asw n)
    |_=>none
   |_,_=>none
  | .builtin .min=>match c.args.toList with
   |[x,y]=>some (.mm false x y)
   |_=>none
  | .builtin .max=>match c.args.toList with
   |[x,y]=>some (.mm true x y)
   |_=>none
  |_=>none
 | .extract x i=>some (.extract x i)
 | .makeFunc f a b=>match f with
  | .func g=>some (.arh (.func g) a.toList b.toList)
  |_=>none
 | .makeInterface t x=>match P.underlying t with
  |some (.struct _)=>some (.asx t x)
  |_=>none
 | .makeMap t none=>match P.underlying t with
  |some (.map kt _)=>match fE P 20 kt,eI P kt with
    |some ks,some ka=>some (.ao7 (ks,ka) fl)
    |_,_=>none
  |_=>none
 | .lookup t x k ok=>match P.underlying t with
  |some (.map kt et)=>match fE P 20 kt,eI P kt,kJ P et,eI P et with
    |some ks,some ka,some z,some g=>if yp P et g then some (.lookup z g ks ka x k ok) else none
    |_,_,_,_=>none
  |_=>none
 | .mapUpdate t m k v| .insert t m k v=>match P.underlying t with
  |some (.map kt _)=>match fE P 20 kt,eI P kt with
    |some ks,some ka=>some (.apP ks ka m k v)
    |_,_=>none
  |_=>none
 |_=>none
def Bn (a:Nat):Option Nat->Bool
 |none=>true
 |some d=>decide (d<a)
def pJ (P:Program) (c:Nat) (fl:List Nat) (a:Array Oper) (qE i:Nat):Option cO:=
 match a[i]? with
 |none=>none
 |some o=>if Bn c o.dst then(n5 P (fl.contains i) o).map λb=>⟨i,qE,o.dst,b,o.guard.map λg=>(((a[g.1]?).bind (·.dst)),g.2)⟩ else none
def tF (P:Program) (b:Nat) (fl:List Nat) (a:Array Oper):Nat->List Nat->Option (List cO×Nat)
 |k,[]=>some ([],k)
 |k,i::r=>match pJ P b fl a k i with
  |none=>none
  |some x=>match tF P b fl a (if x.op.makes then k+1 else k) r with
   |none=>none
   |some (l,n)=>some (x::l,n)
def Bm (acc:List Nat) (s:Nat) (e:Edge):Nat:=if Region.binds .any e then s |||(2^e.on |||acc.getD e.on 0) else s
def ns (b:Array Oper):List Nat:=
 b.toList.foldl (λa o=>a++[o.after.toList.foldl (Bm a) 0]) []
def pI (c:List Nat):List cO->List (Nat×Nat)
 |[]=>[]
 |a::r=>(r.filterMap λb=>if(c.getD b.idx 0).testBit a.idx||wu a b then none else some (a.idx,b.idx))++pI c r
def wm (c:List Nat):List cO->Bool
 |[]=>true
 |a::r=>r.all (λb=>(c.getD b.idx 0).testBit a.idx||(yq a b&&(wu a b||Bp a b)))&&wm c r
def i_:List Nat->Bool
 |[]=>true
 |a::r=>!r.contains a&&i_ r
def wk (P:Program) (d:Nat) (H:List RH) (id:Nat) (a:Array Oper) (c:Bool):Option IR:=
 match H.find? (·.id==id) with
 |none=>none
 |some h=>
  if c then
   let b:=if h.perm.isEmpty then ω a.size else h.perm;match tF P d h.flags a 0 b with
   |some (l,k)=>if P.follows .mixedOrders&&b.length==a.size&&i_ b&&wm (ns a) l&&wt 0 a.toList&&(ω a.size).all b.contains then some (.region id true k l (pI (ns a) l) h.live h.pre h.post) else none
   |none=>none
  else(tF P d h.flags a 0 (ω a.size)).map λ(l,k)=> .region id false k l [] h.live h.pre h.post
def Bl:Code->Bool
 | .seq a b| .cond _ a b=>Bl a||Bl b
 | .block _ b| .loop b| .scope b=>Bl b
 | .goto _=>true
 |_=>false
def Bk:Code->Option Nat
 | .seq (.label l) c=>if Bl c then some l else none
 |_=>none
def Pu (H:List RH):Operand->Bool
 | .tmp t=>match H.find? (·.id==999999) with
  |some h=>h.live.contains t
  |none=>false
 |_=>false
def comp (P:Program) (nt:Nat) (H:List RH):Code->Option IR
 | .skip=>some .skip
 | .region id ops draw=>wk P nt H id ops draw
 | .seq a b=>match comp P nt H a,comp P nt H b with
  |some x,some y=>some (.seq x y)
  |_,_=>none
 | .cond c a b=>match comp P nt H a,comp P nt H b with
  |some x,some y=>some (if Pu H c then .nx c x y else .cond c x y)
  |_,_=>none
 | .block id b=>(comp P nt H b).map (.block id)
 | .loop b=>(comp P nt H b).map .loop
 | .exit id=>some (.exit id)
 | .ret=>some .ret
 | .label _=>some .skip
 | .goto l=>some (.goto l)
 | .scope b=>(comp P nt H b).map λx=> .turns (Bk b) x
 |_=>none
def Bj (h:Array Oper):Option (FuncId×List Operand×Nat):=match h.toList with
 |[f,e]=>match f.dst,f.op,f.guard,e.op,e.dst,e.guard with
  |some d,.makeFunc (.func g) a b,none,.defer c,none,none=>match c.callee with
   | .value (.tmp i)=>if i=d/\a.toList=[]/\c.args.toList=[] then some (g,b.toList,d) else none
   |_=>none
  |_,_,_,_,_,_=>none
 |_=>none
def tE (P:Program) (f:Nat) (H:List RH):Code->Option (IR×(FuncId×List Operand×Nat)×IR)
 | .seq (.region g e d) c=>match Bj e,d with
  |some x,false=>if x.2.2<f/\fU P x.1=true then(comp P f H c).map λb=>(.skip,x,b) else none
  |_,_=>match wk P f H g e d,tE P f H c with
   |some r,some (a,x,b)=>some (.seq r a,x,b)
   |_,_=>none
 |_=>none
def Hk (P:Program) (a:Nat) (H:List RH) (c:Code):Option IR:=match comp P a H c with
 |some b=>some b
 |none=>(tE P a H c).map λx=> .dfr x.2.1.1 x.2.1.2.1 x.2.1.2.2 x.1 x.2.2
def qD (P:Program):ResultVar->Option lW
 | .tmp t=>some ⟨t,none⟩
 | .cell a t=>(nu P t).map λn=>⟨a,some n⟩
def Bi (P:Program) (H:List RH) (a:Func):Option eu:=
 match a.body with
 |none=>none
 |some c=>match Hk P a.ntmps H c,pK (qD P) a.results.toList with
  |some b,some d=>if a.ntmps<a.params.size+a.nfree then none else some ⟨a.params.size+a.nfree,a.ntmps,b,d⟩
  |_,_=>none
end Go.Vi
