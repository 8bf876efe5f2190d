import Derived.Orders
import Derived.RowKit3
set_option maxRecDepth 100000
set_option maxHeartbeats 4000000
set_option linter.all false
open BitVec renaming ofInt->γt
open List renaming replicate->δ,range->ω
open Nat renaming beq->δu
namespace Go.Vi
inductive AV where
 |ud
 |sc (v:Value)
 |agg (cs:List AV)
 |Gz (cs:List AV)
 |sl (n:Nat) (cs:List AV)
 |ep (cs:List AV) (bu:Nat)
 |ptr (id bu tot:Nat)
 |os (id bu len tot:Nat)
 |mp (id:Nat)
 |fn (f:Fn) (first captured:List AV)
 |ifc (t:TypeId) (cs:List AV)
 deriving Inhabited
inductive OL where
 |dead
 |cells (cs:List AV) (e:TypeId) (sz:Nat) (pu:Bool)
 |map (es:List (Value×AV)) (kt:List Nat×Bool) (pu:Bool)
 deriving Inhabited
def yt:Value:=.slice none 0 0
def AV.qn:AV->AV
 | .sc (.slice none 0 0)=> .sl 0 []
 |v=>v
def ee (pu:Bool) (cs:List AV):List AV:=if pu then cs.map .qn else cs
def AV.cellsOf:AV->List AV
 | .agg cs=>cs
 |v=>[v]
def AV.one:AV->Bool
 | .agg _| .Gz _| .ud=>false
 | .sc v=>v.oneCell'
 |_=>true
mutual
def AV.pure:AV->Bool
 | .sc _=>true
 | .sl _ cs=>cJ cs
 |_=>false
def cJ:List AV->Bool
 |[]=>true
 |c::cs=>c.pure&&cJ cs
end
mutual
def AV.VI (k:Nat):AV->Bool
 | .ud=>true
 | .sc _=>true
 | .agg cs=>dH k cs
 | .Gz cs=>dH k cs
 | .sl _ _=>true
 | .ep _ _=>true
 | .ptr id _ _=>decide (id<k)
 | .os id _ _ _=>decide (id<k)
 | .mp id=>decide (id<k)
 | .fn _ a b=>dH k a&&dH k b
 | .ifc _ _=>true
def dH (k:Nat):List AV->Bool
 |[]=>true
 |c::cs=>c.VI k&&dH k cs
end
def OL.VI (k:Nat):OL->Bool
 | .dead=>true
 | .cells cs _ _ pu=>pu||dH k cs
 | .map es _ pu=>pu||dH k (es.map (·.2))
abbrev a_:=List OL
def OL.lX:OL->Bool
 | .dead=>true
 |_=>false
def j4 (qE:Nat) (x:OL) (o:a_):Option a_:=
 match o[qE]? with
 |some .dead=>some (o.set qE x)
 |_=>none
abbrev iT:=List (Nat×AV)
def cY:iT->Nat->AV
 |[],_=> .ud
 |p::r,s=>bif δu p.1 s then p.2 else cY r s
def nx (env:iT) (dst:Option Nat) (v:AV):iT:=
 match dst with
 |none=>env
 |some d=>(d,v)::env
def AV.ta:Value->AV
 | .agg cs=>if cs.toList.all (·.oneCell') then .agg (cs.toList.map .sc) else .ud
 | .tuple _=> .ud
 |v=> .sc v
def dO (env:iT):Operand->AV
 | .tmp t=>cY env t
 | .const v=> .ta v
 | .global _=> .ud
 | .func f=> .fn (.func f) [] []
inductive bR where
 |mov (x:Operand)
 |pick (c a b:Operand)
 |alloc (z:List Value) (e:TypeId) (pu:Bool)
 |box (e:TypeId) (x:Operand)
 |build (z:List Value) (parts:List (Nat×Nat×Operand))
 |aoE (z:List Value) (len:Nat) (parts:List (Nat×Operand)) (e:TypeId) (sz:Nat)
 |ard (z:List Value) (len:Nat) (parts:List (Nat×Operand)) (e:TypeId) (sz:Nat)
 |load (n:Option Nat) (a:Operand)
 |store (n:Nat) (a x:Operand)
 |asq (x:Operand)
 |bin (op:BinOp) (x y:Operand)
 |beq (neg:Bool) (x y:Operand)
 |eqf (neg:Bool) (ks:List Nat) (x y:Operand)
 |arf (neg:Bool) (x y:Operand)
 |un (op:UnOp) (x:Operand)
 |conv (k:IntKind) (x:Operand)
 |asr (bu:Nat) (x:Operand)
 |field (bu:Nat) (n:Option Nat) (x:Operand)
 |asu (len sz:Nat) (x i:Operand)
 |aqx (sz:Nat) (x i:Operand)
 |idx (len sz:Nat) (n:Option Nat) (x i:Operand)
 |atG (x i:Operand)
 |ao6 (z:List Value) (e:TypeId) (sz bytes:Nat) (l c:Operand) (pu:Bool)
 |slice (sz:Nat) (x:Operand) (lo hi:Option Operand)
 |slice3 (sz:Nat) (x:Operand) (lo:Option Operand) (hi mx:Operand)
 |asv (x:Operand) (lo hi:Option Operand)
 |append (e:TypeId) (sz bytes:Nat) (s x:Operand) (pu:Bool)
 |len (k:Nat) (x:Operand)
 |asw (n:Nat)
 |mm (mx:Bool) (x y:Operand)
 |call (f:FuncId) (args:List Operand) (own:Bool)
 |ak4 (f:Operand) (args:List Operand) (own:Bool)
 |extract (x:Operand) (i:Nat)
 |arh (f:Fn) (first captured:List Operand)
 |asx (t:TypeId) (x:Operand)
 |aoe (tab:List (TypeId×FuncId)) (x:Operand) (args:List Operand)
 |ao7 (kt:List Nat×Bool) (pu:Bool)
 |lookup (z:List Value) (agg:Bool) (ks:List Nat) (ka:Bool) (x k:Operand) (ok:Bool)
 |apP (ks:List Nat) (ka:Bool) (x k v:Operand)
structure cM where
 idx:Nat
 qE:Nat
 dst:Option Nat
 op:bR
 guard:Option (Option Nat×Bool)
structure iM where
 own:Bool
 slot:Nat
 bu:Option Nat
 e:TypeId
 sz:Nat
 pu:Bool
inductive IR where
 |skip
 |region (id:Nat) (draw:Bool) (k:Nat) (ops:List cM) (chk:List (Nat×Nat)) (live:List Nat) (pre post:List iM)
 |seq (a b:IR)
 |cond (c:Operand) (a b:IR)
 |block (id:Nat) (c:IR)
 |loop (c:IR)
 |exit (id:Nat)
 |ret
 |goto (l:Nat)
 |turns (l:Option Nat) (b:IR)
 |nw (c:Operand) (a b:IR)
 |dfr (g:FuncId) (caps:List Operand) (d:Nat) (a b:IR)
structure St where
 env:iT
 o:a_
def behind (o:a_):AV->Option (List AV×Nat)
 | .ptr id bu tot=>match o[id]? with
  |some (.cells cs _ _ _)=>if cs.length=tot then some (cs,bu) else none
  |_=>none
 | .ep cs bu=>some (cs,bu)
 |_=>none
def fF (cs:List AV) (bu:Nat):Option Nat->Option AV
 |none=>cs[bu]?
 |some n=>if bu+n<=cs.length then some (.agg ((cs.drop bu).take n)) else none
def fy (cs:List AV) (bu:Nat):List AV->List AV
 |[]=>cs
 |v::vs=>fy (cs.set bu v) (bu+1) vs
def dQ (l:List AV):Bool:=l.all (·.one)
def ed (k:IntKind) (n:Int):Int:=
 match k with
 | .i64=>if decide (-9223372036854775808<=n)&&decide (n<=9223372036854775807) then n else IntKind.wrap .i64 n
 | .u32=>if decide (0<=n)&&decide (n<=4294967295) then n else IntKind.wrap .u32 n
 | .u64=>if decide (0<=n)&&decide (n<=18446744073709551615) then n else IntKind.wrap .u64 n
 |k=>k.wrap n
def Bs (n:Nat):Int:=Int.ofNat (Nat.pow 2 n)
def kA (op:BinOp) (k:IntKind) (a b:Int):Option Value:=
 match op with
 | .add=>some (.int k (ed k (a+b)))
 | .sub=>some (.int k (ed k (a - b)))
 | .mul=>some (.int k (ed k (a*b)))
 | .quo=>if b=0 then none else some (.int k (ed k (a.tdiv b)))
 | .rem=>if b=0 then none else some (.int k (a.tmod b))
 | .and=>some (.int k (ed k (γt k.bits a &&&γt k.bits b).toNat))
 | .or=>some (.int k (ed k (γt k.bits a |||γt k.bits b).toNat))
 | .xor=>some (.int k (ed k (γt k.bits a ^^^γt k.bits b).toNat))
 | .andNot=>some (.int k (ed k (γt k.bits a &&&~~~(γt k.bits b)).toNat))
 | .eql=>some (.bool (a==b))
 | .neq=>some (.bool (a !=b))
 | .lss=>some (.bool (decide (a<b)))
 | .leq=>some (.bool (decide (a<=b)))
 | .gtr=>some (.bool (decide (b<a)))
 | .geq=>some (.bool (decide (b<=a)))
 |_=>none
def gh (op:BinOp):Value->Value->Option Value
 | .int k a,.int k' b=>
  match op with
  | .shl=>if b<0 then none else some (.int k (ed k (a*Bs (min b.toNat k.bits))))
  | .shr=>if b<0 then none else some (.int k (a.fdiv (Bs (min b.toNat k.bits))))
  |_=>if k=k' then kA op k a b else none
 | .string a,.string b=>match op with
  | .eql=>some (.bool (a.toList==b.toList))
  | .neq=>some (.bool (!(a.toList==b.toList)))
  | .add=>if a.size+b.size<=1000000000 then some (.string (a++b)) else none
  |_=>none
 |_,_=>none
def seq1:Value->Value->Option Bool
 | .int k a,.int k' b=>if k=k' then some (a==b) else none
 | .bool a,.bool b=>some (a==b)
 | .string a,.string b=>some (a.toList==b.toList)
 |_,_=>none
def fc:List Value->List Value->Option Bool
 |[],[]=>some true
 |x::xs,y::ys=>match seq1 x y,fc xs ys with
  |some a,some b=>some (a&&b)
  |_,_=>none
 |_,_=>none
def dM:List Nat->List Value->Bool
 |[],[]=>true
 |0::ks,.int _ _::vs=>dM ks vs
 |1::ks,.bool _::vs=>dM ks vs
 |2::ks,.string _::vs=>dM ks vs
 |_,_=>false
def p9:List AV->Option (List Value)
 |[]=>some []
 | .sc v::r=>(p9 r).map (v::·)
 |_=>none
def uk (ks:List Nat) (a b:List AV):Option Bool:=
 match p9 a,p9 b with
 |some x,some y=>if dM ks x&&dM ks y then fc x y else none
 |_,_=>none
def q_ (op:UnOp):AV->Option AV
 | .sc (.bool b)=>match op with| .not=>some (.sc (.bool !b))|_=>none
 | .sc (.int k n)=>match op with| .neg=>some (.sc (.int k (ed k (0 - n))))|_=>none
 |_=>none
def gr:AV->Option Int
 | .sc (.int _ n)=>some n
 |_=>none
def lW (d:Nat):AV->Option AV
 | .ptr id bu tot=>some (.ptr id (bu+d) tot)
 | .ep cs bu=>some (.ep cs (bu+d))
 |_=>none
def lV (o:a_) (sz:Nat):AV->Option (Nat×List AV)
 | .sl n cs=>if cs.length=n*sz then some (n,cs) else none
 | .os id bu len tot=>match o[id]? with
  |some (.cells cs _ sz' _)=>if cs.length=tot/\sz'=sz/\bu+len*sz<=tot then some (len,(cs.drop bu).take (len*sz)) else none
  |_=>none
 | .sc (.slice none 0 0)=>some (0,[])
 |_=>none
def qh (bu tot sz:Nat):Nat:=if Nat.ble bu tot then bu else bu - tot - sz
def o6 (o:a_) (sz:Nat) (x:AV) (i:Int):Option AV:=
 match x with
 | .sl n cs=>if 0<=i/\i<n/\cs.length=n*sz then some (.ep cs (i.toNat*sz)) else none
 | .os id bu len tot=>match o[id]? with
  |some (.cells cs _ sz' _)=>if cs.length=tot/\sz'=sz/\0<=i/\i<len/\qh bu tot sz+len*sz<=tot then some (.ptr id (qh bu tot sz+i.toNat*sz) tot) else none
  |_=>none
 |_=>none
def kz (o:a_):Nat->AV->Option Nat
 |0,.sl n _=>some n
 |0,.os _ _ len _=>some len
 |0,.sc (.slice _ n _)=>some n
 |1,.sc (.string s)=>some s.size
 |2,.mp id=>match o[id]? with
  |some (.map es _ _)=>some es.length
  |_=>none
 |_,_=>none
def o5 (e:TypeId) (sz a:Nat) (pu:Bool) (s x:AV) (o:a_) (qE:Nat):Option (AV×a_):=
 match lV o sz x with
 |none=>none
 |some (m,b)=>
  if dQ b=false then none else
  match s with
  | .sc (.slice none 0 0)=>
   if m=0 then some (.sc yt,o)
   else if m*a<=140737488355328/\m<=1000000000000/\(pu=false\/cJ b=true) then(j4 qE (.cells b e sz pu) o).map λk=>(.os qE 0 m (m*sz),k) else none
  | .os h 0 c d=>match o[h]? with
   |some (.cells g j i f)=>
    if g.length=d/\j=e/\i=sz/\c*sz=d/\(c+m)*a<=140737488355328/\c+m<=1000000000000/\(f=false\/cJ b=true)
    then some (.os h 0 (c+m) (d+m*sz),o.set h (.cells (g++b) e sz f)) else none
   |_=>none
  | .sl n g=>if m=0 then some (.sl n g,o) else none
  |_=>none
def gq (d:Nat):Option AV->Option Nat
 |none=>some d
 |some (.sc (.int _ n))=>if 0<=n then some n.toNat else none
 |_=>none
def oL (o:a_) (sz:Nat) (x:AV) (lo hi:Option AV):Option AV:=
 match x with
 | .sl n cs=>match gq 0 lo,gq n hi with
  |some l,some h=>if l<=h/\h<=n/\cs.length=n*sz then some (.sl (h - l) ((cs.drop (l*sz)).take ((h - l)*sz))) else none
  |_,_=>none
 | .os id bu len tot=>match gq 0 lo,gq len hi with
  |some l,some h=>match o[id]? with
   |some (.cells cs _ sz' _)=>if l<=h/\h<=len/\cs.length=tot/\sz'=sz then some (.os id (bu+l*sz) (h - l) tot) else none
   |_=>none
  |_,_=>none
 | .sc (.slice none 0 0)=>match gq 0 lo,gq 0 hi with
  |some 0,some 0=>some (.sc yt)
  |_,_=>none
 |_=>none
def qH (o:a_) (sz:Nat) (x:AV) (lo:Option AV) (hi mx:AV):Option AV:=
 match x with
 | .sl n cs=>match gq 0 lo,gq n (some hi),gq n (some mx) with
  |some l,some h,some m=>if l<=h/\h<=m/\m<=n/\cs.length=n*sz then some (.sl (h - l) ((cs.drop (l*sz)).take ((h - l)*sz))) else none
  |_,_,_=>none
 | .os id bu len tot=>match gq 0 lo,gq len (some hi),gq len (some mx) with
  |some l,some h,some m=>match o[id]? with
   |some (.cells cs _ sz' _)=>if l<=h/\h<=m/\m<=len/\cs.length=tot/\sz'=sz/\bu+len*sz<=tot/\0<sz then some (.os id (bu+l*sz+(tot+sz)) (h - l) tot) else none
   |_=>none
  |_,_,_=>none
 |_=>none
def oK (ks:List Nat) (ka:Bool):AV->Option Value
 | .sc v=>if !ka&&dM ks [v] then some v else none
 | .agg cs=>match p9 cs with
  |some vs=>if ka&&dM ks vs then some (.agg vs.toArray) else none
  |none=>none
 |_=>none
def k9:Value->Value->Option Bool
 | .agg a,.agg b=>fc a.toList b.toList
 | .agg _,_=>none
 |_,.agg _=>none
 |a,b=>seq1 a b
def lu (k:Value):List (Value×AV)->Nat->Option (Option (Nat×AV))
 |[],_=>some none
 |e::es,i=>match k9 k e.1 with
  |some true=>some (some (i,e.2))
  |some false=>lu k es (i+1)
  |none=>none
def pS (z:List Value) (agg:Bool):Option AV:=
 if agg then some (.agg (z.map .sc)) else match z with
  |[v]=>some (.sc v)
  |_=>none
def freeze (o:a_):Nat->AV->Option AV
 |_,.ud=>some .ud
 |_,.sc v=>match v with
  | .slice none 0 0=>some (.sl 0 [])
  |v=>some (.sc v)
 |_,.sl n cs=>some (.sl n cs)
 |_,.ifc t cs=>some (.ifc t cs)
 |d+1,.agg cs=>(cs.mapM (freeze o d)).map .agg
 |d+1,.Gz cs=>(cs.mapM (freeze o d)).map .Gz
 |d+1,.fn f a b=>match a.mapM (freeze o d),b.mapM (freeze o d) with
  |some a',some b'=>some (.fn f a' b')
  |_,_=>none
 |d+1,.os id bu len tot=>match o[id]? with
  |some (.cells cs _ sz pu)=>
   if cs.length=tot/\bu+len*sz<=tot then
    if pu then some (.sl len ((cs.drop bu).take (len*sz)))
    else match((cs.drop bu).take (len*sz)).mapM (freeze o d) with
     |some cs'=>if cJ cs' then some (.sl len cs') else none
     |none=>none
   else none
  |_=>none
 |_,_=>none
mutual
def AV.bI (m:Nat->Option Nat):AV->Option AV
 | .ud=>some .ud
 | .sc v=>some (.sc v)
 | .sl n cs=>some (.sl n cs)
 | .ifc t cs=>some (.ifc t cs)
 | .ep cs bu=>some (.ep cs bu)
 | .agg cs=>(gV m cs).map .agg
 | .Gz cs=>(gV m cs).map .Gz
 | .ptr id bu tot=>(m id).map λi=> .ptr i bu tot
 | .os id bu len tot=>(m id).map λi=> .os i bu len tot
 | .mp id=>(m id).map .mp
 | .fn f a b=>match gV m a,gV m b with
  |some a',some b'=>some (.fn f a' b')
  |_,_=>none
def gV (m:Nat->Option Nat):List AV->Option (List AV)
 |[]=>some []
 |c::cs=>match c.bI m,gV m cs with
  |some c',some cs'=>some (c'::cs')
  |_,_=>none
end
def nv (m:Nat->Option Nat):List (Value×AV)->Option (List (Value×AV))
 |[]=>some []
 |e::es=>match e.2.bI m,nv m es with
  |some v,some es'=>some ((e.1,v)::es')
  |_,_=>none
def OL.bI (m:Nat->Option Nat):OL->Option OL
 | .dead=>some .dead
 | .cells cs e sz pu=>if pu then some (.cells cs e sz pu) else(gV m cs).map λcs'=> .cells cs' e sz pu
 | .map es kt pu=>if pu then some (.map es kt pu) else(nv m es).map λes'=> .map es' kt pu
def idxOf (ids:List Nat) (i:Nat) (k:Nat:=0):Option Nat:=
 match ids with
 |[]=>none
 |j::r=>if j==i then some k else idxOf r i (k+1)
def b_ (o:a_):Nat->List AV->List Nat->List Nat
 |0,_,acc=>acc
 |_,[],acc=>acc
 |d+1,v::vs,acc=>
  let visit (id:Nat) (acc:List Nat):List Nat:=
   if acc.contains id then acc else
   match o[id]? with
   |some (.cells cs _ _ pu)=>if pu then acc++[id] else b_ o d cs (acc++[id])
   |some (.map es _ pu)=>if pu then acc++[id] else b_ o d (es.map (·.2)) (acc++[id])
   |_=>acc++[id];let acc':=match v with
   | .agg cs| .Gz cs=>b_ o d cs acc
   | .ptr id _ _| .os id _ _ _| .mp id=>visit id acc
   | .fn _ a b=>b_ o d b (b_ o d a acc)
   |_=>acc;b_ o d vs acc'
def e_:Nat:=400
def j7 (o:a_) (ids:List Nat):List Nat->Option a_
 |[]=>some []
 |i::r=>match o[i]?,j7 o ids r with
  |some x,some l=>(x.bI (λj=>idxOf ids j)).map (·::l)
  |_,_=>none
def nu (ids:List Nat) (n i:Nat):Option Nat:=
 match ids[i]? with
 |some j=>some j
 |none=>some (n+(i - ids.length))
def qG (m:Nat->Option Nat):a_->Option a_
 |[]=>some []
 |x::r=>match x.bI m,qG m r with
  |some y,some l=>some (y::l)
  |_,_=>none
def kJ (o:a_):List Nat->a_->a_
 |[],_=>o
 |_,[]=>o
 |i::r,x::l=>kJ (o.set i x) r l
abbrev cw:=FuncId->List AV->a_->Bool->Option (AV×a_)
def gU (call:cw) (f:FuncId) (args:List AV) (o:a_):Option (AV×a_):=
 let ids:=b_ o e_ args [];match gV (λj=>idxOf ids j) args,j7 o ids ids with
 |some args',some small=>match call f args' small true with
  |some (r,aGj)=>
   if aGj.length<ids.length\/aoF ids=false then none else
   match r.bI (nu ids o.length),qG (nu ids o.length) aGj with
   |some r',some iA=>some (r',kJ o ids (iA.take ids.length)++iA.drop ids.length)
   |_,_=>none
  |none=>none
 |_,_=>none
where aoF:List Nat->Bool
 |[]=>true
 |a::r=>!r.contains a&&aoF r
mutual
def AV.kf:AV->Bool
 | .ud| .sc _=>true
 | .agg cs| .Gz cs=>s_ cs
 | .sl _ cs=>cs.isEmpty
 |_=>false
def s_:List AV->Bool
 |[]=>true
 |c::cs=>c.kf&&s_ cs
end
def eE (o:a_):Nat->AV->List Nat
 |d+1,.agg cs=>cs.flatMap (eE o d)
 |d+1,.Gz cs=>cs.flatMap (eE o d)
 |d+1,.fn _ a b=>a.flatMap (eE o d)++b.flatMap (eE o d)
 |d+1,.os id bu len _=>id::(match o[id]? with
  |some (.cells cs _ sz pu)=>if pu then[] else((cs.drop bu).take (len*sz)).flatMap (eE o d)
  |_=>[])
 |_,_=>[]
def s9:List (TypeId×FuncId)->TypeId->Option FuncId
 |[],_=>none
 |p::r,t=>bif δu p.1 t then some p.2 else s9 r t
def fV (call:cw) (f:FuncId) (args:List AV) (o:a_) (own:Bool):Option (AV×a_):=
 if own then gU call f args o
 else match args.mapM (freeze o 6) with
  |none=>none
  |some args'=>match call f args' [] false with
   |some (r,[])=>if(args.flatMap (eE o 6)).isEmpty||r.kf then some (r,o) else none
   |_=>none
def ky (parts:List (Nat×Nat×AV)) (cs:List AV):Option (List AV):=
 match parts with
 |[]=>some cs
 |(bu,n,v)::rest=>
  if v.cellsOf.length=n/\dQ v.cellsOf=true/\bu+n<=cs.length then ky rest (fy cs bu v.cellsOf) else none
def MO (call:cw) (op:bR) (ρ:Operand->AV) (o:a_) (qE:Nat):Option (AV×a_):=
 match op with
 | .mov x=>some (ρ x,o)
 | .pick c a b=>match ρ c with
  | .sc (.bool true)=>some (ρ a,o)
  | .sc (.bool false)=>some (ρ b,o)
  |_=>none
 | .alloc z e pu=>(j4 qE (.cells (z.map .sc) e z.length pu) o).map λo'=>(.ptr qE 0 z.length,o')
 | .box e x=>if dQ (ρ x).cellsOf then(j4 qE (.cells (ρ x).cellsOf e (ρ x).cellsOf.length false) o).map λo'=>(.ptr qE 0 (ρ x).cellsOf.length,o') else none
 | .build z parts=>(ky (parts.map λp=>(p.1,p.2.1,ρ p.2.2)) (z.map .sc)).map λcs=>(.agg cs,o)
 | .aoE z len parts e sz=>
  match ky (parts.map λp=>(p.1,sz,ρ p.2)) ((δ len (z.map AV.sc)).flatten) with
  |some cs=>(j4 qE (.cells (ee (cJ cs) cs) e sz (cJ cs)) o).map λo'=>(.os qE 0 len (len*sz),o')
  |none=>none
 | .ard z len parts _ sz=>
  match ky (parts.map λp=>(p.1,sz,ρ p.2)) ((δ len (z.map AV.sc)).flatten) with
  |some cs=>if cJ cs=true then some (.sl len (ee true cs),o) else none
  |none=>none
 | .load n a=>match behind o (ρ a) with
  |some (cs,bu)=>(fF cs bu n).map (·,o)
  |none=>none
 | .store n a x=>match ρ a with
  | .ptr id bu tot=>match o[id]? with
   |some (.cells cs e sz pu)=>
    let v:=(ρ x).cellsOf;if cs.length=tot/\v.length=n/\dQ v=true/\bu+n<=cs.length/\(pu=false\/cJ v=true) then some (.ud,o.set id (.cells (fy cs bu (ee pu v)) e sz pu)) else none
   |_=>none
  |_=>none
 | .asq x=>match ρ x with
  | .ptr a b c=>some (.ptr a b c,o)
  | .ep a b=>some (.ep a b,o)
  |_=>none
 | .bin op x y=>match ρ x,ρ y with
  | .sc a,.sc b=>(gh op a b).map λv=>(.sc v,o)
  |_,_=>none
 | .beq neg x y=>match ρ x,ρ y with
  | .sc (.bool a),.sc (.bool b)=>some (.sc (.bool (if neg then !(a==b) else a==b)),o)
  |_,_=>none
 | .eqf neg ks x y=>match ρ x,ρ y with
  | .agg a,.agg b=>(uk ks a b).map λr=>(.sc (.bool (if neg then !r else r)),o)
  |_,_=>none
 | .arf neg x y=>match ρ x,ρ y with
  | .ptr _ _ _,.sc (.pointer none)=>some (.sc (.bool neg),o)
  | .sc (.pointer none),.sc (.pointer none)=>some (.sc (.bool !neg),o)
  |_,_=>none
 | .un op x=>(q_ op (ρ x)).map (·,o)
 | .conv k x=>match ρ x with
  | .sc (.int _ n)=>some (.sc (.int k (ed k n)),o)
  |_=>none
 | .asr bu x=>(lW bu (ρ x)).map (·,o)
 | .field bu n x=>match ρ x with
  | .agg cs=>(fF cs bu n).map (·,o)
  |_=>none
 | .asu len sz x i=>match gr (ρ i) with
  |some n=>if 0<=n/\n<len then(lW (n.toNat*sz) (ρ x)).map (·,o) else none
  |none=>none
 | .aqx sz x i=>match gr (ρ i) with
  |some n=>(o6 o sz (ρ x) n).map (·,o)
  |none=>none
 | .idx len sz n x i=>match gr (ρ i),ρ x with
  |some k,.agg cs=>if 0<=k/\k<len then(fF cs (k.toNat*sz) n).map (·,o) else none
  |_,_=>none
 | .atG x i=>match gr (ρ i),ρ x with
  |some k,.sc (.string s)=>if 0<=k then(s[k.toNat]?).map λb=>(.sc (.int .u8 b.toNat),o) else none
  |_,_=>none
 | .ao6 z e sz bytes l c pu=>match gr (ρ l),gr (ρ c) with
  |some n,some m=>if 0<=n/\n<=m/\m*bytes<=140737488355328/\m<=1000000000000 then
    (j4 qE (.cells ((δ n.toNat (ee pu (z.map AV.sc))).flatten) e sz pu) o).map λo'=>(.os qE 0 n.toNat (n.toNat*sz),o') else none
  |_,_=>none
 | .slice sz x lo hi=>(oL o sz (ρ x) (lo.map ρ) (hi.map ρ)).map (·,o)
 | .slice3 sz x lo hi mx=>(qH o sz (ρ x) (lo.map ρ) (ρ hi) (ρ mx)).map (·,o)
 | .asv x lo hi=>match ρ x with
  | .sc (.string s)=>match gq 0 (lo.map ρ),gq s.size (hi.map ρ) with
   |some l,some h=>if l<=h/\h<=s.size then some (.sc (.string (s.extract l h)),o) else none
   |_,_=>none
  |_=>none
 | .append e sz bytes s x pu=>o5 e sz bytes pu (ρ s) (ρ x) o qE
 | .len k x=>(kz o k (ρ x)).map λ(n:Nat)=>(.sc (.int .i64 n),o)
 | .asw n=>some (.sc (.int .i64 n),o)
 | .mm mx x y=>match ρ x,ρ y with
  | .sc (.int k a),.sc (.int k' b)=>if k=k' then some (.sc (.int k (if mx then(if b>a then b else a) else(if b<a then b else a))),o) else none
  |_,_=>none
 | .call f args own=>fV call f (args.map ρ) o own
 | .ak4 f args own=>match ρ f with
  | .fn (.func g) first captured=>fV call g (first++args.map ρ++captured) o own
  |_=>none
 | .extract x i=>match ρ x with
  | .Gz vs=>(vs[i]?).map (·,o)
  |_=>none
 | .arh f first captured=>some (.fn f (first.map ρ) (captured.map ρ),o)
 | .asx t x=>match ρ x with
  | .agg cs=>if cJ cs=true then some (.ifc t cs,o) else none
  |_=>none
 | .aoe tab x args=>match ρ x with
  | .ifc t cs=>match s9 tab t with
   |some f=>fV call f (.agg cs::args.map ρ) o false
   |none=>none
  |_=>none
 | .ao7 kt pu=>(j4 qE (.map [] kt pu) o).map λo'=>(.mp qE,o')
 | .lookup z agg ks ka x k ok=>match ρ x,oK ks ka (ρ k) with
  | .mp id,some kv=>match o[id]? with
   |some (.map es kt _)=>if kt=(ks,ka) then match lu kv es 0,pS z agg with
    |some (some (_,v)),_=>some (if ok then .Gz [v,.sc (.bool true)] else v,o)
    |some none,some v=>some (if ok then .Gz [v,.sc (.bool false)] else v,o)
    |_,_=>none
    else none
   |_=>none
  |_,_=>none
 | .apP ks ka x k v=>match ρ x,oK ks ka (ρ k) with
  | .mp id,some kv=>match o[id]? with
   |some (.map es kt pu)=>
    if(pu=true/\(ρ v).pure=false)\/kt≠(ks,ka) then none else
    match lu kv es 0 with
    |some (some (i,_))=>some (.ud,o.set id (.map (es.modify i λ_=>(kv,ρ v)) kt pu))
    |some none=>some (.ud,o.set id (.map (es++[(kv,ρ v)]) kt pu))
    |none=>none
   |_=>none
  |_,_=>none
def aNA (x:Operand) (_call:cw) (ρ:Operand->AV) (o:a_) (_nid:Nat):Option (AV×a_):=some (ρ x,o)
def aNB (c:Operand) (a:Operand) (b:Operand) (_call:cw) (ρ:Operand->AV) (o:a_) (_nid:Nat):Option (AV×a_):=match ρ c with
  | .sc (.bool true)=>some (ρ a,o)
  | .sc (.bool false)=>some (ρ b,o)
  |_=>none
def aNC (z:List Value) (e:TypeId) (pu:Bool) (_call:cw) (_ρ:Operand->AV) (o:a_) (qE:Nat):Option (AV×a_):=(j4 qE (.cells (z.map .sc) e z.length pu) o).map λo'=>(.ptr qE 0 z.length,o')
def aND (e:TypeId) (x:Operand) (_call:cw) (ρ:Operand->AV) (o:a_) (qE:Nat):Option (AV×a_):=if dQ (ρ x).cellsOf then(j4 qE (.cells (ρ x).cellsOf e (ρ x).cellsOf.length false) o).map λo'=>(.ptr qE 0 (ρ x).cellsOf.length,o') else none
def aNE (z:List Value) (parts:List (Nat×Nat×Operand)) (_call:cw) (ρ:Operand->AV) (o:a_) (_nid:Nat):Option (AV×a_):=(ky (parts.map λp=>(p.1,p.2.1,ρ p.2.2)) (z.map .sc)).map λcs=>(.agg cs,o)
def aNF (z:List Value) (len:Nat) (parts:List (Nat×Operand)) (e:TypeId) (sz:Nat) (_call:cw) (ρ:Operand->AV) (o:a_) (qE:Nat):Option (AV×a_):=
  match ky (parts.map λp=>(p.1,sz,ρ p.2)) ((δ len (z.map AV.sc)).flatten) with
  |some cs=>(j4 qE (.cells (ee (cJ cs) cs) e sz (cJ cs)) o).map λo'=>(.os qE 0 len (len*sz),o')
  |none=>none
def aNG (z:List Value) (len:Nat) (parts:List (Nat×Operand)) (_a3:TypeId) (sz:Nat) (_call:cw) (ρ:Operand->AV) (o:a_) (_nid:Nat):Option (AV×a_):=
  match ky (parts.map λp=>(p.1,sz,ρ p.2)) ((δ len (z.map AV.sc)).flatten) with
  |some cs=>if cJ cs=true then some (.sl len (ee true cs),o) else none
  |none=>none
def aNH (n:Option Nat) (a:Operand) (_call:cw) (ρ:Operand->AV) (o:a_) (_nid:Nat):Option (AV×a_):=match behind o (ρ a) with
  |some (cs,bu)=>(fF cs bu n).map (·,o)
  |none=>none
def aNI (n:Nat) (a:Operand) (x:Operand) (_call:cw) (ρ:Operand->AV) (o:a_) (_nid:Nat):Option (AV×a_):=match ρ a with
  | .ptr id bu tot=>match o[id]? with
   |some (.cells cs e sz pu)=>
    let v:=(ρ x).cellsOf;if cs.length=tot/\v.length=n/\dQ v=true/\bu+n<=cs.length/\(pu=false\/cJ v=true) then some (.ud,o.set id (.cells (fy cs bu (ee pu v)) e sz pu)) else none
   |_=>none
  |_=>none
def aNJ (x:Operand) (_call:cw) (ρ:Operand->AV) (o:a_) (_nid:Nat):Option (AV×a_):=match ρ x with
  | .ptr a b c=>some (.ptr a b c,o)
  | .ep a b=>some (.ep a b,o)
  |_=>none
def aNK (op:BinOp) (x:Operand) (y:Operand) (_call:cw) (ρ:Operand->AV) (o:a_) (_nid:Nat):Option (AV×a_):=match ρ x,ρ y with
  | .sc a,.sc b=>(gh op a b).map λv=>(.sc v,o)
  |_,_=>none
def aNL (neg:Bool) (x:Operand) (y:Operand) (_call:cw) (ρ:Operand->AV) (o:a_) (_nid:Nat):Option (AV×a_):=match ρ x,ρ y with
  | .sc (.bool a),.sc (.bool b)=>some (.sc (.bool (if neg then !(a==b) else a==b)),o)
  |_,_=>none
def aNM (neg:Bool) (ks:List Nat) (x:Operand) (y:Operand) (_call:cw) (ρ:Operand->AV) (o:a_) (_nid:Nat):Option (AV×a_):=match ρ x,ρ y with
  | .agg a,.agg b=>(uk ks a b).map λr=>(.sc (.bool (if neg then !r else r)),o)
  |_,_=>none
def aNN (neg:Bool) (x:Operand) (y:Operand) (_call:cw) (ρ:Operand->AV) (o:a_) (_nid:Nat):Option (AV×a_):=match ρ x,ρ y with
  | .ptr _ _ _,.sc (.pointer none)=>some (.sc (.bool neg),o)
  | .sc (.pointer none),.sc (.pointer none)=>some (.sc (.bool !neg),o)
  |_,_=>none
def aNO (op:UnOp) (x:Operand) (_call:cw) (ρ:Operand->AV) (o:a_) (_nid:Nat):Option (AV×a_):=(q_ op (ρ x)).map (·,o)
def aNP (k:IntKind) (x:Operand) (_call:cw) (ρ:Operand->AV) (o:a_) (_nid:Nat):Option (AV×a_):=match ρ x with
  | .sc (.int _ n)=>some (.sc (.int k (ed k n)),o)
  |_=>none
def aNQ (bu:Nat) (x:Operand) (_call:cw) (ρ:Operand->AV) (o:a_) (_nid:Nat):Option (AV×a_):=(lW bu (ρ x)).map (·,o)
def aNR (bu:Nat) (n:Option Nat) (x:Operand) (_call:cw) (ρ:Operand->AV) (o:a_) (_nid:Nat):Option (AV×a_):=match ρ x with
  | .agg cs=>(fF cs bu n).map (·,o)
  |_=>none
def Z_ (len:Nat) (sz:Nat) (x:Operand) (i:Operand) (_call:cw) (ρ:Operand->AV) (o:a_) (_nid:Nat):Option (AV×a_):=match gr (ρ i) with
  |some n=>if 0<=n/\n<len then(lW (n.toNat*sz) (ρ x)).map (·,o) else none
  |none=>none
def Z9 (sz:Nat) (x:Operand) (i:Operand) (_call:cw) (ρ:Operand->AV) (o:a_) (_nid:Nat):Option (AV×a_):=match gr (ρ i) with
  |some n=>(o6 o sz (ρ x) n).map (·,o)
  |none=>none
def Z8 (len:Nat) (sz:Nat) (n:Option Nat) (x:Operand) (i:Operand) (_call:cw) (ρ:Operand->AV) (o:a_) (_nid:Nat):Option (AV×a_):=match gr (ρ i),ρ x with
  |some k,.agg cs=>if 0<=k/\k<len then(fF cs (k.toNat*sz) n).map (·,o) else none
  |_,_=>none
def Z7 (x:Operand) (i:Operand) (_call:cw) (ρ:Operand->AV) (o:a_) (_nid:Nat):Option (AV×a_):=match gr (ρ i),ρ x with
  |some k,.sc (.string s)=>if 0<=k then(s[k.toNat]?).map λb=>(.sc (.int .u8 b.toNat),o) else none
  |_,_=>none
def Z6 (z:List Value) (e:TypeId) (sz:Nat) (a:Nat) (l:Operand) (c:Operand) (pu:Bool) (b:cw) (ρ:Operand->AV) (o:a_) (qE:Nat):Option (AV×a_):=match gr (ρ l),gr (ρ c) with
  |some n,some m=>if 0<=n/\n<=m/\m*a<=140737488355328/\m<=1000000000000 then
    (j4 qE (.cells ((δ n.toNat (ee pu (z.map AV.sc))).flatten) e sz pu) o).map λd=>(.os qE 0 n.toNat (n.toNat*sz),d) else none
  |_,_=>none
def Z5 (sz:Nat) (x:Operand) (lo:Option Operand) (hi:Option Operand) (_call:cw) (ρ:Operand->AV) (o:a_) (_nid:Nat):Option (AV×a_):=(oL o sz (ρ x) (lo.map ρ) (hi.map ρ)).map (·,o)
def Z4 (sz:Nat) (x:Operand) (lo:Option Operand) (hi:Operand) (mx:Operand) (_call:cw) (ρ:Operand->AV) (o:a_) (_nid:Nat):Option (AV×a_):=(qH o sz (ρ x) (lo.map ρ) (ρ hi) (ρ mx)).map (·,o)
def Z3 (x:Operand) (lo:Option Operand) (hi:Option Operand) (_call:cw) (ρ:Operand->AV) (o:a_) (_nid:Nat):Option (AV×a_):=match ρ x with
  | .sc (.string s)=>match gq 0 (lo.map ρ),gq s.size (hi.map ρ) with
   |some l,some h=>if l<=h/\h<=s.size then some (.sc (.string (s.extract l h)),o) else none
   |_,_=>none
  |_=>none
def aN0 (e:TypeId) (sz:Nat) (a:Nat) (s:Operand) (x:Operand) (pu:Bool) (b:cw) (ρ:Operand->AV) (o:a_) (qE:Nat):Option (AV×a_):=o5 e sz a pu (ρ s) (ρ x) o qE
def aN1 (k:Nat) (x:Operand) (_call:cw) (ρ:Operand->AV) (o:a_) (_nid:Nat):Option (AV×a_):=(kz o k (ρ x)).map λ(n:Nat)=>(.sc (.int .i64 n),o)
def aN2 (n:Nat) (_call:cw) (_ρ:Operand->AV) (o:a_) (_nid:Nat):Option (AV×a_):=some (.sc (.int .i64 n),o)
def aN3 (mx:Bool) (x:Operand) (y:Operand) (_call:cw) (ρ:Operand->AV) (o:a_) (_nid:Nat):Option (AV×a_):=match ρ x,ρ y with
  | .sc (.int k a),.sc (.int k' b)=>if k=k' then some (.sc (.int k (if mx then(if b>a then b else a) else(if b<a then b else a))),o) else none
  |_,_=>none
def aN4 (f:FuncId) (args:List Operand) (own:Bool) (call:cw) (ρ:Operand->AV) (o:a_) (_nid:Nat):Option (AV×a_):=fV call f (args.map ρ) o own
def Px (f:Operand) (args:List Operand) (own:Bool) (call:cw) (ρ:Operand->AV) (o:a_) (_nid:Nat):Option (AV×a_):=match ρ f with
  | .fn (.func g) first captured=>fV call g (first++args.map ρ++captured) o own
  |_=>none
def aN5 (x:Operand) (i:Nat) (_call:cw) (ρ:Operand->AV) (o:a_) (_nid:Nat):Option (AV×a_):=match ρ x with
  | .Gz vs=>(vs[i]?).map (·,o)
  |_=>none
def aN6 (f:Fn) (first:List Operand) (captured:List Operand) (_call:cw) (ρ:Operand->AV) (o:a_) (_nid:Nat):Option (AV×a_):=some (.fn f (first.map ρ) (captured.map ρ),o)
def aN7 (t:TypeId) (x:Operand) (_call:cw) (ρ:Operand->AV) (o:a_) (_nid:Nat):Option (AV×a_):=match ρ x with
  | .agg cs=>if cJ cs=true then some (.ifc t cs,o) else none
  |_=>none
def Pw (tab:List (TypeId×FuncId)) (x:Operand) (args:List Operand) (call:cw) (ρ:Operand->AV) (o:a_) (_nid:Nat):Option (AV×a_):=match ρ x with
  | .ifc t cs=>match s9 tab t with
   |some f=>fV call f (.agg cs::args.map ρ) o false
   |none=>none
  |_=>none
def aN8 (kt:List Nat×Bool) (pu:Bool) (_call:cw) (_ρ:Operand->AV) (o:a_) (qE:Nat):Option (AV×a_):=(j4 qE (.map [] kt pu) o).map λo'=>(.mp qE,o')
def aN9 (z:List Value) (agg:Bool) (ks:List Nat) (ka:Bool) (x:Operand) (k:Operand) (ok:Bool) (_call:cw) (ρ:Operand->AV) (o:a_) (_nid:Nat):Option (AV×a_):=match ρ x,oK ks ka (ρ k) with
  | .mp id,some kv=>match o[id]? with
   |some (.map es kt _)=>if kt=(ks,ka) then match lu kv es 0,pS z agg with
    |some (some (_,v)),_=>some (if ok then .Gz [v,.sc (.bool true)] else v,o)
    |some none,some v=>some (if ok then .Gz [v,.sc (.bool false)] else v,o)
    |_,_=>none
    else none
   |_=>none
  |_,_=>none
def Zu (ks:List Nat) (ka:Bool) (x:Operand) (k:Operand) (v:Operand) (_call:cw) (ρ:Operand->AV) (o:a_) (_nid:Nat):Option (AV×a_):=match ρ x,oK ks ka (ρ k) with
  | .mp id,some kv=>match o[id]? with
   |some (.map es kt pu)=>
    if(pu=true/\(ρ v).pure=false)\/kt≠(ks,ka) then none else
    match lu kv es 0 with
    |some (some (i,_))=>some (.ud,o.set id (.map (es.modify i λ_=>(kv,ρ v)) kt pu))
    |some none=>some (.ud,o.set id (.map (es++[(kv,ρ v)]) kt pu))
    |none=>none
   |_=>none
  |_,_=>none
def Hm (op:bR):cw->(Operand->AV)->a_->Nat->Option (AV×a_):=
 match op with
 | .mov x=>aNA x
 | .pick c a b=>aNB c a b
 | .alloc z e pu=>aNC z e pu
 | .box e x=>aND e x
 | .build z parts=>aNE z parts
 | .aoE z len parts e sz=>aNF z len parts e sz
 | .ard z len parts a3 sz=>aNG z len parts a3 sz
 | .load n a=>aNH n a
 | .store n a x=>aNI n a x
 | .asq x=>aNJ x
 | .bin op x y=>aNK op x y
 | .beq neg x y=>aNL neg x y
 | .eqf neg ks x y=>aNM neg ks x y
 | .arf neg x y=>aNN neg x y
 | .un op x=>aNO op x
 | .conv k x=>aNP k x
 | .asr bu x=>aNQ bu x
 | .field bu n x=>aNR bu n x
 | .asu len sz x i=>Z_ len sz x i
 | .aqx sz x i=>Z9 sz x i
 | .idx len sz n x i=>Z8 len sz n x i
 | .atG x i=>Z7 x i
 | .ao6 z e sz bytes l c pu=>Z6 z e sz bytes l c pu
 | .slice sz x lo hi=>Z5 sz x lo hi
 | .slice3 sz x lo hi mx=>Z4 sz x lo hi mx
 | .asv x lo hi=>Z3 x lo hi
 | .append e sz bytes s x pu=>aN0 e sz bytes s x pu
 | .len k x=>aN1 k x
 | .asw n=>aN2 n
 | .mm mx x y=>aN3 mx x y
 | .call f args own=>aN4 f args own
 | .ak4 f args own=>Px f args own
 | .extract x i=>aN5 x i
 | .arh f first captured=>aN6 f first captured
 | .asx t x=>aN7 t x
 | .aoe tab x args=>Pw tab x args
 | .ao7 kt pu=>aN8 kt pu
 | .lookup z agg ks ka x k ok=>aN9 z agg ks ka x k ok
 | .apP ks ka x k v=>Zu ks ka x k v
def qd (call:cw) (op:bR) (ρ:Operand->AV) (o:a_) (qE:Nat):Option (AV×a_):=Hm op call ρ o qE
theorem yr (call:cw) (a:bR) (ρ:Operand->AV) (o:a_) (qE:Nat):qd call a ρ o qE=MO call a ρ o qE:=by
 cases a<;>rfl
def lr (env:iT) (g:Option (Option Nat×Bool)):Option Bool:=
 match g with
 |none=>some true
 |some (none,_)=>none
 |some (some s,b)=>match cY env s with
  | .sc (.bool c)=>some (c==b)
  | .Gz []=>some false
  |_=>none
def gp (call:cw) (base:Nat) (i:cM) (st:St):Option St:=
 match lr st.env i.guard with
 |none=>none
 |some false=>some ⟨nx st.env i.dst (.Gz []),st.o⟩
 |some true=>match qd call i.op (dO st.env) st.o (base+i.qE) with
  |some (v,o')=>some ⟨nx st.env i.dst v,o'⟩
  |none=>none
def fw (call:cw) (base:Nat):List cM->St->Option St
 |[],st=>some st
 |i::r,st=>match gp call base i st with
  |some st'=>fw call base r st'
  |none=>none
def eD:AV->List Nat
 | .ptr id _ _=>[id]
 | .os id _ _ _=>[id]
 | .mp id=>[id]
 |_=>[]
def di (op:bR) (ρ:Operand->AV) (o:a_) (qE:Nat):List Nat:=
 match op with
 | .load _ a=>eD (ρ a)
 | .aqx _ x _=>eD (ρ x)
 | .slice _ x _ _=>eD (ρ x)
 | .slice3 _ x _ _ _=>eD (ρ x)
 | .len _ x=>eD (ρ x)
 | .lookup _ _ _ _ x _ _=>eD (ρ x)
 | .call _ args false=>(args.map ρ).flatMap (eE o 6)
 | .ak4 f args false=>match ρ f with
  | .fn _ first captured=>(first++args.map ρ++captured).flatMap (eE o 6)
  |_=>[]
 | .call _ args true=>b_ o e_ (args.map ρ) []
 | .ak4 f args true=>match ρ f with
  | .fn _ first captured=>b_ o e_ (first++args.map ρ++captured) []
  |_=>[]
 | .aoe _ x args=>match ρ x with
  | .ifc _ cs=>(.agg cs::args.map ρ).flatMap (eE o 6)
  |_=>[]
 | .alloc .. | .box .. | .aoE .. | .ao6 .. | .ao7 .. =>[qE]
 | .store _ a _=>eD (ρ a)
 | .append _ _ _ s x _=>qE::(eD (ρ s)++eD (ρ x))
 | .apP _ _ x _ _=>eD (ρ x)
 |_=>[]
def fj (op:bR) (ρ:Operand->AV) (o:a_) (qE:Nat):List Nat:=
 match op with
 | .alloc .. | .box .. | .aoE .. | .ao6 .. | .ao7 .. =>[qE]
 | .store _ a _=>eD (ρ a)
 | .append _ _ _ s _ _=>qE::eD (ρ s)
 | .call _ args true=>b_ o e_ (args.map ρ) []
 | .ak4 f args true=>match ρ f with
  | .fn _ first captured=>b_ o e_ (first++args.map ρ++captured) []
  |_=>[]
 | .apP _ _ x _ _=>eD (ρ x)
 |_=>[]
open Classical in
noncomputable def dL (call:cw) (op:bR) (ρ:Operand->AV) (o:a_) (qE:Nat):List Nat:=
 match op with
 | .call f args true=>match gU call f (args.map ρ) o with
  |some (_,o')=>(b_ o e_ (args.map ρ) []).filter λj=>decide (o'[j]?≠o[j]?)
  |none=>[]
 |op=>fj op ρ o qE
abbrev Trace:=List (Nat×List Nat×List Nat)
noncomputable def lq (call:cw) (base:Nat):List cM->St->Trace
 |[],_=>[]
 |i::r,st=>(match lr st.env i.guard with
   |some true=>(i.idx,di i.op (dO st.env) st.o (base+i.qE),dL call i.op (dO st.env) st.o (base+i.qE))
   |_=>(i.idx,[],[]))::match gp call base i st with
  |some st'=>lq call base r st'
  |none=>[]
def wu (a b:List Nat):Bool:=a.all λx=>!b.contains x
def oJ (tr:Trace) (i:Nat):List Nat×List Nat:=
 match tr with
 |[]=>([],[])
 |(j,x)::r=>if j==i then x else oJ r i
def rA (n:Nat) (tr:Trace) (chk:List (Nat×Nat)):Bool:=
 chk.all λp=>let a:=oJ tr p.1;let b:=oJ tr p.2;wu a.2 b.1&&wu b.2 a.1&&a.1.all (λi=>decide (i<n))&&b.1.all (λi=>decide (i<n))
def fu (k:Nat):a_:=δ k .dead
def pR (base:Nat) (o:a_):a_:=if(o.drop base).all (·.lX) then o.take base else o
noncomputable def n9 (call:cw) (k:Nat) (ops:List cM) (chk:List (Nat×Nat)) (st:St):Option St:=
 let st0:St:=⟨st.env,st.o++fu k⟩;match fw call st.o.length ops st0 with
 |some st'=>if chk.isEmpty||rA st0.o.length (lq call st.o.length ops st0) chk then some ⟨st'.env,if k=0 then st'.o else pR st.o.length st'.o⟩ else none
 |none=>none
mutual
def AV.Q5 (o:a_) (p:Nat->Bool):AV->Option AV
 | .os id bu len tot=>if p id then match o[id]? with
   |some (.cells cs _ sz pu)=>if pu then(if cs.length=tot/\bu+len*sz<=tot then some (.sl len ((cs.drop bu).take (len*sz))) else none) else some (.os id bu len tot)
   |_=>some (.os id bu len tot)
  else some (.os id bu len tot)
 | .ptr id bu tot=>if p id then match o[id]? with
   |some (.cells _ _ _ pu)=>if pu then none else some (.ptr id bu tot)
   |_=>some (.ptr id bu tot)
  else some (.ptr id bu tot)
 | .agg cs=>(gf o p cs).map .agg
 | .Gz cs=>(gf o p cs).map .Gz
 | .fn f a b=>match gf o p a,gf o p b with
  |some a',some b'=>some (.fn f a' b')
  |_,_=>none
 |v=>some v
def gf (o:a_) (p:Nat->Bool):List AV->Option (List AV)
 |[]=>some []
 |c::cs=>match c.Q5 o p,gf o p cs with
  |some c',some cs'=>some (c'::cs')
  |_,_=>none
end
def oH (o:a_) (p:Nat->Bool):List (Value×AV)->Option (List (Value×AV))
 |[]=>some []
 |e::es=>match e.2.Q5 o p,oH o p es with
  |some v,some es'=>some ((e.1,v)::es')
  |_,_=>none
def OL.Q5 (o:a_) (p:Nat->Bool):OL->Option OL
 | .dead=>some .dead
 | .cells cs e sz pu=>if pu then some (.cells cs e sz pu) else(gf o p cs).map λcs'=> .cells cs' e sz pu
 | .map es kt pu=>if pu then some (.map es kt pu) else(oH o p es).map λes'=> .map es' kt pu
def iR (o:a_) (p:Nat->Bool):a_->Option a_
 |[]=>some []
 |x::r=>match x.Q5 o p,iR o p r with
  |some y,some l=>some (y::l)
  |_,_=>none
def e6 (p:Nat->Bool):Nat->a_->a_
 |_,[]=>[]
 |i,x::r=>(match x with
  | .cells cs e sz true=>if p i then .dead else .cells cs e sz true
  |x=>x)::e6 p (i+1) r
def tG (o:a_) (p:Nat->Bool):iT->Option iT
 |[]=>some []
 |(k,v)::r=>match v.Q5 o p,tG o p r with
  |some v',some r'=>some ((k,v')::r')
  |_,_=>none
def Br (h:iM) (st:St):Option AV:=
 match h.bu with
 |none=>some (cY st.env h.slot)
 |some k=>match behind st.o (cY st.env h.slot) with
  |some (cs,bu)=>cs[bu+k]?
  |none=>none
def Bq (id:Nat) (st:St):St:=
 match st.o[id]? with
 |some (.cells cs e sz true)=>⟨st.env,st.o.set id (.cells cs e sz false)⟩
 |_=>st
def Bp (h:iM) (st:St):St:=
 match h.bu with
 |none=>match cY st.env h.slot with
  | .sc (.slice none 0 0)=>⟨(h.slot,.os st.o.length 0 0 0)::st.env,st.o++[.cells [] h.e h.sz h.pu]⟩
  | .os id _ _ _=>if h.sz=0 then Bq id st else st
  |_=>st
 |some k=>match cY st.env h.slot with
  | .ptr id bu tot=>match st.o[id]? with
   |some (.cells cs e sz pu)=>match cs[bu+k]? with
    |some (.sc (.slice none 0 0))=>
     if cs.length=tot/\pu=false then⟨st.env,(st.o.set id (.cells (cs.set (bu+k) (.os st.o.length 0 0 0)) e sz pu))++[.cells [] h.e h.sz h.pu]⟩ else st
    |_=>st
   |_=>st
  |_=>st
def Bo (id:Nat) (st:St):St:=
 let p:Nat->Bool:=λi=>i==id;match tG st.o p st.env,iR st.o p st.o with
 |some env,some o=>⟨env,e6 p 0 o⟩
 |_,_=>st
def yq (id:Nat) (st:St):St:=
 match st.o[id]? with
 |some (.cells cs e sz false)=>if cJ cs then⟨st.env,st.o.set id (.cells cs e sz true)⟩ else st
 |_=>st
def jE (lo:Nat) (h:iM) (st:St):St:=
 if h.own then Bp h st
 else match Br h st with
  |some (.os id _ _ _)=>if Nat.ble lo id then Bo id (yq id st) else st
  |_=>st
def eK (live:List Nat) (env:iT):iT:=live.map λs=>(s,cY env s)
inductive Out where
 |norm
 |exit (id:Nat)
 |ret
 |goto (l:Nat)
 deriving DecidableEq
def trim (k:Nat) (st:St):St:=
 if st.o.length<=k then st
 else if(st.env.all λp=>p.2.VI k)&&((st.o.take k).all λx=>x.VI k) then⟨st.env,st.o.take k⟩ else st
structure lU where
 slot:Nat
 cell:Option (Option Nat)
structure el where
 params:Nat
 ntmps:Nat
 body:IR
 res:List lU
def pQ (st:St) (r:lU):Option AV:=
 match r.cell with
 |none=>some (cY st.env r.slot)
 |some n=>match behind st.o (cY st.env r.slot) with
  |some (cs,bu)=>fF cs bu n
  |none=>none
def mJ (st:St) (rs:List lU):Option AV:=
 match rs.mapM (pQ st) with
 |some [v]=>some v
 |some vs=>some (.Gz vs)
 |none=>none
def kI (k:Nat) (r:AV) (o:a_):Option (AV×a_):=
 match r.Q5 o (λi=>decide (k<=i)),iR o (λi=>decide (k<=i)) o with
 |some r1,some o1=>
  let o2:=e6 (λi=>decide (k<=i)) 0 o1;let ids:=b_ o2 e_ (r1::(o2.take k).flatMap OL.avs) (ω k);if gU.aoF ids then
   match r1.bI (λj=>idxOf ids j),j7 o2 ids ids with
   |some r2,some s2=>some (r2,s2)
   |_,_=>none
  else none
 |_,_=>none
where OL.avs:OL->List AV
 | .cells cs _ _ pu=>if pu then[] else cs
 | .map es _ pu=>if pu then[] else es.map (·.2)
 | .dead=>[]
def finish (own:Bool) (k:Nat) (r:AV) (o:a_):Option (AV×a_):=
 if own then kI k r o
 else match k with
  |0=>match freeze o 6 r with
   |some r'=>some (r',[])
   |none=>none
  |_+1=>none
def gn:Nat->List AV->iT
 |_,[]=>[]
 |i,v::vs=>(i,v)::gn (i+1) vs
structure jm where
 fn:FuncId->Option el
 K:cw
def pP (ex:IR->St->Option (Out×St)):IR->St->Option St
 | .skip,st=>some st
 | .seq x y,st=>match ex x st with
  |some (.norm,st')=>pP ex y st'
  |_=>none
 |_,_=>none
def pO:Out->Bool
 | .norm| .ret=>true
 |_=>false
def Hl (ex:Nat->IR->St->Option (Out×St)) (F:Option el) (cs:List AV) (s:St):Option (Out×St):=match F with
 |some F=>if cs.length=F.params/\F.res.isEmpty=true then match ex s.o.length F.body ⟨gn 0 cs,s.o⟩ with
  |some (out,s3)=>if pO out=true then some (.ret,⟨s.env,s3.o⟩) else none
  |none=>none else none
 |none=>none
def rz (T:jm) (ex:Nat->IR->St->Option (Out×St)) (lo:Nat) (c:IR) (st:St):Option (Out×St):=match c with
 | .dfr g caps d a b=>match pP (ex lo) a st with
  |some s0=>match ex s0.o.length b ⟨(d,.ud)::s0.env,s0.o⟩ with
   |some (out,s2)=>if pO out=true then Hl ex (T.fn g) (caps.map (dO s0.env)) s2 else none
   |none=>none
  |none=>none
 |c=>ex lo c st
def oG (T:jm) (ex:Nat->IR->St->Option (Out×St)):cw:=λf args o own=>
 match T.K f args o own with
 |some r=>some r
 |none=>match T.fn f with
  |none=>none
  |some F=>if args.length=F.params then
    match rz T ex o.length F.body ⟨gn 0 args,o⟩ with
    |some (.norm,st)|some (.ret,st)=>match mJ st F.res with
     |some r=>finish own o.length r st.o
     |none=>none
    |_=>none
   else none
def pN (t:Nat):iT->iT
 |[]=>[]
 |p::r=>bif δu p.1 t then pN t r else p::pN t r
def n5 (x:Operand) (env:iT):iT:=
 match x with
 | .tmp t=>pN t env
 |_=>env
inductive Md where
 |plain
noncomputable def Hk (_:Md) (_:Bool) (call:cw) (k:Nat) (ops:List cM) (chk:List (Nat×Nat)) (st:St):Option St:=n9 call k ops chk st
noncomputable def exec (T:jm):Md->Nat->Nat->IR->St->Option (Out×St)
 |_,0,_,_,_=>none
 |md,n+1,lo,c,st=>
  match c with
  | .skip=>some (.norm,st)
  | .region _ draw k ops chk live pre post=>match Hk md draw (oG T (exec T .plain n)) k ops chk (pre.foldl (λs h=>jE lo h s) st) with
   |some st'=>some (.norm,post.foldl (λs h=>jE lo h s) ⟨eK live st'.env,st'.o⟩)
   |none=>none
  | .seq a b=>match exec T md n lo a st with
   |some (.norm,st')=>exec T md n lo b st'
   |r=>r
  | .cond x a b=>match dO st.env x with
   | .sc (.bool true)=>exec T md n lo a ⟨n5 x st.env,st.o⟩
   | .sc (.bool false)=>exec T md n lo b ⟨n5 x st.env,st.o⟩
   |_=>none
  | .block id b=>match exec T md n lo b st with
   |some (.exit id',st')=>if id'=id then some (.norm,st') else some (.exit id',st')
   |r=>r
  | .loop b=>match exec T md n lo b st with
   |some (.norm,st')=>exec T md n lo (.loop b) (trim st.o.length st')
   |r=>r
  | .exit id=>some (.exit id,st)
  | .ret=>some (.ret,st)
  | .goto l=>some (.goto l,st)
  | .nw x a b=>match dO st.env x with
   | .sc (.bool true)=>exec T md n lo a st
   | .sc (.bool false)=>exec T md n lo b st
   |_=>none
  | .turns l b=>match exec T md n lo b st with
   |some (.goto l',st')=>if l=some l' then exec T md n lo (.turns l b) (trim st.o.length st') else none
   |r=>r
  | .dfr .. =>none
def bR.jZ:bR->List Operand
 | .mov x| .box _ x| .load _ x| .asq x| .un _ x| .conv _ x| .asr _ x| .field _ _ x| .len _ x| .extract x _=>[x]
 | .pick c a b=>[c,a,b]
 | .alloc .. | .asw _| .ao7 .. =>[]
 | .build _ ps=>ps.map (·.2.2)
 | .aoE _ _ ps _ _| .ard _ _ ps _ _=>ps.map (·.2)
 | .store _ a x=>[a,x]
 | .bin _ x y| .beq _ x y| .eqf _ _ x y| .arf _ x y| .mm _ x y=>[x,y]
 | .asu _ _ x i| .aqx _ x i| .idx _ _ _ x i| .atG x i=>[x,i]
 | .ao6 _ _ _ _ l c _=>[l,c]
 | .slice _ x lo hi| .asv x lo hi=>x::(lo.toList++hi.toList)
 | .slice3 _ x lo hi mx=>x::hi::mx::lo.toList
 | .append _ _ _ s x _=>[s,x]
 | .call _ args _=>args
 | .ak4 f args _=>f::args
 | .arh _ a b=>a++b
 | .asx _ x=>[x]
 | .aoe _ x args=>x::args
 | .lookup _ _ _ _ x k _=>[x,k]
 | .apP _ _ x k v=>[x,k,v]
def bR.bt:bR->Nat
 | .mov _| .pick .. | .build .. | .ard .. | .asq _| .bin .. | .beq .. | .eqf .. | .arf .. | .un .. | .conv .. | .asr .. | .field .. | .asu .. | .idx .. | .atG .. | .asv .. | .asw _
 | .mm .. | .extract .. | .arh .. | .asx .. =>0
 | .load .. | .aqx .. | .slice .. | .slice3 .. | .len .. | .lookup .. | .aoe .. | .call _ _ false| .ak4 _ _ false=>1
 | .alloc .. | .box .. | .aoE .. | .ao6 .. | .ao7 .. | .store .. | .append .. | .apP .. =>2
 | .call _ _ true| .ak4 _ _ true=>3
def bR.makes:bR->Bool
 | .alloc .. | .box .. | .aoE .. | .ao6 .. | .ao7 .. | .append .. =>true
 |_=>false
def tmpsOf (l:List Operand):List Nat:=l.filterMap λ| .tmp t=>some t|_=>none
def cM.reads (i:cM):List Nat:=
 tmpsOf i.op.jZ++(match i.guard with|some (some s,_)=>[s]|_=>[])
def Hj (d:Option Nat) (l:List Nat):Bool:=match d with|none=>true|some d=>!l.contains d
def yp (a b:cM):Bool:=
 Hj a.dst b.reads&&Hj b.dst a.reads&&(match a.dst,b.dst with|some x,some y=>x !=y|_,_=>true)
def wt (a b:cM):Bool:=a.op.bt==0||b.op.bt==0||(a.op.bt==1&&b.op.bt==1)
def Bn (a b:cM):Bool:=a.op.bt !=3||b.op.bt !=3
def wq:Nat->List Oper->Bool
 |_,[]=>true
 |i,o::r=>o.after.toList.all (λe=>!Region.binds .any e||decide (e.on<i))&&wq (i+1) r
structure RH where
 id:Nat
 live:List Nat
 perm:List Nat:=[]
 flags:List Nat:=[]
 pre:List iM:=[]
 post:List iM:=[]
def pM (c:TypeId->Option (List Nat)):Nat->List Field->Option (List Nat)
 |_,[]=>some []
 |b,f::d=>if f.name= "_" ∨f.offset≠b then none else match c f.type with
  |some a=>match pM c (b+a.length) d with
   |some r=>some (a++r)
   |none=>none
  |none=>none
def fE (P:Program):Nat->TypeId->Option (List Nat)
 |0,_=>none
 |d+1,t=>match P.underlying t,(P.info? t).map (·.size) with
  |some (.int _),some 1=>some [0]
  |some .bool,some 1=>some [1]
  |some .string,some 1=>some [2]
  |some (.struct b),some n=>if P.stoodInHeld t then none else match pM (fE P d) 0 b.toList with
   |some a=>if a.length=n then some a else none
   |none=>none
  |some (.array k e),some n=>match fE P d e with
   |some a=>if n=k*a.length then some ((δ k a).flatten) else none
   |none=>none
  |_,_=>none
def eI (P:Program) (t:TypeId):Option Bool:=
 match P.underlying t with
 |some (.struct _)|some (.array _ _)=>some true
 |some _=>some false
 |none=>none
def bK (P:Program) (t:TypeId):Option Nat:=(P.info? t).map (·.size)
def wo (P:Program) (t:TypeId):Option Nat:=(P.info? t).map (·.bytes)
def ns (P:Program) (t:TypeId):Option (Option Nat):=
 match eI P t,bK P t with
 |some true,some n=>some (some n)
 |some false,some _=>some none
 |_,_=>none
def kH (P:Program) (t:TypeId):Option (List Value):=
 match(P.info? t).bind (·.zero),bK P t with
 |some z,some n=>if z.cells.toList.all (·.oneCell')&&z.cells.size==n then some z.cells.toList else none
 |_,_=>none
def yo (P:Program) (t:TypeId) (g:Bool):Bool:=
 match(P.info? t).bind (·.zero) with
 |some (.agg _)=>g
 |some _=>!g
 |none=>false
def Bm (P:Program) (name:String) (t:TypeId):Option FuncId:=
 match P.underlying t,P.info? t with
 |some (.struct _),some i=>match i.methods.find? (·.name==name) with
  |some m=>match m.path.toList,m.func with
   |[],some (f,false)=>some f
   |_,_=>none
  |none=>none
 |_,_=>none
def wm (P:Program) (name:String):Nat->List (TypeId×FuncId)
 |0=>[]
 |t+1=>match Bm P name t with
  |some f=>(t,f)::wm P name t
  |none=>wm P name t
def Pv (P:Program) (name:String):List (TypeId×FuncId):=wm P name P.types.size
def pL {d c:Type} (f:d->Option c):List d->Option (List c)
 |[]=>some []
 |a::l=>match f a,pL f l with
  |some b,some r=>some (b::r)
  |_,_=>none
def fU (P:Program) (f:FuncId):Bool:=(P.funcs[f]?).any fun a=>a.body.isSome&&!(a.name== "runtime.NumGoroutine")
def Pu (P:Program) (a:Array Field):Option (List (Nat×Nat)):=a.toList.mapM λf=>(P.info? f.type).map λi=>(f.offset,i.size)
def Pt (a:List (Nat×Nat)) (p:Nat×Operand):Option (Nat×Nat×Operand):=(a[p.1]?).map λq=>(q.1,q.2,p.2)
def n4 (P:Program) (fl:Bool) (o:Oper):Option bR:=
 match o.op with
 | .move x| .assign x=>some (.mov x)
 | .pick c a b=>some (.pick c a b)
 | .alloc e=>(kH P e).map λz=> .alloc z e fl
 | .box e x=>some (.box e x)
 | .build t parts=>match kH P t,P.underlying t with
  |some z,some (.struct fields)=>match Pu P fields with
   |some places=>(pL (Pt places) parts.toList).map λps=> .build z ps
   |none=>none
  |some z,some (.array _ e)=>(bK P e).map λn=> .build z (parts.toList.map λp=>(p.1*n,n,p.2))
  |_,_=>none
 | .buildSlice t len parts=>match P.underlying t with
  |some (.slice e)=>match kH P e with
   |some z=>if len*z.length<=16777216/\0<z.length then some (if fl then .ard z len (parts.toList.map λp=>(p.1*z.length,p.2)) e z.length else .aoE z len (parts.toList.map λp=>(p.1*z.length,p.2)) e z.length) else none
   |none=>none
  |_=>none
 | .load t a=>(ns P t).map λn=> .load n a
 | .store t a x=>(bK P t).map λn=> .store n a x
 | .nilCheck x=>some (.asq x)
 | .binOp op t x y _=>match op with
  | .eql| .neq=>match P.underlying t with
   |some (.struct _)|some (.array _ _)=>if 20<=P.depth then(fE P 20 t).map λks=> .eqf (op matches .neq) ks x y else none
   |some .bool=>some (.beq (op matches .neq) x y)
   |some (.int _)|some .string=>some (.bin op x y)
   |some (.pointer _)=>some (.arf (op matches .neq) x y)
   |_=>none
  |_=>some (.bin op x y)
 | .unOp op _ x=>some (.un op x)
 | .convert s d x=>match P.underlying s,P.underlying d with
  |some _,some (.int k)=>some (.conv k x)
  |_,_=>none
 | .fieldAddr s x f=>match P.underlying s with
  |some (.struct fs)=>match fs[f]? with
   |some g=>match bK P g.type with
    |some n=>if n=0 then none else some (.asr g.offset x)
    |none=>none
   |none=>none
  |_=>none
 | .field t x f=>match P.underlying t with
  |some (.struct fs)=>match fs[f]? with
   |some g=>(ns P g.type).map λn=> .field g.offset n x
   |none=>none
  |_=>none
 | .indexAddr t x i=>match P.underlying t with
  |some (.array len e)=>(bK P e).map λn=> .asu len n x i
  |some (.slice e)=>match bK P e with
   |some n=>if n=0 then none else some (.aqx n x i)
   |none=>none
  |_=>none
 | .index t x i=>match P.underlying t with
  |some (.array len e)=>match bK P e,ns P e with
   |some s,some n=>some (.idx len s n x i)
   |_,_=>none
  |some .string=>some (.atG x i)
  |_=>none
 | .makeSlice t l c=>match P.underlying t with
  |some (.slice e)=>match kH P e,wo P e with
   |some z,some b=>if 0<z.length then some (.ao6 z e z.length b l c fl) else none
   |_,_=>none
  |_=>none
 | .slice t x lo hi none=>match P.underlying t with
  |some (.slice e)=>match bK P e with
   |some n=>if n=0 then none else some (.slice n x lo hi)
   |none=>none
  |some .string=>some (.asv x lo hi)
  |_=>none
 | .slice t x lo (some hi) (some mx)=>match P.underlying t with
  |some (.slice e)=>match bK P e with
   |some n=>if n=0 then none else some (.slice3 n x lo hi mx)
   |none=>none
  |_=>none
 | .call c=>match c.callee with
  | .value (.func f)=>if fU P f then some (.call f c.args.toList fl) else none
  | .value v=>some (.ak4 v c.args.toList fl)
  | .invoke x name=>if fl then none else some (.aoe (Pv P name) x c.args.toList)
  | .builtin .append=>match c.args.toList,c.argTypes.toList with
   |[s,x],[t,t']=>if t=t' then match P.underlying t with
     |some (.slice e)=>match kH P e,wo P e with
      |some z,some b=>if 0<z.length then some (.append e z.length b s x fl) else none
      |_,_=>none
     |_=>none
    else none
   |_,_=>none
  | .builtin .len=>match c.args.toList,c.argTypes.toList with
   |[x],[t]=>match P.underlying t with
    |some (.slice _)=>some (.len 0 x)
    |some .string=>some (.len 1 x)
    |some (.map _ _)=>some (.len 2 x)
    |some (.array n _)=>some (.asw n)
    |_=>none
   |_,_=>none
  | .builtin .min=>match c.args.toList with
   |[x,y]=>some (.mm false x y)
   |_=>none
  | .builtin .max=>match c.args.toList with
   |[x,y]=>some (.mm true x y)
   |_=>none
  |_=>none
 | .extract x i=>some (.extract x i)
 | .makeFunc f a b=>match f with
  | .func g=>some (.arh (.func g) a.toList b.toList)
  |_=>none
 | .makeInterface t x=>match P.underlying t with
  |some (.struct _)=>some (.asx t x)
  |_=>none
 | .makeMap t none=>match P.underlying t with
  |some (.map kt _)=>match fE P 20 kt,eI P kt with
    |some ks,some ka=>some (.ao7 (ks,ka) fl)
    |_,_=>none
  |_=>none
 | .lookup t x k ok=>match P.underlying t with
  |some (.map kt et)=>match fE P 20 kt,eI P kt,kH P et,eI P et with
    |some ks,some ka,some z,some g=>if yo P et g then some (.lookup z g ks ka x k ok) else none
    |_,_,_,_=>none
  |_=>none
 | .mapUpdate t m k v| .insert t m k v=>match P.underlying t with
  |some (.map kt _)=>match fE P 20 kt,eI P kt with
    |some ks,some ka=>some (.apP ks ka m k v)
    |_,_=>none
  |_=>none
 |_=>none
def Bl (a:Nat):Option Nat->Bool
 |none=>true
 |some d=>decide (d<a)
def pK (P:Program) (c:Nat) (fl:List Nat) (a:Array Oper) (qE i:Nat):Option cM:=
 match a[i]? with
 |none=>none
 |some o=>if Bl c o.dst then(n4 P (fl.contains i) o).map λb=>⟨i,qE,o.dst,b,o.guard.map λg=>(((a[g.1]?).bind (·.dst)),g.2)⟩ else none
def tF (P:Program) (b:Nat) (fl:List Nat) (a:Array Oper):Nat->List Nat->Option (List cM×Nat)
 |k,[]=>some ([],k)
 |k,i::r=>match pK P b fl a k i with
  |none=>none
  |some x=>match tF P b fl a (if x.op.makes then k+1 else k) r with
   |none=>none
   |some (l,n)=>some (x::l,n)
def Bk (acc:List Nat) (s:Nat) (e:Edge):Nat:=if Region.binds .any e then s |||(2^e.on |||acc.getD e.on 0) else s
def nr (b:Array Oper):List Nat:=
 b.toList.foldl (λa o=>a++[o.after.toList.foldl (Bk a) 0]) []
def pJ (c:List Nat):List cM->List (Nat×Nat)
 |[]=>[]
 |a::r=>(r.filterMap λb=>if(c.getD b.idx 0).testBit a.idx||wt a b then none else some (a.idx,b.idx))++pJ c r
def wk (c:List Nat):List cM->Bool
 |[]=>true
 |a::r=>r.all (λb=>(c.getD b.idx 0).testBit a.idx||(yp a b&&(wt a b||Bn a b)))&&wk c r
def iX:List Nat->Bool
 |[]=>true
 |a::r=>!r.contains a&&iX r
def wj (P:Program) (d:Nat) (H:List RH) (id:Nat) (a:Array Oper) (c:Bool):Option IR:=
 match H.find? (·.id==id) with
 |none=>none
 |some h=>
  if c then
   let b:=if h.perm.isEmpty then ω a.size else h.perm;match tF P d h.flags a 0 b with
   |some (l,k)=>if P.follows .mixedOrders&&b.length==a.size&&iX b&&wk (nr a) l&&wq 0 a.toList&&(ω a.size).all b.contains then some (.region id true k l (pJ (nr a) l) h.live h.pre h.post) else none
   |none=>none
  else(tF P d h.flags a 0 (ω a.size)).map λ(l,k)=> .region id false k l [] h.live h.pre h.post
def Bj:Code->Bool
 | .seq a b| .cond _ a b=>Bj a||Bj b
 | .block _ b| .loop b| .scope b=>Bj b
 | .goto _=>true
 |_=>false
def Bi:Code->Option Nat
 | .seq (.label l) c=>if Bj c then some l else none
 |_=>none
def Ps (H:List RH):Operand->Bool
 | .tmp t=>match H.find? (·.id==999999) with
  |some h=>h.live.contains t
  |none=>false
 |_=>false
def comp (P:Program) (nt:Nat) (H:List RH):Code->Option IR
 | .skip=>some .skip
 | .region id ops draw=>wj P nt H id ops draw
 | .seq a b=>match comp P nt H a,comp P nt H b with
  |some x,some y=>some (.seq x y)
  |_,_=>none
 | .cond c a b=>match comp P nt H a,comp P nt H b with
  |some x,some y=>some (if Ps H c then .nw c x y else .cond c x y)
  |_,_=>none
 | .block id b=>(comp P nt H b).map (.block id)
 | .loop b=>(comp P nt H b).map .loop
 | .exit id=>some (.exit id)
 | .ret=>some .ret
 | .label _=>some .skip
 | .goto l=>some (.goto l)
 | .scope b=>(comp P nt H b).map λx=> .turns (Bi b) x
 |_=>none
def Bh (h:Array Oper):Option (FuncId×List Operand×Nat):=match h.toList with
 |[f,e]=>match f.dst,f.op,f.guard,e.op,e.dst,e.guard with
  |some d,.makeFunc (.func g) a b,none,.defer c,none,none=>match c.callee with
   | .value (.tmp i)=>if i=d/\a.toList=[]/\c.args.toList=[] then some (g,b.toList,d) else none
   |_=>none
  |_,_,_,_,_,_=>none
 |_=>none
def tE (P:Program) (f:Nat) (H:List RH):Code->Option (IR×(FuncId×List Operand×Nat)×IR)
 | .seq (.region g e d) c=>match Bh e,d with
  |some x,false=>if x.2.2<f/\fU P x.1=true then(comp P f H c).map λb=>(.skip,x,b) else none
  |_,_=>match wj P f H g e d,tE P f H c with
   |some r,some (a,x,b)=>some (.seq r a,x,b)
   |_,_=>none
 |_=>none
def Hi (P:Program) (a:Nat) (H:List RH) (c:Code):Option IR:=match comp P a H c with
 |some b=>some b
 |none=>(tE P a H c).map λx=> .dfr x.2.1.1 x.2.1.2.1 x.2.1.2.2 x.1 x.2.2
def qF (P:Program):ResultVar->Option lU
 | .tmp t=>some ⟨t,none⟩
 | .cell a t=>(ns P t).map λn=>⟨a,some n⟩
def Bg (P:Program) (H:List RH) (a:Func):Option el:=
 match a.body with
 |none=>none
 |some c=>match Hi P a.ntmps H c,pL (qF P) a.results.toList with
  |some b,some d=>if a.ntmps<a.params.size+a.nfree then none else some ⟨a.params.size+a.nfree,a.ntmps,b,d⟩
  |_,_=>none
end Go.Vi
