import Derived.Orders
import Derived.RowKit3
set_option maxRecDepth 100000
set_option maxHeartbeats 4000000
set_option linter.all false
open BitVec renaming ofInt->γq
open List renaming replicate->δ,range->Γ
open Nat renaming beq->δu
namespace Go.Vi
inductive AV where
 |ud
 |sc (v:Value)
 |agg (cs:List AV)
 |IL (cs:List AV)
 |sl (n:Nat) (cs:List AV)
 |ep (cs:List AV) (bu:Nat)
 |ptr (id bu tot:Nat)
 |os (id bu len tot:Nat)
 |mp (id:Nat)
 |fn (f:Fn) (first captured:List AV)
 |ifc (t:TypeId) (cs:List AV)
 deriving Inhabited
inductive OL where
 |dead
 |cells (cs:List AV) (e:TypeId) (sz:Nat) (pu:Bool)
 |map (es:List (Value×AV)) (kt:List Nat×Bool) (pu:Bool)
 deriving Inhabited
def y5:Value:=.slice none 0 0
def AV.qn:AV->AV
 | .sc (.slice none 0 0)=> .sl 0 []
 |v=>v
def el (pu:Bool) (cs:List AV):List AV:=if pu then cs.map .qn else cs
def AV.cellsOf:AV->List AV
 | .agg cs=>cs
 |v=>[v]
def AV.one:AV->Bool
 | .agg _| .IL _| .ud=>false
 | .sc v=>v.oneCell'
 |_=>true
mutual
def AV.pure:AV->Bool
 | .sc _=>true
 | .sl _ cs=>cJ cs
 |_=>false
def cJ:List AV->Bool
 |[]=>true
 |c::cs=>c.pure&&cJ cs
end
mutual
def AV.VJ (k:Nat):AV->Bool
 | .ud=>true
 | .sc _=>true
 | .agg cs=>dK k cs
 | .IL cs=>dK k cs
 | .sl _ _=>true
 | .ep _ _=>true
 | .ptr id _ _=>decide (id<k)
 | .os id _ _ _=>decide (id<k)
 | .mp id=>decide (id<k)
 | .fn _ a b=>dK k a&&dK k b
 | .ifc _ _=>true
def dK (k:Nat):List AV->Bool
 |[]=>true
 |c::cs=>c.VJ k&&dK k cs
end
def OL.VJ (k:Nat):OL->Bool
 | .dead=>true
 | .cells cs _ _ pu=>pu||dK k cs
 | .map es _ pu=>pu||dK k (es.map (·.2))
abbrev a_:=List OL
def OL.mg:OL->Bool
 | .dead=>true
 |_=>false
def kn (qE:Nat) (x:OL) (o:a_):Option a_:=
 match o[qE]? with
 |some .dead=>some (o.set qE x)
 |_=>none
abbrev jk:=List (Nat×AV)
def cX:jk->Nat->AV
 |[],_=> .ud
 |p::r,s=>bif δu p.1 s then p.2 else cX r s
def nG (env:jk) (dst:Option Nat) (v:AV):jk:=
 match dst with
 |none=>env
 |some d=>(d,v)::env
def AV.uk:Value->AV
 | .agg cs=>if cs.toList.all (·.oneCell') then .agg (cs.toList.map .sc) else .ud
 | .tuple _=> .ud
 |v=> .sc v
def dS (env:jk):Operand->AV
 | .tmp t=>cX env t
 | .const v=> .uk v
 | .global _=> .ud
 | .func f=> .fn (.func f) [] []
inductive bT where
 |mov (x:Operand)
 |pick (c a b:Operand)
 |alloc (z:List Value) (e:TypeId) (pu:Bool)
 |box (e:TypeId) (x:Operand)
 |build (z:List Value) (parts:List (Nat×Nat×Operand))
 |aoU (z:List Value) (len:Nat) (parts:List (Nat×Operand)) (e:TypeId) (sz:Nat)
 |arx (z:List Value) (len:Nat) (parts:List (Nat×Operand)) (e:TypeId) (sz:Nat)
 |load (n:Option Nat) (a:Operand)
 |store (n:Nat) (a x:Operand)
 |asJ (x:Operand)
 |bin (op:BinOp) (x y:Operand)
 |beq (neg:Bool) (x y:Operand)
 |eqf (neg:Bool) (ks:List Nat) (x y:Operand)
 |arz (neg:Bool) (x y:Operand)
 |un (op:UnOp) (x:Operand)
 |conv (k:IntKind) (x:Operand)
 |asK (bu:Nat) (x:Operand)
 |field (bu:Nat) (n:Option Nat) (x:Operand)
 |asL (len sz:Nat) (x i:Operand)
 |aqK (sz:Nat) (x i:Operand)
 |idx (len sz:Nat) (n:Option Nat) (x i:Operand)
 |aua (x i:Operand)
 |apq (z:List Value) (e:TypeId) (sz bytes:Nat) (l c:Operand) (pu:Bool)
 |slice (sz:Nat) (x:Operand) (lo hi:Option Operand)
 |slice3 (sz:Nat) (x:Operand) (lo:Option Operand) (hi mx:Operand)
 |asM (x:Operand) (lo hi:Option Operand)
 |append (e:TypeId) (sz bytes:Nat) (s x:Operand) (pu:Bool)
 |len (k:Nat) (x:Operand)
 |asN (n:Nat)
 |mm (mx:Bool) (x y:Operand)
 |call (f:FuncId) (args:List Operand) (own:Bool)
 |ale (f:Operand) (args:List Operand) (own:Bool)
 |extract (x:Operand) (i:Nat)
 |arA (f:Fn) (first captured:List Operand)
 |asO (t:TypeId) (x:Operand)
 |aov (tab:List (TypeId×FuncId)) (x:Operand) (args:List Operand)
 |apr (kt:List Nat×Bool) (pu:Bool)
 |lookup (z:List Value) (agg:Bool) (ks:List Nat) (ka:Bool) (x k:Operand) (ok:Bool)
 |ap9 (ks:List Nat) (ka:Bool) (x k v:Operand)
structure cM where
 idx:Nat
 qE:Nat
 dst:Option Nat
 op:bT
 guard:Option (Option Nat×Bool)
structure jf where
 own:Bool
 slot:Nat
 bu:Option Nat
 e:TypeId
 sz:Nat
 pu:Bool
inductive IR where
 |skip
 |region (id:Nat) (draw:Bool) (k:Nat) (ops:List cM) (chk:List (Nat×Nat)) (live:List Nat) (pre post:List jf)
 |seq (a b:IR)
 |cond (c:Operand) (a b:IR)
 |block (id:Nat) (c:IR)
 |loop (c:IR)
 |exit (id:Nat)
 |ret
 |goto (l:Nat)
 |turns (l:Option Nat) (b:IR)
 |nE (c:Operand) (a b:IR)
 |dfr (g:FuncId) (caps:List Operand) (d:Nat) (a b:IR)
structure St where
 env:jk
 o:a_
def behind (o:a_):AV->Option (List AV×Nat)
 | .ptr id bu a=>match o[id]? with
  |some (.cells cs _ _ _)=>if cs.length=a then some (cs,bu) else none
  |_=>none
 | .ep cs bu=>some (cs,bu)
 |_=>none
def gf (cs:List AV) (bu:Nat):Option Nat->Option AV
 |none=>cs[bu]?
 |some n=>if bu+n<=cs.length then some (.agg ((cs.drop bu).take n)) else none
def fO (cs:List AV) (bu:Nat):List AV->List AV
 |[]=>cs
 |v::vs=>fO (cs.set bu v) (bu+1) vs
def dV (l:List AV):Bool:=l.all (·.one)
def ei (k:IntKind) (n:Int):Int:=
 match k with
 | .i64=>if decide (-9223372036854775808<=n)&&decide (n<=9223372036854775807) then n else IntKind.wrap .i64 n
 | .u32=>if decide (0<=n)&&decide (n<=4294967295) then n else IntKind.wrap .u32 n
 | .u64=>if decide (0<=n)&&decide (n<=18446744073709551615) then n else IntKind.wrap .u64 n
 |k=>k.wrap n
def A_ (n:Nat):Int:=Int.ofNat (Nat.pow 2 n)
def kO (op:BinOp) (k:IntKind) (a b:Int):Option Value:=
 match op with
 | .add=>some (.int k (ei k (a+b)))
 | .sub=>some (.int k (ei k (a - b)))
 | .mul=>some (.int k (ei k (a*b)))
 | .quo=>if b=0 then none else some (.int k (ei k (a.tdiv b)))
 | .rem=>if b=0 then none else some (.int k (a.tmod b))
 | .and=>some (.int k (ei k (γq k.bits a &&&γq k.bits b).toNat))
 | .or=>some (.int k (ei k (γq k.bits a |||γq k.bits b).toNat))
 | .xor=>some (.int k (ei k (γq k.bits a ^^^γq k.bits b).toNat))
 | .andNot=>some (.int k (ei k (γq k.bits a &&&~~~(γq k.bits b)).toNat))
 | .eql=>some (.bool (a==b))
 | .neq=>some (.bool (a !=b))
 | .lss=>some (.bool (decide (a<b)))
 | .leq=>some (.bool (decide (a<=b)))
 | .gtr=>some (.bool (decide (b<a)))
 | .geq=>some (.bool (decide (b<=a)))
 |_=>none
def gz (op:BinOp):Value->Value->Option Value
 | .int k a,.int c b=>
  match op with
  | .shl=>if b<0 then none else some (.int k (ei k (a*A_ (min b.toNat k.bits))))
  | .shr=>if b<0 then none else some (.int k (a.fdiv (A_ (min b.toNat k.bits))))
  |_=>if k=c then kO op k a b else none
 | .string a,.string b=>match op with
  | .eql=>some (.bool (a.toList==b.toList))
  | .neq=>some (.bool (!(a.toList==b.toList)))
  | .add=>if a.size+b.size<=1000000000 then some (.string (a++b)) else none
  |_=>none
 |_,_=>none
def seq1:Value->Value->Option Bool
 | .int k a,.int c b=>if k=c then some (a==b) else none
 | .bool a,.bool b=>some (a==b)
 | .string a,.string b=>some (a.toList==b.toList)
 |_,_=>none
def ft:List Value->List Value->Option Bool
 |[],[]=>some true
 |x::xs,y::c=>match seq1 x y,ft xs c with
  |some a,some b=>some (a&&b)
  |_,_=>none
 |_,_=>none
def dQ:List Nat->List Value->Bool
 |[],[]=>true
 |0::a,.int _ _::vs=>dQ a vs
 |1::a,.bool _::vs=>dQ a vs
 |2::a,.string _::vs=>dQ a vs
 |_,_=>false
def qw:List AV->Option (List Value)
 |[]=>some []
 | .sc v::r=>(qw r).map (v::·)
 |_=>none
def uP (c:List Nat) (a b:List AV):Option Bool:=
 match qw a,qw b with
 |some x,some y=>if dQ c x&&dQ c y then ft x y else none
 |_,_=>none
def rG (op:UnOp):AV->Option AV
 | .sc (.bool b)=>match op with| .not=>some (.sc (.bool !b))|_=>none
 | .sc (.int k n)=>match op with| .neg=>some (.sc (.int k (ei k (0 - n))))|_=>none
 |_=>none
def gP:AV->Option Int
 | .sc (.int _ n)=>some n
 |_=>none
def mf (d:Nat):AV->Option AV
 | .ptr id bu a=>some (.ptr id (bu+d) a)
 | .ep cs bu=>some (.ep cs (bu+d))
 |_=>none
def me (o:a_) (sz:Nat):AV->Option (Nat×List AV)
 | .sl n cs=>if cs.length=n*sz then some (n,cs) else none
 | .os id bu len a=>match o[id]? with
  |some (.cells cs _ b _)=>if cs.length=a/\b=sz/\bu+len*sz<=a then some (len,(cs.drop bu).take (len*sz)) else none
  |_=>none
 | .sc (.slice none 0 0)=>some (0,[])
 |_=>none
def q8 (bu a sz:Nat):Nat:=if Nat.ble bu a then bu else bu - a - sz
def o7 (o:a_) (sz:Nat) (x:AV) (i:Int):Option AV:=
 match x with
 | .sl n cs=>if 0<=i/\i<n/\cs.length=n*sz then some (.ep cs (i.toNat*sz)) else none
 | .os id bu len a=>match o[id]? with
  |some (.cells cs _ b _)=>if cs.length=a/\b=sz/\0<=i/\i<len/\q8 bu a sz+len*sz<=a then some (.ptr id (q8 bu a sz+i.toNat*sz) a) else none
  |_=>none
 |_=>none
def kN (o:a_):Nat->AV->Option Nat
 |0,.sl n _=>some n
 |0,.os _ _ len _=>some len
 |0,.sc (.slice _ n _)=>some n
 |1,.sc (.string s)=>some s.size
 |2,.mp id=>match o[id]? with
  |some (.map es _ _)=>some es.length
  |_=>none
 |_,_=>none
def o6 (e:TypeId) (sz a:Nat) (pu:Bool) (s x:AV) (o:a_) (qE:Nat):Option (AV×a_):=
 match me o sz x with
 |none=>none
 |some (m,b)=>
  if dV b=false then none else
  match s with
  | .sc (.slice none 0 0)=>
   if m=0 then some (.sc y5,o)
   else if m*a<=140737488355328/\m<=1000000000000/\(pu=false\/cJ b=true) then(kn qE (.cells b e sz pu) o).map λk=>(.os qE 0 m (m*sz),k) else none
  | .os h 0 c d=>match o[h]? with
   |some (.cells g j i f)=>
    if g.length=d/\j=e/\i=sz/\c*sz=d/\(c+m)*a<=140737488355328/\c+m<=1000000000000/\(f=false\/cJ b=true)
    then some (.os h 0 (c+m) (d+m*sz),o.set h (.cells (g++b) e sz f)) else none
   |_=>none
  | .sl n g=>if m=0 then some (.sl n g,o) else none
  |_=>none
def gN (d:Nat):Option AV->Option Nat
 |none=>some d
 |some (.sc (.int _ n))=>if 0<=n then some n.toNat else none
 |_=>none
def oZ (o:a_) (sz:Nat) (x:AV) (lo hi:Option AV):Option AV:=
 match x with
 | .sl n cs=>match gN 0 lo,gN n hi with
  |some l,some h=>if l<=h/\h<=n/\cs.length=n*sz then some (.sl (h - l) ((cs.drop (l*sz)).take ((h - l)*sz))) else none
  |_,_=>none
 | .os id bu len a=>match gN 0 lo,gN len hi with
  |some l,some h=>match o[id]? with
   |some (.cells cs _ b _)=>if l<=h/\h<=len/\cs.length=a/\b=sz then some (.os id (bu+l*sz) (h - l) a) else none
   |_=>none
  |_,_=>none
 | .sc (.slice none 0 0)=>match gN 0 lo,gN 0 hi with
  |some 0,some 0=>some (.sc y5)
  |_,_=>none
 |_=>none
def qZ (o:a_) (sz:Nat) (x:AV) (lo:Option AV) (hi mx:AV):Option AV:=
 match x with
 | .sl n cs=>match gN 0 lo,gN n (some hi),gN n (some mx) with
  |some l,some h,some m=>if l<=h/\h<=m/\m<=n/\cs.length=n*sz then some (.sl (h - l) ((cs.drop (l*sz)).take ((h - l)*sz))) else none
  |_,_,_=>none
 | .os id bu len a=>match gN 0 lo,gN len (some hi),gN len (some mx) with
  |some l,some h,some m=>match o[id]? with
   |some (.cells cs _ b _)=>if l<=h/\h<=m/\m<=len/\cs.length=a/\b=sz/\bu+len*sz<=a/\0<sz then some (.os id (bu+l*sz+(a+sz)) (h - l) a) else none
   |_=>none
  |_,_,_=>none
 |_=>none
def oY (a:List Nat) (b:Bool):AV->Option Value
 | .sc v=>if !b&&dQ a [v] then some v else none
 | .agg cs=>match qw cs with
  |some vs=>if b&&dQ a vs then some (.agg vs.toArray) else none
  |none=>none
 |_=>none
def lF:Value->Value->Option Bool
 | .agg a,.agg b=>ft a.toList b.toList
 | .agg _,_=>none
 |_,.agg _=>none
 |a,b=>seq1 a b
def lZ (k:Value):List (Value×AV)->Nat->Option (Option (Nat×AV))
 |[],_=>some none
 |e::es,i=>match lF k e.1 with
  |some true=>some (some (i,e.2))
  |some false=>lZ k es (i+1)
  |none=>none
def qi (z:List Value) (agg:Bool):Option AV:=
 if agg then some (.agg (z.map .sc)) else match z with
  |[v]=>some (.sc v)
  |_=>none
def freeze (o:a_):Nat->AV->Option AV
 |_,.ud=>some .ud
 |_,.sc v=>match v with
  | .slice none 0 0=>some (.sl 0 [])
  |v=>some (.sc v)
 |_,.sl n cs=>some (.sl n cs)
 |_,.ifc t cs=>some (.ifc t cs)
 |d+1,.agg cs=>(cs.mapM (freeze o d)).map .agg
 |d+1,.IL cs=>(cs.mapM (freeze o d)).map .IL
 |d+1,.fn f a b=>match a.mapM (freeze o d),b.mapM (freeze o d) with
  |some a',some b'=>some (.fn f a' b')
  |_,_=>none
 |d+1,.os id bu len tot=>match o[id]? with
  |some (.cells cs _ sz pu)=>
   if cs.length=tot/\bu+len*sz<=tot then
    if pu then some (.sl len ((cs.drop bu).take (len*sz)))
    else match((cs.drop bu).take (len*sz)).mapM (freeze o d) with
     |some cs'=>if cJ cs' then some (.sl len cs') else none
     |none=>none
   else none
  |_=>none
 |_,_=>none
mutual
def AV.bJ (m:Nat->Option Nat):AV->Option AV
 | .ud=>some .ud
 | .sc v=>some (.sc v)
 | .sl n cs=>some (.sl n cs)
 | .ifc t cs=>some (.ifc t cs)
 | .ep cs bu=>some (.ep cs bu)
 | .agg cs=>(iu m cs).map .agg
 | .IL cs=>(iu m cs).map .IL
 | .ptr id bu c=>(m id).map λi=> .ptr i bu c
 | .os id bu len c=>(m id).map λi=> .os i bu len c
 | .mp id=>(m id).map .mp
 | .fn f a b=>match iu m a,iu m b with
  |some e,some d=>some (.fn f e d)
  |_,_=>none
def iu (m:Nat->Option Nat):List AV->Option (List AV)
 |[]=>some []
 |c::cs=>match c.bJ m,iu m cs with
  |some c',some cs'=>some (c'::cs')
  |_,_=>none
end
def nD (m:Nat->Option Nat):List (Value×AV)->Option (List (Value×AV))
 |[]=>some []
 |e::es=>match e.2.bJ m,nD m es with
  |some v,some a=>some ((e.1,v)::a)
  |_,_=>none
def OL.bJ (m:Nat->Option Nat):OL->Option OL
 | .dead=>some .dead
 | .cells cs e sz pu=>if pu then some (.cells cs e sz pu) else(iu m cs).map λb=> .cells b e sz pu
 | .map es c pu=>if pu then some (.map es c pu) else(nD m es).map λa=> .map a c pu
def idxOf (ids:List Nat) (i:Nat) (k:Nat:=0):Option Nat:=
 match ids with
 |[]=>none
 |j::r=>if j==i then some k else idxOf r i (k+1)
def b_ (o:a_):Nat->List AV->List Nat->List Nat
 |0,_,acc=>acc
 |_,[],acc=>acc
 |d+1,v::vs,acc=>
  let visit (id:Nat) (acc:List Nat):List Nat:=
   if acc.contains id then acc else
   match o[id]? with
   |some (.cells cs _ _ pu)=>if pu then acc++[id] else b_ o d cs (acc++[id])
   |some (.map es _ pu)=>if pu then acc++[id] else b_ o d (es.map (·.2)) (acc++[id])
   |_=>acc++[id];let c:=match v with
   | .agg cs| .IL cs=>b_ o d cs acc
   | .ptr id _ _| .os id _ _ _| .mp id=>visit id acc
   | .fn _ a b=>b_ o d b (b_ o d a acc)
   |_=>acc;b_ o d vs c
def fp:Nat:=400
def kE (o:a_) (ids:List Nat):List Nat->Option a_
 |[]=>some []
 |i::r=>match o[i]?,kE o ids r with
  |some x,some l=>(x.bJ (λj=>idxOf ids j)).map (·::l)
  |_,_=>none
def nC (ids:List Nat) (n i:Nat):Option Nat:=
 match ids[i]? with
 |some j=>some j
 |none=>some (n+(i - ids.length))
def qY (m:Nat->Option Nat):a_->Option a_
 |[]=>some []
 |x::r=>match x.bJ m,qY m r with
  |some y,some l=>some (y::l)
  |_,_=>none
def lu (o:a_):List Nat->a_->a_
 |[],_=>o
 |_,[]=>o
 |i::r,x::l=>lu (o.set i x) r l
abbrev cz:=FuncId->List AV->a_->Bool->Option (AV×a_)
def ir (call:cz) (f:FuncId) (args:List AV) (o:a_):Option (AV×a_):=
 let ids:=b_ o fp args [];match iu (λj=>idxOf ids j) args,kE o ids ids with
 |some args',some small=>match call f args' small true with
  |some (r,aG3)=>
   if aG3.length<ids.length\/aoV ids=false then none else
   match r.bJ (nC ids o.length),qY (nC ids o.length) aG3 with
   |some r',some iP=>some (r',lu o ids (iP.take ids.length)++iP.drop ids.length)
   |_,_=>none
  |none=>none
 |_,_=>none
where aoV:List Nat->Bool
 |[]=>true
 |a::r=>!r.contains a&&aoV r
mutual
def AV.kD:AV->Bool
 | .ud| .sc _=>true
 | .agg cs| .IL cs=>uj cs
 | .sl _ cs=>cs.isEmpty
 |_=>false
def uj:List AV->Bool
 |[]=>true
 |c::cs=>c.kD&&uj cs
end
def eK (o:a_):Nat->AV->List Nat
 |d+1,.agg cs=>cs.flatMap (eK o d)
 |d+1,.IL cs=>cs.flatMap (eK o d)
 |d+1,.fn _ a b=>a.flatMap (eK o d)++b.flatMap (eK o d)
 |d+1,.os id bu len _=>id::(match o[id]? with
  |some (.cells cs _ sz pu)=>if pu then[] else((cs.drop bu).take (len*sz)).flatMap (eK o d)
  |_=>[])
 |_,_=>[]
def ui:List (TypeId×FuncId)->TypeId->Option FuncId
 |[],_=>none
 |p::r,t=>bif δu p.1 t then some p.2 else ui r t
def gn (call:cz) (f:FuncId) (args:List AV) (o:a_) (own:Bool):Option (AV×a_):=
 if own then ir call f args o
 else match args.mapM (freeze o 6) with
  |none=>none
  |some a=>match call f a [] false with
   |some (r,[])=>if(args.flatMap (eK o 6)).isEmpty||r.kD then some (r,o) else none
   |_=>none
def kM (parts:List (Nat×Nat×AV)) (cs:List AV):Option (List AV):=
 match parts with
 |[]=>some cs
 |(bu,n,v)::rest=>
  if v.cellsOf.length=n/\dV v.cellsOf=true/\bu+n<=cs.length then kM rest (fO cs bu v.cellsOf) else none
def M9 (call:cz) (op:bT) (ρ:Operand->AV) (o:a_) (qE:Nat):Option (AV×a_):=
 match op with
 | .mov x=>some (ρ x,o)
 | .pick c a b=>match ρ c with
  | .sc (.bool true)=>some (ρ a,o)
  | .sc (.bool false)=>some (ρ b,o)
  |_=>none
 | .alloc z e pu=>(kn qE (.cells (z.map .sc) e z.length pu) o).map λo'=>(.ptr qE 0 z.length,o')
 | .box e x=>if dV (ρ x).cellsOf then(kn qE (.cells (ρ x).cellsOf e (ρ x).cellsOf.length false) o).map λo'=>(.ptr qE 0 (ρ x).cellsOf.length,o') else none
 | .build z parts=>(kM (parts.map λp=>(p.1,p.2.1,ρ p.2.2)) (z.map .sc)).map λcs=>(.agg cs,o)
 | .aoU z len parts e sz=>
  match kM (parts.map λp=>(p.1,sz,ρ p.2)) ((δ len (z.map AV.sc)).flatten) with
  |some cs=>(kn qE (.cells (el (cJ cs) cs) e sz (cJ cs)) o).map λo'=>(.os qE 0 len (len*sz),o')
  |none=>none
 | .arx z len parts _ sz=>
  match kM (parts.map λp=>(p.1,sz,ρ p.2)) ((δ len (z.map AV.sc)).flatten) with
  |some cs=>if cJ cs=true then some (.sl len (el true cs),o) else none
  |none=>none
 | .load n a=>match behind o (ρ a) with
  |some (cs,bu)=>(gf cs bu n).map (·,o)
  |none=>none
 | .store n a x=>match ρ a with
  | .ptr id bu w=>match o[id]? with
   |some (.cells cs e sz pu)=>
    let v:=(ρ x).cellsOf;if cs.length=w/\v.length=n/\dV v=true/\bu+n<=cs.length/\(pu=false\/cJ v=true) then some (.ud,o.set id (.cells (fO cs bu (el pu v)) e sz pu)) else none
   |_=>none
  |_=>none
 | .asJ x=>match ρ x with
  | .ptr a b c=>some (.ptr a b c,o)
  | .ep a b=>some (.ep a b,o)
  |_=>none
 | .bin op x y=>match ρ x,ρ y with
  | .sc a,.sc b=>(gz op a b).map λv=>(.sc v,o)
  |_,_=>none
 | .beq neg x y=>match ρ x,ρ y with
  | .sc (.bool a),.sc (.bool b)=>some (.sc (.bool (if neg then !(a==b) else a==b)),o)
  |_,_=>none
 | .eqf neg j x y=>match ρ x,ρ y with
  | .agg a,.agg b=>(uP j a b).map λr=>(.sc (.bool (if neg then !r else r)),o)
  |_,_=>none
 | .arz neg x y=>match ρ x,ρ y with
  | .ptr _ _ _,.sc (.pointer none)=>some (.sc (.bool neg),o)
  | .sc (.pointer none),.sc (.pointer none)=>some (.sc (.bool !neg),o)
  |_,_=>none
 | .un op x=>(rG op (ρ x)).map (·,o)
 | .conv k x=>match ρ x with
  | .sc (.int _ n)=>some (.sc (.int k (ei k n)),o)
  |_=>none
 | .asK bu x=>(mf bu (ρ x)).map (·,o)
 | .field bu n x=>match ρ x with
  | .agg cs=>(gf cs bu n).map (·,o)
  |_=>none
 | .asL len sz x i=>match gP (ρ i) with
  |some n=>if 0<=n/\n<len then(mf (n.toNat*sz) (ρ x)).map (·,o) else none
  |none=>none
 | .aqK sz x i=>match gP (ρ i) with
  |some n=>(o7 o sz (ρ x) n).map (·,o)
  |none=>none
 | .idx len sz n x i=>match gP (ρ i),ρ x with
  |some k,.agg cs=>if 0<=k/\k<len then(gf cs (k.toNat*sz) n).map (·,o) else none
  |_,_=>none
 | .aua x i=>match gP (ρ i),ρ x with
  |some k,.sc (.string s)=>if 0<=k then(s[k.toNat]?).map λb=>(.sc (.int .u8 b.toNat),o) else none
  |_,_=>none
 | .apq z e sz bytes l c pu=>match gP (ρ l),gP (ρ c) with
  |some n,some m=>if 0<=n/\n<=m/\m*bytes<=140737488355328/\m<=1000000000000 then
    (kn qE (.cells ((δ n.toNat (el pu (z.map AV.sc))).flatten) e sz pu) o).map λo'=>(.os qE 0 n.toNat (n.toNat*sz),o') else none
  |_,_=>none
 | .slice sz x lo hi=>(oZ o sz (ρ x) (lo.map ρ) (hi.map ρ)).map (·,o)
 | .slice3 sz x lo hi mx=>(qZ o sz (ρ x) (lo.map ρ) (ρ hi) (ρ mx)).map (·,o)
 | .asM x lo hi=>match ρ x with
  | .sc (.string s)=>match gN 0 (lo.map ρ),gN s.size (hi.map ρ) with
   |some l,some h=>if l<=h/\h<=s.size then some (.sc (.string (s.extract l h)),o) else none
   |_,_=>none
  |_=>none
 | .append e sz bytes s x pu=>o6 e sz bytes pu (ρ s) (ρ x) o qE
 | .len k x=>(kN o k (ρ x)).map λ(n:Nat)=>(.sc (.int .i64 n),o)
 | .asN n=>some (.sc (.int .i64 n),o)
 | .mm mx x y=>match ρ x,ρ y with
  | .sc (.int k a),.sc (.int B b)=>if k=B then some (.sc (.int k (if mx then(if b>a then b else a) else(if b<a then b else a))),o) else none
  |_,_=>none
 | .call f args own=>gn call f (args.map ρ) o own
 | .ale f args own=>match ρ f with
  | .fn (.func g) first captured=>gn call g (first++args.map ρ++captured) o own
  |_=>none
 | .extract x i=>match ρ x with
  | .IL vs=>(vs[i]?).map (·,o)
  |_=>none
 | .arA f first captured=>some (.fn f (first.map ρ) (captured.map ρ),o)
 | .asO t x=>match ρ x with
  | .agg cs=>if cJ cs=true then some (.ifc t cs,o) else none
  |_=>none
 | .aov A x args=>match ρ x with
  | .ifc t cs=>match ui A t with
   |some f=>gn call f (.agg cs::args.map ρ) o false
   |none=>none
  |_=>none
 | .apr d pu=>(kn qE (.map [] d pu) o).map λo'=>(.mp qE,o')
 | .lookup z agg j u x k ok=>match ρ x,oY j u (ρ k) with
  | .mp id,some q=>match o[id]? with
   |some (.map es d _)=>if d=(j,u) then match lZ q es 0,qi z agg with
    |some (some (_,v)),_=>some (if ok then .IL [v,.sc (.bool true)] else v,o)
    |some none,some v=>some (if ok then .IL [v,.sc (.bool false)] else v,o)
    |_,_=>none
    else none
   |_=>none
  |_,_=>none
 | .ap9 j u x k v=>match ρ x,oY j u (ρ k) with
  | .mp id,some q=>match o[id]? with
   |some (.map es d pu)=>
    if(pu=true/\(ρ v).pure=false)\/d≠(j,u) then none else
    match lZ q es 0 with
    |some (some (i,_))=>some (.ud,o.set id (.map (es.modify i λ_=>(q,ρ v)) d pu))
    |some none=>some (.ud,o.set id (.map (es++[(q,ρ v)]) d pu))
    |none=>none
   |_=>none
  |_,_=>none
def aOv (x:Operand) (_call:cz) (ρ:Operand->AV) (o:a_) (_nid:Nat):Option (AV×a_):=some (ρ x,o)
def aOw (c:Operand) (a:Operand) (b:Operand) (_call:cz) (ρ:Operand->AV) (o:a_) (_nid:Nat):Option (AV×a_):=match ρ c with
  | .sc (.bool true)=>some (ρ a,o)
  | .sc (.bool false)=>some (ρ b,o)
  |_=>none
def aOx (z:List Value) (e:TypeId) (pu:Bool) (_call:cz) (_ρ:Operand->AV) (o:a_) (qE:Nat):Option (AV×a_):=(kn qE (.cells (z.map .sc) e z.length pu) o).map λo'=>(.ptr qE 0 z.length,o')
def aOy (e:TypeId) (x:Operand) (_call:cz) (ρ:Operand->AV) (o:a_) (qE:Nat):Option (AV×a_):=if dV (ρ x).cellsOf then(kn qE (.cells (ρ x).cellsOf e (ρ x).cellsOf.length false) o).map λo'=>(.ptr qE 0 (ρ x).cellsOf.length,o') else none
def aOz (z:List Value) (parts:List (Nat×Nat×Operand)) (_call:cz) (ρ:Operand->AV) (o:a_) (_nid:Nat):Option (AV×a_):=(kM (parts.map λp=>(p.1,p.2.1,ρ p.2.2)) (z.map .sc)).map λcs=>(.agg cs,o)
def aOA (z:List Value) (len:Nat) (parts:List (Nat×Operand)) (e:TypeId) (sz:Nat) (_call:cz) (ρ:Operand->AV) (o:a_) (qE:Nat):Option (AV×a_):=
  match kM (parts.map λp=>(p.1,sz,ρ p.2)) ((δ len (z.map AV.sc)).flatten) with
  |some cs=>(kn qE (.cells (el (cJ cs) cs) e sz (cJ cs)) o).map λo'=>(.os qE 0 len (len*sz),o')
  |none=>none
def aOB (z:List Value) (len:Nat) (parts:List (Nat×Operand)) (_a3:TypeId) (sz:Nat) (_call:cz) (ρ:Operand->AV) (o:a_) (_nid:Nat):Option (AV×a_):=
  match kM (parts.map λp=>(p.1,sz,ρ p.2)) ((δ len (z.map AV.sc)).flatten) with
  |some cs=>if cJ cs=true then some (.sl len (el true cs),o) else none
  |none=>none
def aOC (n:Option Nat) (a:Operand) (_call:cz) (ρ:Operand->AV) (o:a_) (_nid:Nat):Option (AV×a_):=match behind o (ρ a) with
  |some (cs,bu)=>(gf cs bu n).map (·,o)
  |none=>none
def aOD (n:Nat) (a:Operand) (x:Operand) (_call:cz) (ρ:Operand->AV) (o:a_) (_nid:Nat):Option (AV×a_):=match ρ a with
  | .ptr id bu b=>match o[id]? with
   |some (.cells cs e sz pu)=>
    let v:=(ρ x).cellsOf;if cs.length=b/\v.length=n/\dV v=true/\bu+n<=cs.length/\(pu=false\/cJ v=true) then some (.ud,o.set id (.cells (fO cs bu (el pu v)) e sz pu)) else none
   |_=>none
  |_=>none
def aOE (x:Operand) (_call:cz) (ρ:Operand->AV) (o:a_) (_nid:Nat):Option (AV×a_):=match ρ x with
  | .ptr a b c=>some (.ptr a b c,o)
  | .ep a b=>some (.ep a b,o)
  |_=>none
def aOF (op:BinOp) (x:Operand) (y:Operand) (_call:cz) (ρ:Operand->AV) (o:a_) (_nid:Nat):Option (AV×a_):=match ρ x,ρ y with
  | .sc a,.sc b=>(gz op a b).map λv=>(.sc v,o)
  |_,_=>none
def aOG (neg:Bool) (x:Operand) (y:Operand) (_call:cz) (ρ:Operand->AV) (o:a_) (_nid:Nat):Option (AV×a_):=match ρ x,ρ y with
  | .sc (.bool a),.sc (.bool b)=>some (.sc (.bool (if neg then !(a==b) else a==b)),o)
  |_,_=>none
def aOH (neg:Bool) (c:List Nat) (x:Operand) (y:Operand) (_call:cz) (ρ:Operand->AV) (o:a_) (_nid:Nat):Option (AV×a_):=match ρ x,ρ y with
  | .agg a,.agg b=>(uP c a b).map λr=>(.sc (.bool (if neg then !r else r)),o)
  |_,_=>none
def aOI (neg:Bool) (x:Operand) (y:Operand) (_call:cz) (ρ:Operand->AV) (o:a_) (_nid:Nat):Option (AV×a_):=match ρ x,ρ y with
  | .ptr _ _ _,.sc (.pointer none)=>some (.sc (.bool neg),o)
  | .sc (.pointer none),.sc (.pointer none)=>some (.sc (.bool !neg),o)
  |_,_=>none
def aOJ (op:UnOp) (x:Operand) (_call:cz) (ρ:Operand->AV) (o:a_) (_nid:Nat):Option (AV×a_):=(rG op (ρ x)).map (·,o)
def aOK (k:IntKind) (x:Operand) (_call:cz) (ρ:Operand->AV) (o:a_) (_nid:Nat):Option (AV×a_):=match ρ x with
  | .sc (.int _ n)=>some (.sc (.int k (ei k n)),o)
  |_=>none
def aOL (bu:Nat) (x:Operand) (_call:cz) (ρ:Operand->AV) (o:a_) (_nid:Nat):Option (AV×a_):=(mf bu (ρ x)).map (·,o)
def aOM (bu:Nat) (n:Option Nat) (x:Operand) (_call:cz) (ρ:Operand->AV) (o:a_) (_nid:Nat):Option (AV×a_):=match ρ x with
  | .agg cs=>(gf cs bu n).map (·,o)
  |_=>none
def aON (len:Nat) (sz:Nat) (x:Operand) (i:Operand) (_call:cz) (ρ:Operand->AV) (o:a_) (_nid:Nat):Option (AV×a_):=match gP (ρ i) with
  |some n=>if 0<=n/\n<len then(mf (n.toNat*sz) (ρ x)).map (·,o) else none
  |none=>none
def aOO (sz:Nat) (x:Operand) (i:Operand) (_call:cz) (ρ:Operand->AV) (o:a_) (_nid:Nat):Option (AV×a_):=match gP (ρ i) with
  |some n=>(o7 o sz (ρ x) n).map (·,o)
  |none=>none
def aOP (len:Nat) (sz:Nat) (n:Option Nat) (x:Operand) (i:Operand) (_call:cz) (ρ:Operand->AV) (o:a_) (_nid:Nat):Option (AV×a_):=match gP (ρ i),ρ x with
  |some k,.agg cs=>if 0<=k/\k<len then(gf cs (k.toNat*sz) n).map (·,o) else none
  |_,_=>none
def aOQ (x:Operand) (i:Operand) (_call:cz) (ρ:Operand->AV) (o:a_) (_nid:Nat):Option (AV×a_):=match gP (ρ i),ρ x with
  |some k,.sc (.string s)=>if 0<=k then(s[k.toNat]?).map λb=>(.sc (.int .u8 b.toNat),o) else none
  |_,_=>none
def aOR (z:List Value) (e:TypeId) (sz:Nat) (a:Nat) (l:Operand) (c:Operand) (pu:Bool) (b:cz) (ρ:Operand->AV) (o:a_) (qE:Nat):Option (AV×a_):=match gP (ρ l),gP (ρ c) with
  |some n,some m=>if 0<=n/\n<=m/\m*a<=140737488355328/\m<=1000000000000 then
    (kn qE (.cells ((δ n.toNat (el pu (z.map AV.sc))).flatten) e sz pu) o).map λd=>(.os qE 0 n.toNat (n.toNat*sz),d) else none
  |_,_=>none
def aOS (sz:Nat) (x:Operand) (lo:Option Operand) (hi:Option Operand) (_call:cz) (ρ:Operand->AV) (o:a_) (_nid:Nat):Option (AV×a_):=(oZ o sz (ρ x) (lo.map ρ) (hi.map ρ)).map (·,o)
def aOT (sz:Nat) (x:Operand) (lo:Option Operand) (hi:Operand) (mx:Operand) (_call:cz) (ρ:Operand->AV) (o:a_) (_nid:Nat):Option (AV×a_):=(qZ o sz (ρ x) (lo.map ρ) (ρ hi) (ρ mx)).map (·,o)
def aOU (x:Operand) (lo:Option Operand) (hi:Option Operand) (_call:cz) (ρ:Operand->AV) (o:a_) (_nid:Nat):Option (AV×a_):=match ρ x with
  | .sc (.string s)=>match gN 0 (lo.map ρ),gN s.size (hi.map ρ) with
   |some l,some h=>if l<=h/\h<=s.size then some (.sc (.string (s.extract l h)),o) else none
   |_,_=>none
  |_=>none
def aOV (e:TypeId) (sz:Nat) (a:Nat) (s:Operand) (x:Operand) (pu:Bool) (b:cz) (ρ:Operand->AV) (o:a_) (qE:Nat):Option (AV×a_):=o6 e sz a pu (ρ s) (ρ x) o qE
def aOW (k:Nat) (x:Operand) (_call:cz) (ρ:Operand->AV) (o:a_) (_nid:Nat):Option (AV×a_):=(kN o k (ρ x)).map λ(n:Nat)=>(.sc (.int .i64 n),o)
def aOX (n:Nat) (_call:cz) (_ρ:Operand->AV) (o:a_) (_nid:Nat):Option (AV×a_):=some (.sc (.int .i64 n),o)
def aOY (mx:Bool) (x:Operand) (y:Operand) (_call:cz) (ρ:Operand->AV) (o:a_) (_nid:Nat):Option (AV×a_):=match ρ x,ρ y with
  | .sc (.int k a),.sc (.int c b)=>if k=c then some (.sc (.int k (if mx then(if b>a then b else a) else(if b<a then b else a))),o) else none
  |_,_=>none
def aOZ (f:FuncId) (args:List Operand) (own:Bool) (call:cz) (ρ:Operand->AV) (o:a_) (_nid:Nat):Option (AV×a_):=gn call f (args.map ρ) o own
def Q4 (f:Operand) (args:List Operand) (own:Bool) (call:cz) (ρ:Operand->AV) (o:a_) (_nid:Nat):Option (AV×a_):=match ρ f with
  | .fn (.func g) first captured=>gn call g (first++args.map ρ++captured) o own
  |_=>none
def aO0 (x:Operand) (i:Nat) (_call:cz) (ρ:Operand->AV) (o:a_) (_nid:Nat):Option (AV×a_):=match ρ x with
  | .IL vs=>(vs[i]?).map (·,o)
  |_=>none
def aO1 (f:Fn) (first:List Operand) (captured:List Operand) (_call:cz) (ρ:Operand->AV) (o:a_) (_nid:Nat):Option (AV×a_):=some (.fn f (first.map ρ) (captured.map ρ),o)
def aO2 (t:TypeId) (x:Operand) (_call:cz) (ρ:Operand->AV) (o:a_) (_nid:Nat):Option (AV×a_):=match ρ x with
  | .agg cs=>if cJ cs=true then some (.ifc t cs,o) else none
  |_=>none
def Q3 (a:List (TypeId×FuncId)) (x:Operand) (args:List Operand) (call:cz) (ρ:Operand->AV) (o:a_) (_nid:Nat):Option (AV×a_):=match ρ x with
  | .ifc t cs=>match ui a t with
   |some f=>gn call f (.agg cs::args.map ρ) o false
   |none=>none
  |_=>none
def aO3 (a:List Nat×Bool) (pu:Bool) (_call:cz) (_ρ:Operand->AV) (o:a_) (qE:Nat):Option (AV×a_):=(kn qE (.map [] a pu) o).map λo'=>(.mp qE,o')
def aO4 (z:List Value) (agg:Bool) (a:List Nat) (b:Bool) (x:Operand) (k:Operand) (ok:Bool) (_call:cz) (ρ:Operand->AV) (o:a_) (_nid:Nat):Option (AV×a_):=match ρ x,oY a b (ρ k) with
  | .mp id,some c=>match o[id]? with
   |some (.map es d _)=>if d=(a,b) then match lZ c es 0,qi z agg with
    |some (some (_,v)),_=>some (if ok then .IL [v,.sc (.bool true)] else v,o)
    |some none,some v=>some (if ok then .IL [v,.sc (.bool false)] else v,o)
    |_,_=>none
    else none
   |_=>none
  |_,_=>none
def aO5 (c:List Nat) (d:Bool) (x:Operand) (k:Operand) (v:Operand) (_call:cz) (ρ:Operand->AV) (o:a_) (_nid:Nat):Option (AV×a_):=match ρ x,oY c d (ρ k) with
  | .mp id,some a=>match o[id]? with
   |some (.map es b pu)=>
    if(pu=true/\(ρ v).pure=false)\/b≠(c,d) then none else
    match lZ a es 0 with
    |some (some (i,_))=>some (.ud,o.set id (.map (es.modify i λ_=>(a,ρ v)) b pu))
    |some none=>some (.ud,o.set id (.map (es++[(a,ρ v)]) b pu))
    |none=>none
   |_=>none
  |_,_=>none
def Ie (op:bT):cz->(Operand->AV)->a_->Nat->Option (AV×a_):=
 match op with
 | .mov x=>aOv x
 | .pick c a b=>aOw c a b
 | .alloc z e pu=>aOx z e pu
 | .box e x=>aOy e x
 | .build z parts=>aOz z parts
 | .aoU z len parts e sz=>aOA z len parts e sz
 | .arx z len parts a3 sz=>aOB z len parts a3 sz
 | .load n a=>aOC n a
 | .store n a x=>aOD n a x
 | .asJ x=>aOE x
 | .bin op x y=>aOF op x y
 | .beq neg x y=>aOG neg x y
 | .eqf neg d x y=>aOH neg d x y
 | .arz neg x y=>aOI neg x y
 | .un op x=>aOJ op x
 | .conv k x=>aOK k x
 | .asK bu x=>aOL bu x
 | .field bu n x=>aOM bu n x
 | .asL len sz x i=>aON len sz x i
 | .aqK sz x i=>aOO sz x i
 | .idx len sz n x i=>aOP len sz n x i
 | .aua x i=>aOQ x i
 | .apq z e sz bytes l c pu=>aOR z e sz bytes l c pu
 | .slice sz x lo hi=>aOS sz x lo hi
 | .slice3 sz x lo hi mx=>aOT sz x lo hi mx
 | .asM x lo hi=>aOU x lo hi
 | .append e sz bytes s x pu=>aOV e sz bytes s x pu
 | .len k x=>aOW k x
 | .asN n=>aOX n
 | .mm mx x y=>aOY mx x y
 | .call f args own=>aOZ f args own
 | .ale f args own=>Q4 f args own
 | .extract x i=>aO0 x i
 | .arA f first captured=>aO1 f first captured
 | .asO t x=>aO2 t x
 | .aov h x args=>Q3 h x args
 | .apr j pu=>aO3 j pu
 | .lookup z agg d g x k ok=>aO4 z agg d g x k ok
 | .ap9 d g x k v=>aO5 d g x k v
def qA (call:cz) (op:bT) (ρ:Operand->AV) (o:a_) (qE:Nat):Option (AV×a_):=Ie op call ρ o qE
theorem y4 (call:cz) (a:bT) (ρ:Operand->AV) (o:a_) (qE:Nat):qA call a ρ o qE=M9 call a ρ o qE:=by cases a<;>rfl
def lY (env:jk) (g:Option (Option Nat×Bool)):Option Bool:=
 match g with
 |none=>some true
 |some (none,_)=>none
 |some (some s,b)=>match cX env s with
  | .sc (.bool c)=>some (c==b)
  | .IL []=>some false
  |_=>none
def gM (call:cz) (base:Nat) (i:cM) (st:St):Option St:=
 match lY st.env i.guard with
 |none=>none
 |some false=>some ⟨nG st.env i.dst (.IL []),st.o⟩
 |some true=>match qA call i.op (dS st.env) st.o (base+i.qE) with
  |some (v,o')=>some ⟨nG st.env i.dst v,o'⟩
  |none=>none
def fN (call:cz) (base:Nat):List cM->St->Option St
 |[],st=>some st
 |i::r,st=>match gM call base i st with
  |some st'=>fN call base r st'
  |none=>none
def eJ:AV->List Nat
 | .ptr id _ _=>[id]
 | .os id _ _ _=>[id]
 | .mp id=>[id]
 |_=>[]
def dj (op:bT) (ρ:Operand->AV) (o:a_) (qE:Nat):List Nat:=
 match op with
 | .load _ a=>eJ (ρ a)
 | .aqK _ x _=>eJ (ρ x)
 | .slice _ x _ _=>eJ (ρ x)
 | .slice3 _ x _ _ _=>eJ (ρ x)
 | .len _ x=>eJ (ρ x)
 | .lookup _ _ _ _ x _ _=>eJ (ρ x)
 | .call _ args false=>(args.map ρ).flatMap (eK o 6)
 | .ale f args false=>match ρ f with
  | .fn _ first captured=>(first++args.map ρ++captured).flatMap (eK o 6)
  |_=>[]
 | .call _ args true=>b_ o fp (args.map ρ) []
 | .ale f args true=>match ρ f with
  | .fn _ first captured=>b_ o fp (first++args.map ρ++captured) []
  |_=>[]
 | .aov _ x args=>match ρ x with
  | .ifc _ cs=>(.agg cs::args.map ρ).flatMap (eK o 6)
  |_=>[]
 | .alloc .. | .box .. | .aoU .. | .apq .. | .apr .. =>[qE]
 | .store _ a _=>eJ (ρ a)
 | .append _ _ _ s x _=>qE::(eJ (ρ s)++eJ (ρ x))
 | .ap9 _ _ x _ _=>eJ (ρ x)
 |_=>[]
def fD (op:bT) (ρ:Operand->AV) (o:a_) (qE:Nat):List Nat:=
 match op with
 | .alloc .. | .box .. | .aoU .. | .apq .. | .apr .. =>[qE]
 | .store _ a _=>eJ (ρ a)
 | .append _ _ _ s _ _=>qE::eJ (ρ s)
 | .call _ args true=>b_ o fp (args.map ρ) []
 | .ale f args true=>match ρ f with
  | .fn _ first captured=>b_ o fp (first++args.map ρ++captured) []
  |_=>[]
 | .ap9 _ _ x _ _=>eJ (ρ x)
 |_=>[]
open Classical in
noncomputable def dP (call:cz) (op:bT) (ρ:Operand->AV) (o:a_) (qE:Nat):List Nat:=
 match op with
 | .call f args true=>match ir call f (args.map ρ) o with
  |some (_,o')=>(b_ o fp (args.map ρ) []).filter λj=>decide (o'[j]?≠o[j]?)
  |none=>[]
 |op=>fD op ρ o qE
abbrev Trace:=List (Nat×List Nat×List Nat)
noncomputable def lX (call:cz) (base:Nat):List cM->St->Trace
 |[],_=>[]
 |i::r,st=>(match lY st.env i.guard with
   |some true=>(i.idx,dj i.op (dS st.env) st.o (base+i.qE),dP call i.op (dS st.env) st.o (base+i.qE))
   |_=>(i.idx,[],[]))::match gM call base i st with
  |some st'=>lX call base r st'
  |none=>[]
def wq (a b:List Nat):Bool:=a.all λx=>!b.contains x
def oX (tr:Trace) (i:Nat):List Nat×List Nat:=
 match tr with
 |[]=>([],[])
 |(j,x)::r=>if j==i then x else oX r i
def sE (n:Nat) (tr:Trace) (c:List (Nat×Nat)):Bool:=
 c.all λp=>let a:=oX tr p.1;let b:=oX tr p.2;wq a.2 b.1&&wq b.2 a.1&&a.1.all (λi=>decide (i<n))&&b.1.all (λi=>decide (i<n))
def fK (k:Nat):a_:=δ k .dead
def qh (base:Nat) (o:a_):a_:=if(o.drop base).all (·.mg) then o.take base else o
noncomputable def oD (call:cz) (k:Nat) (ops:List cM) (chk:List (Nat×Nat)) (st:St):Option St:=
 let st0:St:=⟨st.env,st.o++fK k⟩;match fN call st.o.length ops st0 with
 |some st'=>if chk.isEmpty||sE st0.o.length (lX call st.o.length ops st0) chk then some ⟨st'.env,if k=0 then st'.o else qh st.o.length st'.o⟩ else none
 |none=>none
mutual
def AV.TL (o:a_) (p:Nat->Bool):AV->Option AV
 | .os id bu len c=>if p id then match o[id]? with
   |some (.cells cs _ sz pu)=>if pu then(if cs.length=c/\bu+len*sz<=c then some (.sl len ((cs.drop bu).take (len*sz))) else none) else some (.os id bu len c)
   |_=>some (.os id bu len c)
  else some (.os id bu len c)
 | .ptr id bu c=>if p id then match o[id]? with
   |some (.cells _ _ _ pu)=>if pu then none else some (.ptr id bu c)
   |_=>some (.ptr id bu c)
  else some (.ptr id bu c)
 | .agg cs=>(gw o p cs).map .agg
 | .IL cs=>(gw o p cs).map .IL
 | .fn f a b=>match gw o p a,gw o p b with
  |some e,some d=>some (.fn f e d)
  |_,_=>none
 |v=>some v
def gw (o:a_) (p:Nat->Bool):List AV->Option (List AV)
 |[]=>some []
 |c::cs=>match c.TL o p,gw o p cs with
  |some c',some cs'=>some (c'::cs')
  |_,_=>none
end
def oW (o:a_) (p:Nat->Bool):List (Value×AV)->Option (List (Value×AV))
 |[]=>some []
 |e::es=>match e.2.TL o p,oW o p es with
  |some v,some a=>some ((e.1,v)::a)
  |_,_=>none
def OL.TL (o:a_) (p:Nat->Bool):OL->Option OL
 | .dead=>some .dead
 | .cells cs e sz pu=>if pu then some (.cells cs e sz pu) else(gw o p cs).map λb=> .cells b e sz pu
 | .map es c pu=>if pu then some (.map es c pu) else(oW o p es).map λa=> .map a c pu
def jj (o:a_) (p:Nat->Bool):a_->Option a_
 |[]=>some []
 |x::r=>match x.TL o p,jj o p r with
  |some y,some l=>some (y::l)
  |_,_=>none
def fo (p:Nat->Bool):Nat->a_->a_
 |_,[]=>[]
 |i,x::r=>(match x with
  | .cells cs e sz true=>if p i then .dead else .cells cs e sz true
  |x=>x)::fo p (i+1) r
def uh (o:a_) (p:Nat->Bool):jk->Option jk
 |[]=>some []
 |(k,v)::r=>match v.TL o p,uh o p r with
  |some v',some a=>some ((k,v')::a)
  |_,_=>none
def A9 (h:jf) (st:St):Option AV:=
 match h.bu with
 |none=>some (cX st.env h.slot)
 |some k=>match behind st.o (cX st.env h.slot) with
  |some (cs,bu)=>cs[bu+k]?
  |none=>none
def A8 (id:Nat) (st:St):St:=
 match st.o[id]? with
 |some (.cells cs e sz true)=>⟨st.env,st.o.set id (.cells cs e sz false)⟩
 |_=>st
def A7 (h:jf) (st:St):St:=
 match h.bu with
 |none=>match cX st.env h.slot with
  | .sc (.slice none 0 0)=>⟨(h.slot,.os st.o.length 0 0 0)::st.env,st.o++[.cells [] h.e h.sz h.pu]⟩
  | .os id _ _ _=>if h.sz=0 then A8 id st else st
  |_=>st
 |some k=>match cX st.env h.slot with
  | .ptr id bu a=>match st.o[id]? with
   |some (.cells cs e sz pu)=>match cs[bu+k]? with
    |some (.sc (.slice none 0 0))=>
     if cs.length=a/\pu=false then⟨st.env,(st.o.set id (.cells (cs.set (bu+k) (.os st.o.length 0 0 0)) e sz pu))++[.cells [] h.e h.sz h.pu]⟩ else st
    |_=>st
   |_=>st
  |_=>st
def A6 (id:Nat) (st:St):St:=
 let p:Nat->Bool:=λi=>i==id;match uh st.o p st.env,jj st.o p st.o with
 |some env,some o=>⟨env,fo p 0 o⟩
 |_,_=>st
def y3 (id:Nat) (st:St):St:=
 match st.o[id]? with
 |some (.cells cs e sz false)=>if cJ cs then⟨st.env,st.o.set id (.cells cs e sz true)⟩ else st
 |_=>st
def jK (lo:Nat) (h:jf) (st:St):St:=
 if h.own then A7 h st
 else match A9 h st with
  |some (.os id _ _ _)=>if Nat.ble lo id then A6 id (y3 id st) else st
  |_=>st
def e_ (live:List Nat) (env:jk):jk:=live.map λs=>(s,cX env s)
inductive Out where
 |norm
 |exit (id:Nat)
 |ret
 |goto (l:Nat)
 deriving DecidableEq
def trim (k:Nat) (st:St):St:=
 if st.o.length<=k then st
 else if(st.env.all λp=>p.2.VJ k)&&((st.o.take k).all λx=>x.VJ k) then⟨st.env,st.o.take k⟩ else st
structure mc where
 slot:Nat
 cell:Option (Option Nat)
structure eL where
 params:Nat
 ntmps:Nat
 body:IR
 res:List mc
def qg (st:St) (r:mc):Option AV:=
 match r.cell with
 |none=>some (cX st.env r.slot)
 |some n=>match behind st.o (cX st.env r.slot) with
  |some (cs,bu)=>gf cs bu n
  |none=>none
def nv (st:St) (a:List mc):Option AV:=
 match a.mapM (qg st) with
 |some [v]=>some v
 |some vs=>some (.IL vs)
 |none=>none
def lr (k:Nat) (r:AV) (o:a_):Option (AV×a_):=
 match r.TL o (λi=>decide (k<=i)),jj o (λi=>decide (k<=i)) o with
 |some a,some c=>
  let o2:=fo (λi=>decide (k<=i)) 0 c;let ids:=b_ o2 fp (a::(o2.take k).flatMap OL.avs) (Γ k);if ir.aoV ids then
   match a.bJ (λj=>idxOf ids j),kE o2 ids ids with
   |some b,some s2=>some (b,s2)
   |_,_=>none
  else none
 |_,_=>none
where OL.avs:OL->List AV
 | .cells cs _ _ pu=>if pu then[] else cs
 | .map es _ pu=>if pu then[] else es.map (·.2)
 | .dead=>[]
def finish (own:Bool) (k:Nat) (r:AV) (o:a_):Option (AV×a_):=
 if own then lr k r o
 else match k with
  |0=>match freeze o 6 r with
   |some a=>some (a,[])
   |none=>none
  |_+1=>none
def gK:Nat->List AV->jk
 |_,[]=>[]
 |i,v::vs=>(i,v)::gK (i+1) vs
structure jy where
 fn:FuncId->Option eL
 K:cz
def qf (ex:IR->St->Option (Out×St)):IR->St->Option St
 | .skip,st=>some st
 | .seq x y,st=>match ex x st with
  |some (.norm,st')=>qf ex y st'
  |_=>none
 |_,_=>none
def qe:Out->Bool
 | .norm| .ret=>true
 |_=>false
def Ic (ex:Nat->IR->St->Option (Out×St)) (F:Option eL) (cs:List AV) (s:St):Option (Out×St):=match F with
 |some F=>if cs.length=F.params/\F.res.isEmpty=true then match ex s.o.length F.body ⟨gK 0 cs,s.o⟩ with
  |some (out,s3)=>if qe out=true then some (.ret,⟨s.env,s3.o⟩) else none
  |none=>none else none
 |none=>none
def sD (T:jy) (ex:Nat->IR->St->Option (Out×St)) (lo:Nat) (c:IR) (st:St):Option (Out×St):=match c with
 | .dfr g e d a b=>match qf (ex lo) a st with
  |some s0=>match ex s0.o.length b ⟨(d,.ud)::s0.env,s0.o⟩ with
   |some (out,s2)=>if qe out=true then Ic ex (T.fn g) (e.map (dS s0.env)) s2 else none
   |none=>none
  |none=>none
 |c=>ex lo c st
def oV (T:jy) (ex:Nat->IR->St->Option (Out×St)):cz:=λf args o own=>
 match T.K f args o own with
 |some r=>some r
 |none=>match T.fn f with
  |none=>none
  |some F=>if args.length=F.params then
    match sD T ex o.length F.body ⟨gK 0 args,o⟩ with
    |some (.norm,st)|some (.ret,st)=>match nv st F.res with
     |some r=>finish own o.length r st.o
     |none=>none
    |_=>none
   else none
def qd (t:Nat):jk->jk
 |[]=>[]
 |p::r=>bif δu p.1 t then qd t r else p::qd t r
def oC (x:Operand) (env:jk):jk:=
 match x with
 | .tmp t=>qd t env
 |_=>env
inductive Md where
 |plain
noncomputable def HH (_:Md) (_:Bool) (call:cz) (k:Nat) (ops:List cM) (a:List (Nat×Nat)) (st:St):Option St:=oD call k ops a st
noncomputable def exec (T:jy):Md->Nat->Nat->IR->St->Option (Out×St)
 |_,0,_,_,_=>none
 |md,n+1,lo,c,st=>
  match c with
  | .skip=>some (.norm,st)
  | .region _ draw k ops e live pre post=>match HH md draw (oV T (exec T .plain n)) k ops e (pre.foldl (λs h=>jK lo h s) st) with
   |some st'=>some (.norm,post.foldl (λs h=>jK lo h s) ⟨e_ live st'.env,st'.o⟩)
   |none=>none
  | .seq a b=>match exec T md n lo a st with
   |some (.norm,st')=>exec T md n lo b st'
   |r=>r
  | .cond x a b=>match dS st.env x with
   | .sc (.bool true)=>exec T md n lo a ⟨oC x st.env,st.o⟩
   | .sc (.bool false)=>exec T md n lo b ⟨oC x st.env,st.o⟩
   |_=>none
  | .block id b=>match exec T md n lo b st with
   |some (.exit d,st')=>if d=id then some (.norm,st') else some (.exit d,st')
   |r=>r
  | .loop b=>match exec T md n lo b st with
   |some (.norm,st')=>exec T md n lo (.loop b) (trim st.o.length st')
   |r=>r
  | .exit id=>some (.exit id,st)
  | .ret=>some (.ret,st)
  | .goto l=>some (.goto l,st)
  | .nE x a b=>match dS st.env x with
   | .sc (.bool true)=>exec T md n lo a st
   | .sc (.bool false)=>exec T md n lo b st
   |_=>none
  | .turns l b=>match exec T md n lo b st with
   |some (.goto f,st')=>if l=some f then exec T md n lo (.turns l b) (trim st.o.length st') else none
   |r=>r
  | .dfr .. =>none
def bT.j_:bT->List Operand
 | .mov x| .box _ x| .load _ x| .asJ x| .un _ x| .conv _ x| .asK _ x| .field _ _ x| .len _ x| .extract x _=>[x]
 | .pick c a b=>[c,a,b]
 | .alloc .. | .asN _| .apr .. =>[]
 | .build _ d=>d.map (·.2.2)
 | .aoU _ _ d _ _| .arx _ _ d _ _=>d.map (·.2)
 | .store _ a x=>[a,x]
 | .bin _ x y| .beq _ x y| .eqf _ _ x y| .arz _ x y| .mm _ x y=>[x,y]
 | .asL _ _ x i| .aqK _ x i| .idx _ _ _ x i| .aua x i=>[x,i]
 | .apq _ _ _ _ l c _=>[l,c]
 | .slice _ x lo hi| .asM x lo hi=>x::(lo.toList++hi.toList)
 | .slice3 _ x lo hi mx=>x::hi::mx::lo.toList
 | .append _ _ _ s x _=>[s,x]
 | .call _ args _=>args
 | .ale f args _=>f::args
 | .arA _ a b=>a++b
 | .asO _ x=>[x]
 | .aov _ x args=>x::args
 | .lookup _ _ _ _ x k _=>[x,k]
 | .ap9 _ _ x k v=>[x,k,v]
def bT.bt:bT->Nat
 | .mov _| .pick .. | .build .. | .arx .. | .asJ _| .bin .. | .beq .. | .eqf .. | .arz .. | .un .. | .conv .. | .asK .. | .field .. | .asL .. | .idx .. | .aua .. | .asM .. | .asN _
 | .mm .. | .extract .. | .arA .. | .asO .. =>0
 | .load .. | .aqK .. | .slice .. | .slice3 .. | .len .. | .lookup .. | .aov .. | .call _ _ false| .ale _ _ false=>1
 | .alloc .. | .box .. | .aoU .. | .apq .. | .apr .. | .store .. | .append .. | .ap9 .. =>2
 | .call _ _ true| .ale _ _ true=>3
def bT.makes:bT->Bool
 | .alloc .. | .box .. | .aoU .. | .apq .. | .apr .. | .append .. =>true
 |_=>false
def tmpsOf (l:List Operand):List Nat:=l.filterMap λ| .tmp t=>some t|_=>none
def cM.reads (i:cM):List Nat:=
 tmpsOf i.op.j_++(match i.guard with|some (some s,_)=>[s]|_=>[])
def HG (d:Option Nat) (l:List Nat):Bool:=match d with|none=>true|some d=>!l.contains d
def yZ (a b:cM):Bool:=
 HG a.dst b.reads&&HG b.dst a.reads&&(match a.dst,b.dst with|some x,some y=>x !=y|_,_=>true)
def wo (a b:cM):Bool:=a.op.bt==0||b.op.bt==0||(a.op.bt==1&&b.op.bt==1)
def A5 (a b:cM):Bool:=a.op.bt !=3||b.op.bt !=3
def wm:Nat->List Oper->Bool
 |_,[]=>true
 |i,o::r=>o.after.toList.all (λe=>!Region.binds .any e||decide (e.on<i))&&wm (i+1) r
structure RH where
 id:Nat
 live:List Nat
 perm:List Nat:=[]
 flags:List Nat:=[]
 pre:List jf:=[]
 post:List jf:=[]
def qc (c:TypeId->Option (List Nat)):Nat->List Field->Option (List Nat)
 |_,[]=>some []
 |b,f::d=>if f.name= "_" ∨f.offset≠b then none else match c f.type with
  |some a=>match qc c (b+a.length) d with
   |some r=>some (a++r)
   |none=>none
  |none=>none
def gd (P:Program):Nat->TypeId->Option (List Nat)
 |0,_=>none
 |d+1,t=>match P.underlying t,(P.info? t).map (·.size) with
  |some (.int _),some 1=>some [0]
  |some .bool,some 1=>some [1]
  |some .string,some 1=>some [2]
  |some (.struct b),some n=>if P.stoodInHeld t then none else match qc (gd P d) 0 b.toList with
   |some a=>if a.length=n then some a else none
   |none=>none
  |some (.array k e),some n=>match gd P d e with
   |some a=>if n=k*a.length then some ((δ k a).flatten) else none
   |none=>none
  |_,_=>none
def eX (P:Program) (t:TypeId):Option Bool:=
 match P.underlying t with
 |some (.struct _)|some (.array _ _)=>some true
 |some _=>some false
 |none=>none
def bK (P:Program) (t:TypeId):Option Nat:=(P.info? t).map (·.size)
def wk (P:Program) (t:TypeId):Option Nat:=(P.info? t).map (·.bytes)
def nB (P:Program) (t:TypeId):Option (Option Nat):=
 match eX P t,bK P t with
 |some true,some n=>some (some n)
 |some false,some _=>some none
 |_,_=>none
def lq (P:Program) (t:TypeId):Option (List Value):=
 match(P.info? t).bind (·.zero),bK P t with
 |some z,some n=>if z.cells.toList.all (·.oneCell')&&z.cells.size==n then some z.cells.toList else none
 |_,_=>none
def yt (P:Program) (t:TypeId) (g:Bool):Bool:=
 match(P.info? t).bind (·.zero) with
 |some (.agg _)=>g
 |some _=>!g
 |none=>false
def A4 (P:Program) (name:String) (t:TypeId):Option FuncId:=
 match P.underlying t,P.info? t with
 |some (.struct _),some i=>match i.methods.find? (·.name==name) with
  |some m=>match m.path.toList,m.func with
   |[],some (f,false)=>some f
   |_,_=>none
  |none=>none
 |_,_=>none
def wj (P:Program) (name:String):Nat->List (TypeId×FuncId)
 |0=>[]
 |t+1=>match A4 P name t with
  |some f=>(t,f)::wj P name t
  |none=>wj P name t
def Q2 (P:Program) (name:String):List (TypeId×FuncId):=wj P name P.types.size
def qb {d c:Type} (f:d->Option c):List d->Option (List c)
 |[]=>some []
 |a::l=>match f a,qb f l with
  |some b,some r=>some (b::r)
  |_,_=>none
def gv (P:Program) (f:FuncId):Bool:=(P.funcs[f]?).any fun a=>a.body.isSome&&!(a.name== "runtime.NumGoroutine")
def Q1 (P:Program) (a:Array Field):Option (List (Nat×Nat)):=a.toList.mapM λf=>(P.info? f.type).map λi=>(f.offset,i.size)
def Q0 (a:List (Nat×Nat)) (p:Nat×Operand):Option (Nat×Nat×Operand):=(a[p.1]?).map λq=>(q.1,q.2,p.2)
def oB (P:Program) (fl:Bool) (o:Oper):Option bT:=
 match o.op with
 | .move x| .assign x=>some (.mov x)
 | .pick c a b=>some (.pick c a b)
 | .alloc e=>(lq P e).map λz=> .alloc z e fl
 | .box e x=>some (.box e x)
 | .build t parts=>match lq P t,P.underlying t with
  |some z,some (.struct fields)=>match Q1 P fields with
   |some h=>(qb (Q0 h) parts.toList).map λw=> .build z w
   |none=>none
  |some z,some (.array _ e)=>(bK P e).map λn=> .build z (parts.toList.map λp=>(p.1*n,n,p.2))
  |_,_=>none
 | .buildSlice t len parts=>match P.underlying t with
  |some (.slice e)=>match lq P e with
   |some z=>if len*z.length<=16777216/\0<z.length then some (if fl then .arx z len (parts.toList.map λp=>(p.1*z.length,p.2)) e z.length else .aoU z len (parts.toList.map λp=>(p.1*z.length,p.2)) e z.length) else none
   |none=>none
  |_=>none
 | .load t a=>(nB P t).map λn=> .load n a
 | .store t a x=>(bK P t).map λn=> .store n a x
 | .nilCheck x=>some (.asJ x)
 | .binOp op t x y _=>match op with
  | .eql| .neq=>match P.underlying t with
   |some (.struct _)|some (.array _ _)=>if 20<=P.depth then(gd P 20 t).map λq=> .eqf (op matches .neq) q x y else none
   |some .bool=>some (.beq (op matches .neq) x y)
   |some (.int _)|some .string=>some (.bin op x y)
   |some (.pointer _)=>some (.arz (op matches .neq) x y)
   |_=>none
  |_=>some (.bin op x y)
 | .unOp op _ x=>some (.un op x)
 | .convert s d x=>match P.underlying s,P.underlying d with
  |some _,some (.int k)=>some (.conv k x)
  |_,_=>none
 | .fieldAddr s x f=>match P.underlying s with
  |some (.struct fs)=>match fs[f]? with
   |some g=>match bK P g.type with
    |some n=>if n=0 then none else some (.asK g.offset x)
    |none=>none
   |none=>none
  |_=>none
 | .field t x f=>match P.underlying t with
  |some (.struct fs)=>match fs[f]? with
   |some g=>(nB P g.type).map λn=> .field g.offset n x
   |none=>none
  |_=>none
 | .indexAddr t x i=>match P.underlying t with
  |some (.array len e)=>(bK P e).map λn=> .asL len n x i
  |some (.slice e)=>match bK P e with
   |some n=>if n=0 then none else some (.aqK n x i)
   |none=>none
  |_=>none
 | .index t x i=>match P.underlying t with
  |some (.array len e)=>match bK P e,nB P e with
   |some s,some n=>some (.idx len s n x i)
   |_,_=>none
  |some .string=>some (.aua x i)
  |_=>none
 | .makeSlice t l c=>match P.underlying t with
  |some (.slice e)=>match lq P e,wk P e with
   |some z,some b=>if 0<z.length then some (.apq z e z.length b l c fl) else none
   |_,_=>none
  |_=>none
 | .slice t x lo hi none=>match P.underlying t with
  |some (.slice e)=>match bK P e with
   |some n=>if n=0 then none else some (.slice n x lo hi)
   |none=>none
  |some .string=>some (.asM x lo hi)
  |_=>none
 | .slice t x lo (some hi) (some mx)=>match P.underlying t with
  |some (.slice e)=>match bK P e with
   |some n=>if n=0 then none else some (.slice3 n x lo hi mx)
   |none=>none
  |_=>none
 | .call c=>match c.callee with
  | .value (.func f)=>if gv P f then some (.call f c.args.toList fl) else none
  | .value v=>some (.ale v c.args.toList fl)
  | .invoke x name=>if fl then none else some (.aov (Q2 P name) x c.args.toList)
  | .builtin .append=>match c.args.toList,c.argTypes.toList with
   |[s,x],[t,t']=>if t=t' then match P.underlying t with
     |some (.slice e)=>match lq P e,wk P e with
      |some z,some b=>if 0<z.length then some (.append e z.length b s x fl) else none
      |_,_=>none
     |_=>none
    else none
   |_,_=>none
  | .builtin .len=>match c.args.toList,c.argTypes.toList with
   |[x],[t]=>match P.underlying t with
    |some (.slice _)=>some (.len 0 x)
    |some .string=>some (.len 1 x)
    |some (.map _ _)=>some (.len 2 x)
    |some (.array n _)=>some (.asN n)
    |_=>none
   |_,_=>none
  | .builtin .min=>match c.args.toList with
   |[x,y]=>some (.mm false x y)
   |_=>none
  | .builtin .max=>match c.args.toList with
   |[x,y]=>some (.mm true x y)
   |_=>none
  |_=>none
 | .extract x i=>some (.extract x i)
 | .makeFunc f a b=>match f with
  | .func g=>some (.arA (.func g) a.toList b.toList)
  |_=>none
 | .makeInterface t x=>match P.underlying t with
  |some (.struct _)=>some (.asO t x)
  |_=>none
 | .makeMap t none=>match P.underlying t with
  |some (.map j _)=>match gd P 20 j,eX P j with
    |some q,some r=>some (.apr (q,r) fl)
    |_,_=>none
  |_=>none
 | .lookup t x k ok=>match P.underlying t with
  |some (.map j u)=>match gd P 20 j,eX P j,lq P u,eX P u with
    |some q,some r,some z,some g=>if yt P u g then some (.lookup z g q r x k ok) else none
    |_,_,_,_=>none
  |_=>none
 | .mapUpdate t m k v| .insert t m k v=>match P.underlying t with
  |some (.map j _)=>match gd P 20 j,eX P j with
    |some q,some r=>some (.ap9 q r m k v)
    |_,_=>none
  |_=>none
 |_=>none
def A3 (a:Nat):Option Nat->Bool
 |none=>true
 |some d=>decide (d<a)
def qa (P:Program) (c:Nat) (fl:List Nat) (a:Array Oper) (qE i:Nat):Option cM:=
 match a[i]? with
 |none=>none
 |some o=>if A3 c o.dst then(oB P (fl.contains i) o).map λb=>⟨i,qE,o.dst,b,o.guard.map λg=>(((a[g.1]?).bind (·.dst)),g.2)⟩ else none
def ug (P:Program) (b:Nat) (fl:List Nat) (a:Array Oper):Nat->List Nat->Option (List cM×Nat)
 |k,[]=>some ([],k)
 |k,i::r=>match qa P b fl a k i with
  |none=>none
  |some x=>match ug P b fl a (if x.op.makes then k+1 else k) r with
   |none=>none
   |some (l,n)=>some (x::l,n)
def A2 (acc:List Nat) (s:Nat) (e:Edge):Nat:=if Region.binds .any e then s |||(2^e.on |||acc.getD e.on 0) else s
def nY (b:Array Oper):List Nat:=
 b.toList.foldl (λa o=>a++[o.after.toList.foldl (A2 a) 0]) []
def p_ (c:List Nat):List cM->List (Nat×Nat)
 |[]=>[]
 |a::r=>(r.filterMap λb=>if(c.getD b.idx 0).testBit a.idx||wo a b then none else some (a.idx,b.idx))++p_ c r
def wi (c:List Nat):List cM->Bool
 |[]=>true
 |a::r=>r.all (λb=>(c.getD b.idx 0).testBit a.idx||(yZ a b&&(wo a b||A5 a b)))&&wi c r
def jl:List Nat->Bool
 |[]=>true
 |a::r=>!r.contains a&&jl r
def wh (P:Program) (d:Nat) (H:List RH) (id:Nat) (a:Array Oper) (c:Bool):Option IR:=
 match H.find? (·.id==id) with
 |none=>none
 |some h=>
  if c then
   let b:=if h.perm.isEmpty then Γ a.size else h.perm;match ug P d h.flags a 0 b with
   |some (l,k)=>if P.follows .mixedOrders&&b.length==a.size&&jl b&&wi (nY a) l&&wm 0 a.toList&&(Γ a.size).all b.contains then some (.region id true k l (p_ (nY a) l) h.live h.pre h.post) else none
   |none=>none
  else(ug P d h.flags a 0 (Γ a.size)).map λ(l,k)=> .region id false k l [] h.live h.pre h.post
def A1:Code->Bool
 | .seq a b| .cond _ a b=>A1 a||A1 b
 | .block _ b| .loop b| .scope b=>A1 b
 | .goto _=>true
 |_=>false
def A0:Code->Option Nat
 | .seq (.label l) c=>if A1 c then some l else none
 |_=>none
def QZ (H:List RH):Operand->Bool
 | .tmp t=>match H.find? (·.id==999999) with
  |some h=>h.live.contains t
  |none=>false
 |_=>false
def comp (P:Program) (d:Nat) (H:List RH):Code->Option IR
 | .skip=>some .skip
 | .region id ops draw=>wh P d H id ops draw
 | .seq a b=>match comp P d H a,comp P d H b with
  |some x,some y=>some (.seq x y)
  |_,_=>none
 | .cond c a b=>match comp P d H a,comp P d H b with
  |some x,some y=>some (if QZ H c then .nE c x y else .cond c x y)
  |_,_=>none
 | .block id b=>(comp P d H b).map (.block id)
 | .loop b=>(comp P d H b).map .loop
 | .exit id=>some (.exit id)
 | .ret=>some .ret
 | .label _=>some .skip
 | .goto l=>some (.goto l)
 | .scope b=>(comp P d H b).map λx=> .turns (A0 b) x
 |_=>none
def AZ (h:Array Oper):Option (FuncId×List Operand×Nat):=match h.toList with
 |[f,e]=>match f.dst,f.op,f.guard,e.op,e.dst,e.guard with
  |some d,.makeFunc (.func g) a b,none,.defer c,none,none=>match c.callee with
   | .value (.tmp i)=>if i=d/\a.toList=[]/\c.args.toList=[] then some (g,b.toList,d) else none
   |_=>none
  |_,_,_,_,_,_=>none
 |_=>none
def uf (P:Program) (f:Nat) (H:List RH):Code->Option (IR×(FuncId×List Operand×Nat)×IR)
 | .seq (.region g e d) c=>match AZ e,d with
  |some x,false=>if x.2.2<f/\gv P x.1=true then(comp P f H c).map λb=>(.skip,x,b) else none
  |_,_=>match wh P f H g e d,uf P f H c with
   |some r,some (a,x,b)=>some (.seq r a,x,b)
   |_,_=>none
 |_=>none
def HF (P:Program) (a:Nat) (H:List RH) (c:Code):Option IR:=match comp P a H c with
 |some b=>some b
 |none=>(uf P a H c).map λx=> .dfr x.2.1.1 x.2.1.2.1 x.2.1.2.2 x.1 x.2.2
def qX (P:Program):ResultVar->Option mc
 | .tmp t=>some ⟨t,none⟩
 | .cell a t=>(nB P t).map λn=>⟨a,some n⟩
def AY (P:Program) (H:List RH) (a:Func):Option eL:=
 match a.body with
 |none=>none
 |some c=>match HF P a.ntmps H c,qb (qX P) a.results.toList with
  |some b,some d=>if a.ntmps<a.params.size+a.nfree then none else some ⟨a.params.size+a.nfree,a.ntmps,b,d⟩
  |_,_=>none
end Go.Vi
