import Derived.Orders
import Derived.RowKit3
set_option maxRecDepth 100000
set_option maxHeartbeats 4000000
set_option linter.all false
open BitVec renaming ofInt->γo
open List renaming replicate->δ,range->ω
open Nat renaming beq->δu
namespace Go.Vi
inductive AV where
 |ud
 |sc (v:Value)
 |agg (cs:List AV)
 |Gz (cs:List AV)
 |sl (n:Nat) (cs:List AV)
 |ep (cs:List AV) (bu:Nat)
 |ptr (id bu tot:Nat)
 |os (id bu len tot:Nat)
 |mp (id:Nat)
 |fn (f:Fn) (first captured:List AV)
 |ifc (t:TypeId) (cs:List AV)
 deriving Inhabited
inductive OL where
 |dead
 |cells (cs:List AV) (e:TypeId) (sz:Nat) (pu:Bool)
 |map (es:List (Value×AV)) (kt:List Nat×Bool) (pu:Bool)
 deriving Inhabited
def yp:Value:=.slice none 0 0
def AV.qn:AV->AV
 | .sc (.slice none 0 0)=> .sl 0 []
 |v=>v
def ee (pu:Bool) (cs:List AV):List AV:=if pu then cs.map .qn else cs
def AV.cellsOf:AV->List AV
 | .agg cs=>cs
 |v=>[v]
def AV.one:AV->Bool
 | .agg _| .Gz _| .ud=>false
 | .sc v=>v.oneCell'
 |_=>true
mutual
def AV.pure:AV->Bool
 | .sc _=>true
 | .sl _ cs=>cK cs
 |_=>false
def cK:List AV->Bool
 |[]=>true
 |c::cs=>c.pure&&cK cs
end
mutual
def AV.TP (k:Nat):AV->Bool
 | .ud=>true
 | .sc _=>true
 | .agg cs=>dF k cs
 | .Gz cs=>dF k cs
 | .sl _ _=>true
 | .ep _ _=>true
 | .ptr id _ _=>decide (id<k)
 | .os id _ _ _=>decide (id<k)
 | .mp id=>decide (id<k)
 | .fn _ a b=>dF k a&&dF k b
 | .ifc _ _=>true
def dF (k:Nat):List AV->Bool
 |[]=>true
 |c::cs=>c.TP k&&dF k cs
end
def OL.TP (k:Nat):OL->Bool
 | .dead=>true
 | .cells cs _ _ pu=>pu||dF k cs
 | .map es _ pu=>pu||dF k (es.map (·.2))
abbrev a_:=List OL
def OL.lV:OL->Bool
 | .dead=>true
 |_=>false
def j7 (oz:Nat) (x:OL) (o:a_):Option a_:=
 match o[oz]? with
 |some .dead=>some (o.set oz x)
 |_=>none
abbrev iR:=List (Nat×AV)
def cX:iR->Nat->AV
 |[],_=> .ud
 |p::r,s=>bif δu p.1 s then p.2 else cX r s
def ns (env:iR) (dst:Option Nat) (v:AV):iR:=
 match dst with
 |none=>env
 |some d=>(d,v)::env
def AV.tb:Value->AV
 | .agg cs=>if cs.toList.all (·.oneCell') then .agg (cs.toList.map .sc) else .ud
 | .tuple _=> .ud
 |v=> .sc v
def dM (env:iR):Operand->AV
 | .tmp t=>cX env t
 | .const v=> .tb v
 | .global _=> .ud
 | .func f=> .fn (.func f) [] []
inductive bT where
 |mov (x:Operand)
 |pick (c a b:Operand)
 |alloc (z:List Value) (e:TypeId) (pu:Bool)
 |box (e:TypeId) (x:Operand)
 |build (z:List Value) (parts:List (Nat×Nat×Operand))
 |aoK (z:List Value) (len:Nat) (parts:List (Nat×Operand)) (e:TypeId) (sz:Nat)
 |ark (z:List Value) (len:Nat) (parts:List (Nat×Operand)) (e:TypeId) (sz:Nat)
 |load (n:Option Nat) (a:Operand)
 |store (n:Nat) (a x:Operand)
 |asv (x:Operand)
 |bin (op:BinOp) (x y:Operand)
 |beq (neg:Bool) (x y:Operand)
 |eqf (neg:Bool) (ks:List Nat) (x y:Operand)
 |arl (neg:Bool) (x y:Operand)
 |un (op:UnOp) (x:Operand)
 |conv (k:IntKind) (x:Operand)
 |asw (bu:Nat) (x:Operand)
 |field (bu:Nat) (n:Option Nat) (x:Operand)
 |asx (len sz:Nat) (x i:Operand)
 |aqE (sz:Nat) (x i:Operand)
 |idx (len sz:Nat) (n:Option Nat) (x i:Operand)
 |atK (x i:Operand)
 |apa (z:List Value) (e:TypeId) (sz bytes:Nat) (l c:Operand) (pu:Bool)
 |slice (sz:Nat) (x:Operand) (lo hi:Option Operand)
 |slice3 (sz:Nat) (x:Operand) (lo:Option Operand) (hi mx:Operand)
 |asy (x:Operand) (lo hi:Option Operand)
 |append (e:TypeId) (sz bytes:Nat) (s x:Operand) (pu:Bool)
 |len (k:Nat) (x:Operand)
 |asz (n:Nat)
 |mm (mx:Bool) (x y:Operand)
 |call (f:FuncId) (args:List Operand) (own:Bool)
 |ak7 (f:Operand) (args:List Operand) (own:Bool)
 |extract (x:Operand) (i:Nat)
 |arn (f:Fn) (first captured:List Operand)
 |asA (t:TypeId) (x:Operand)
 |aok (tab:List (TypeId×FuncId)) (x:Operand) (args:List Operand)
 |apb (kt:List Nat×Bool) (pu:Bool)
 |lookup (z:List Value) (agg:Bool) (ks:List Nat) (ka:Bool) (x k:Operand) (ok:Bool)
 |apT (ks:List Nat) (ka:Bool) (x k v:Operand)
structure cM where
 idx:Nat
 oz:Nat
 dst:Option Nat
 op:bT
 guard:Option (Option Nat×Bool)
structure iO where
 own:Bool
 slot:Nat
 bu:Option Nat
 e:TypeId
 sz:Nat
 pu:Bool
inductive IR where
 |skip
 |region (id:Nat) (draw:Bool) (k:Nat) (ops:List cM) (chk:List (Nat×Nat)) (live:List Nat) (pre post:List iO)
 |seq (a b:IR)
 |cond (c:Operand) (a b:IR)
 |block (id:Nat) (c:IR)
 |loop (c:IR)
 |exit (id:Nat)
 |ret
 |goto (l:Nat)
 |turns (l:Option Nat) (b:IR)
 |nr (c:Operand) (a b:IR)
 |dfr (g:FuncId) (caps:List Operand) (d:Nat) (a b:IR)
structure St where
 env:iR
 o:a_
def behind (o:a_):AV->Option (List AV×Nat)
 | .ptr id bu tot=>match o[id]? with
  |some (.cells cs _ _ _)=>if cs.length=tot then some (cs,bu) else none
  |_=>none
 | .ep cs bu=>some (cs,bu)
 |_=>none
def fD (cs:List AV) (bu:Nat):Option Nat->Option AV
 |none=>cs[bu]?
 |some n=>if bu+n<=cs.length then some (.agg ((cs.drop bu).take n)) else none
def fz (cs:List AV) (bu:Nat):List AV->List AV
 |[]=>cs
 |v::vs=>fz (cs.set bu v) (bu+1) vs
def dP (l:List AV):Bool:=l.all (·.one)
def ed (k:IntKind) (n:Int):Int:=
 match k with
 | .i64=>if decide (-9223372036854775808<=n)&&decide (n<=9223372036854775807) then n else IntKind.wrap .i64 n
 | .u32=>if decide (0<=n)&&decide (n<=4294967295) then n else IntKind.wrap .u32 n
 | .u64=>if decide (0<=n)&&decide (n<=18446744073709551615) then n else IntKind.wrap .u64 n
 |k=>k.wrap n
def Bq (n:Nat):Int:=Int.ofNat (Nat.pow 2 n)
def kC (op:BinOp) (k:IntKind) (a b:Int):Option Value:=
 match op with
 | .add=>some (.int k (ed k (a+b)))
 | .sub=>some (.int k (ed k (a - b)))
 | .mul=>some (.int k (ed k (a*b)))
 | .quo=>if b=0 then none else some (.int k (ed k (a.tdiv b)))
 | .rem=>if b=0 then none else some (.int k (a.tmod b))
 | .and=>some (.int k (ed k (γo k.bits a &&&γo k.bits b).toNat))
 | .or=>some (.int k (ed k (γo k.bits a |||γo k.bits b).toNat))
 | .xor=>some (.int k (ed k (γo k.bits a ^^^γo k.bits b).toNat))
 | .andNot=>some (.int k (ed k (γo k.bits a &&&~~~(γo k.bits b)).toNat))
 | .eql=>some (.bool (a==b))
 | .neq=>some (.bool (a !=b))
 | .lss=>some (.bool (decide (a<b)))
 | .leq=>some (.bool (decide (a<=b)))
 | .gtr=>some (.bool (decide (b<a)))
 | .geq=>some (.bool (decide (b<=a)))
 |_=>none
def gh (op:BinOp):Value->Value->Option Value
 | .int k a,.int k' b=>
  match op with
  | .shl=>if b<0 then none else some (.int k (ed k (a*Bq (min b.toNat k.bits))))
  | .shr=>if b<0 then none else some (.int k (a.fdiv (Bq (min b.toNat k.bits))))
  |_=>if k=k' then kC op k a b else none
 | .string a,.string b=>match op with
  | .eql=>some (.bool (a.toList==b.toList))
  | .neq=>some (.bool (!(a.toList==b.toList)))
  | .add=>if a.size+b.size<=1000000000 then some (.string (a++b)) else none
  |_=>none
 |_,_=>none
def seq1:Value->Value->Option Bool
 | .int k a,.int k' b=>if k=k' then some (a==b) else none
 | .bool a,.bool b=>some (a==b)
 | .string a,.string b=>some (a.toList==b.toList)
 |_,_=>none
def fe:List Value->List Value->Option Bool
 |[],[]=>some true
 |x::xs,y::ys=>match seq1 x y,fe xs ys with
  |some a,some b=>some (a&&b)
  |_,_=>none
 |_,_=>none
def dK:List Nat->List Value->Bool
 |[],[]=>true
 |0::ks,.int _ _::vs=>dK ks vs
 |1::ks,.bool _::vs=>dK ks vs
 |2::ks,.string _::vs=>dK ks vs
 |_,_=>false
def qa:List AV->Option (List Value)
 |[]=>some []
 | .sc v::r=>(qa r).map (v::·)
 |_=>none
def um (ks:List Nat) (a b:List AV):Option Bool:=
 match qa a,qa b with
 |some x,some y=>if dK ks x&&dK ks y then fe x y else none
 |_,_=>none
def q_ (op:UnOp):AV->Option AV
 | .sc (.bool b)=>match op with| .not=>some (.sc (.bool !b))|_=>none
 | .sc (.int k n)=>match op with| .neg=>some (.sc (.int k (ed k (0 - n))))|_=>none
 |_=>none
def gq:AV->Option Int
 | .sc (.int _ n)=>some n
 |_=>none
def lU (d:Nat):AV->Option AV
 | .ptr id bu tot=>some (.ptr id (bu+d) tot)
 | .ep cs bu=>some (.ep cs (bu+d))
 |_=>none
def lT (o:a_) (sz:Nat):AV->Option (Nat×List AV)
 | .sl n cs=>if cs.length=n*sz then some (n,cs) else none
 | .os id bu len tot=>match o[id]? with
  |some (.cells cs _ sz' _)=>if cs.length=tot/\sz'=sz/\bu+len*sz<=tot then some (len,(cs.drop bu).take (len*sz)) else none
  |_=>none
 | .sc (.slice none 0 0)=>some (0,[])
 |_=>none
def qG (bu tot sz:Nat):Nat:=if Nat.ble bu tot then bu else bu - tot - sz
def oM (o:a_) (sz:Nat) (x:AV) (i:Int):Option AV:=
 match x with
 | .sl n cs=>if 0<=i/\i<n/\cs.length=n*sz then some (.ep cs (i.toNat*sz)) else none
 | .os id bu len tot=>match o[id]? with
  |some (.cells cs _ sz' _)=>if cs.length=tot/\sz'=sz/\0<=i/\i<len/\qG bu tot sz+len*sz<=tot then some (.ptr id (qG bu tot sz+i.toNat*sz) tot) else none
  |_=>none
 |_=>none
def kB (o:a_):Nat->AV->Option Nat
 |0,.sl n _=>some n
 |0,.os _ _ len _=>some len
 |0,.sc (.slice _ n _)=>some n
 |1,.sc (.string s)=>some s.size
 |2,.mp id=>match o[id]? with
  |some (.map es _ _)=>some es.length
  |_=>none
 |_,_=>none
def oL (e:TypeId) (sz a:Nat) (pu:Bool) (s x:AV) (o:a_) (oz:Nat):Option (AV×a_):=
 match lT o sz x with
 |none=>none
 |some (m,b)=>
  if dP b=false then none else
  match s with
  | .sc (.slice none 0 0)=>
   if m=0 then some (.sc yp,o)
   else if m*a<=140737488355328/\m<=1000000000000/\(pu=false\/cK b=true) then(j7 oz (.cells b e sz pu) o).map λk=>(.os oz 0 m (m*sz),k) else none
  | .os h 0 c d=>match o[h]? with
   |some (.cells g j i f)=>
    if g.length=d/\j=e/\i=sz/\c*sz=d/\(c+m)*a<=140737488355328/\c+m<=1000000000000/\(f=false\/cK b=true)
    then some (.os h 0 (c+m) (d+m*sz),o.set h (.cells (g++b) e sz f)) else none
   |_=>none
  | .sl n g=>if m=0 then some (.sl n g,o) else none
  |_=>none
def gp (d:Nat):Option AV->Option Nat
 |none=>some d
 |some (.sc (.int _ n))=>if 0<=n then some n.toNat else none
 |_=>none
def oK (o:a_) (sz:Nat) (x:AV) (lo hi:Option AV):Option AV:=
 match x with
 | .sl n cs=>match gp 0 lo,gp n hi with
  |some l,some h=>if l<=h/\h<=n/\cs.length=n*sz then some (.sl (h - l) ((cs.drop (l*sz)).take ((h - l)*sz))) else none
  |_,_=>none
 | .os id bu len tot=>match gp 0 lo,gp len hi with
  |some l,some h=>match o[id]? with
   |some (.cells cs _ sz' _)=>if l<=h/\h<=len/\cs.length=tot/\sz'=sz then some (.os id (bu+l*sz) (h - l) tot) else none
   |_=>none
  |_,_=>none
 | .sc (.slice none 0 0)=>match gp 0 lo,gp 0 hi with
  |some 0,some 0=>some (.sc yp)
  |_,_=>none
 |_=>none
def qF (o:a_) (sz:Nat) (x:AV) (lo:Option AV) (hi mx:AV):Option AV:=
 match x with
 | .sl n cs=>match gp 0 lo,gp n (some hi),gp n (some mx) with
  |some l,some h,some m=>if l<=h/\h<=m/\m<=n/\cs.length=n*sz then some (.sl (h - l) ((cs.drop (l*sz)).take ((h - l)*sz))) else none
  |_,_,_=>none
 | .os id bu len tot=>match gp 0 lo,gp len (some hi),gp len (some mx) with
  |some l,some h,some m=>match o[id]? with
   |some (.cells cs _ sz' _)=>if l<=h/\h<=m/\m<=len/\cs.length=tot/\sz'=sz/\bu+len*sz<=tot/\0<sz then some (.os id (bu+l*sz+(tot+sz)) (h - l) tot) else none
   |_=>none
  |_,_,_=>none
 |_=>none
def oJ (ks:List Nat) (ka:Bool):AV->Option Value
 | .sc v=>if !ka&&dK ks [v] then some v else none
 | .agg cs=>match qa cs with
  |some vs=>if ka&&dK ks vs then some (.agg vs.toArray) else none
  |none=>none
 |_=>none
def lj:Value->Value->Option Bool
 | .agg a,.agg b=>fe a.toList b.toList
 | .agg _,_=>none
 |_,.agg _=>none
 |a,b=>seq1 a b
def ly (k:Value):List (Value×AV)->Nat->Option (Option (Nat×AV))
 |[],_=>some none
 |e::es,i=>match lj k e.1 with
  |some true=>some (some (i,e.2))
  |some false=>ly k es (i+1)
  |none=>none
def pU (z:List Value) (agg:Bool):Option AV:=
 if agg then some (.agg (z.map .sc)) else match z with
  |[v]=>some (.sc v)
  |_=>none
def freeze (o:a_):Nat->AV->Option AV
 |_,.ud=>some .ud
 |_,.sc v=>match v with
  | .slice none 0 0=>some (.sl 0 [])
  |v=>some (.sc v)
 |_,.sl n cs=>some (.sl n cs)
 |_,.ifc t cs=>some (.ifc t cs)
 |d+1,.agg cs=>(cs.mapM (freeze o d)).map .agg
 |d+1,.Gz cs=>(cs.mapM (freeze o d)).map .Gz
 |d+1,.fn f a b=>match a.mapM (freeze o d),b.mapM (freeze o d) with
  |some a',some b'=>some (.fn f a' b')
  |_,_=>none
 |d+1,.os id bu len tot=>match o[id]? with
  |some (.cells cs _ sz pu)=>
   if cs.length=tot/\bu+len*sz<=tot then
    if pu then some (.sl len ((cs.drop bu).take (len*sz)))
    else match((cs.drop bu).take (len*sz)).mapM (freeze o d) with
     |some cs'=>if cK cs' then some (.sl len cs') else none
     |none=>none
   else none
  |_=>none
 |_,_=>none
mutual
def AV.bH (m:Nat->Option Nat):AV->Option AV
 | .ud=>some .ud
 | .sc v=>some (.sc v)
 | .sl n cs=>some (.sl n cs)
 | .ifc t cs=>some (.ifc t cs)
 | .ep cs bu=>some (.ep cs bu)
 | .agg cs=>(gU m cs).map .agg
 | .Gz cs=>(gU m cs).map .Gz
 | .ptr id bu tot=>(m id).map λi=> .ptr i bu tot
 | .os id bu len tot=>(m id).map λi=> .os i bu len tot
 | .mp id=>(m id).map .mp
 | .fn f a b=>match gU m a,gU m b with
  |some a',some b'=>some (.fn f a' b')
  |_,_=>none
def gU (m:Nat->Option Nat):List AV->Option (List AV)
 |[]=>some []
 |c::cs=>match c.bH m,gU m cs with
  |some c',some cs'=>some (c'::cs')
  |_,_=>none
end
def np (m:Nat->Option Nat):List (Value×AV)->Option (List (Value×AV))
 |[]=>some []
 |e::es=>match e.2.bH m,np m es with
  |some v,some es'=>some ((e.1,v)::es')
  |_,_=>none
def OL.bH (m:Nat->Option Nat):OL->Option OL
 | .dead=>some .dead
 | .cells cs e sz pu=>if pu then some (.cells cs e sz pu) else(gU m cs).map λcs'=> .cells cs' e sz pu
 | .map es kt pu=>if pu then some (.map es kt pu) else(np m es).map λes'=> .map es' kt pu
def idxOf (ids:List Nat) (i:Nat) (k:Nat:=0):Option Nat:=
 match ids with
 |[]=>none
 |j::r=>if j==i then some k else idxOf r i (k+1)
def cd (o:a_):Nat->List AV->List Nat->List Nat
 |0,_,acc=>acc
 |_,[],acc=>acc
 |d+1,v::vs,acc=>
  let visit (id:Nat) (acc:List Nat):List Nat:=
   if acc.contains id then acc else
   match o[id]? with
   |some (.cells cs _ _ pu)=>if pu then acc++[id] else cd o d cs (acc++[id])
   |some (.map es _ pu)=>if pu then acc++[id] else cd o d (es.map (·.2)) (acc++[id])
   |_=>acc++[id];let acc':=match v with
   | .agg cs| .Gz cs=>cd o d cs acc
   | .ptr id _ _| .os id _ _ _| .mp id=>visit id acc
   | .fn _ a b=>cd o d b (cd o d a acc)
   |_=>acc;cd o d vs acc'
def fc:Nat:=400
def ki (o:a_) (ids:List Nat):List Nat->Option a_
 |[]=>some []
 |i::r=>match o[i]?,ki o ids r with
  |some x,some l=>(x.bH (λj=>idxOf ids j)).map (·::l)
  |_,_=>none
def nn (ids:List Nat) (n i:Nat):Option Nat:=
 match ids[i]? with
 |some j=>some j
 |none=>some (n+(i - ids.length))
def qD (m:Nat->Option Nat):a_->Option a_
 |[]=>some []
 |x::r=>match x.bH m,qD m r with
  |some y,some l=>some (y::l)
  |_,_=>none
def kK (o:a_):List Nat->a_->a_
 |[],_=>o
 |_,[]=>o
 |i::r,x::l=>kK (o.set i x) r l
abbrev cy:=FuncId->List AV->a_->Bool->Option (AV×a_)
def gT (call:cy) (f:FuncId) (args:List AV) (o:a_):Option (AV×a_):=
 let ids:=cd o fc args [];match gU (λj=>idxOf ids j) args,ki o ids ids with
 |some args',some small=>match call f args' small true with
  |some (r,aGb)=>
   if aGb.length<ids.length\/aoL ids=false then none else
   match r.bH (nn ids o.length),qD (nn ids o.length) aGb with
   |some r',some iA=>some (r',kK o ids (iA.take ids.length)++iA.drop ids.length)
   |_,_=>none
  |none=>none
 |_,_=>none
where aoL:List Nat->Bool
 |[]=>true
 |a::r=>!r.contains a&&aoL r
mutual
def AV.kh:AV->Bool
 | .ud| .sc _=>true
 | .agg cs| .Gz cs=>tG cs
 | .sl _ cs=>cs.isEmpty
 |_=>false
def tG:List AV->Bool
 |[]=>true
 |c::cs=>c.kh&&tG cs
end
def eG (o:a_):Nat->AV->List Nat
 |d+1,.agg cs=>cs.flatMap (eG o d)
 |d+1,.Gz cs=>cs.flatMap (eG o d)
 |d+1,.fn _ a b=>a.flatMap (eG o d)++b.flatMap (eG o d)
 |d+1,.os id bu len _=>id::(match o[id]? with
  |some (.cells cs _ sz pu)=>if pu then[] else((cs.drop bu).take (len*sz)).flatMap (eG o d)
  |_=>[])
 |_,_=>[]
def tF:List (TypeId×FuncId)->TypeId->Option FuncId
 |[],_=>none
 |p::r,t=>bif δu p.1 t then some p.2 else tF r t
def fV (call:cy) (f:FuncId) (args:List AV) (o:a_) (own:Bool):Option (AV×a_):=
 if own then gT call f args o
 else match args.mapM (freeze o 6) with
  |none=>none
  |some args'=>match call f args' [] false with
   |some (r,[])=>if(args.flatMap (eG o 6)).isEmpty||r.kh then some (r,o) else none
   |_=>none
def kA (parts:List (Nat×Nat×AV)) (cs:List AV):Option (List AV):=
 match parts with
 |[]=>some cs
 |(bu,n,v)::rest=>
  if v.cellsOf.length=n/\dP v.cellsOf=true/\bu+n<=cs.length then kA rest (fz cs bu v.cellsOf) else none
def MO (call:cy) (op:bT) (ρ:Operand->AV) (o:a_) (oz:Nat):Option (AV×a_):=
 match op with
 | .mov x=>some (ρ x,o)
 | .pick c a b=>match ρ c with
  | .sc (.bool true)=>some (ρ a,o)
  | .sc (.bool false)=>some (ρ b,o)
  |_=>none
 | .alloc z e pu=>(j7 oz (.cells (z.map .sc) e z.length pu) o).map λo'=>(.ptr oz 0 z.length,o')
 | .box e x=>if dP (ρ x).cellsOf then(j7 oz (.cells (ρ x).cellsOf e (ρ x).cellsOf.length false) o).map λo'=>(.ptr oz 0 (ρ x).cellsOf.length,o') else none
 | .build z parts=>(kA (parts.map λp=>(p.1,p.2.1,ρ p.2.2)) (z.map .sc)).map λcs=>(.agg cs,o)
 | .aoK z len parts e sz=>
  match kA (parts.map λp=>(p.1,sz,ρ p.2)) ((δ len (z.map AV.sc)).flatten) with
  |some cs=>(j7 oz (.cells (ee (cK cs) cs) e sz (cK cs)) o).map λo'=>(.os oz 0 len (len*sz),o')
  |none=>none
 | .ark z len parts _ sz=>
  match kA (parts.map λp=>(p.1,sz,ρ p.2)) ((δ len (z.map AV.sc)).flatten) with
  |some cs=>if cK cs=true then some (.sl len (ee true cs),o) else none
  |none=>none
 | .load n a=>match behind o (ρ a) with
  |some (cs,bu)=>(fD cs bu n).map (·,o)
  |none=>none
 | .store n a x=>match ρ a with
  | .ptr id bu tot=>match o[id]? with
   |some (.cells cs e sz pu)=>
    let v:=(ρ x).cellsOf;if cs.length=tot/\v.length=n/\dP v=true/\bu+n<=cs.length/\(pu=false\/cK v=true) then some (.ud,o.set id (.cells (fz cs bu (ee pu v)) e sz pu)) else none
   |_=>none
  |_=>none
 | .asv x=>match ρ x with
  | .ptr a b c=>some (.ptr a b c,o)
  | .ep a b=>some (.ep a b,o)
  |_=>none
 | .bin op x y=>match ρ x,ρ y with
  | .sc a,.sc b=>(gh op a b).map λv=>(.sc v,o)
  |_,_=>none
 | .beq neg x y=>match ρ x,ρ y with
  | .sc (.bool a),.sc (.bool b)=>some (.sc (.bool (if neg then !(a==b) else a==b)),o)
  |_,_=>none
 | .eqf neg ks x y=>match ρ x,ρ y with
  | .agg a,.agg b=>(um ks a b).map λr=>(.sc (.bool (if neg then !r else r)),o)
  |_,_=>none
 | .arl neg x y=>match ρ x,ρ y with
  | .ptr _ _ _,.sc (.pointer none)=>some (.sc (.bool neg),o)
  | .sc (.pointer none),.sc (.pointer none)=>some (.sc (.bool !neg),o)
  |_,_=>none
 | .un op x=>(q_ op (ρ x)).map (·,o)
 | .conv k x=>match ρ x with
  | .sc (.int _ n)=>some (.sc (.int k (ed k n)),o)
  |_=>none
 | .asw bu x=>(lU bu (ρ x)).map (·,o)
 | .field bu n x=>match ρ x with
  | .agg cs=>(fD cs bu n).map (·,o)
  |_=>none
 | .asx len sz x i=>match gq (ρ i) with
  |some n=>if 0<=n/\n<len then(lU (n.toNat*sz) (ρ x)).map (·,o) else none
  |none=>none
 | .aqE sz x i=>match gq (ρ i) with
  |some n=>(oM o sz (ρ x) n).map (·,o)
  |none=>none
 | .idx len sz n x i=>match gq (ρ i),ρ x with
  |some k,.agg cs=>if 0<=k/\k<len then(fD cs (k.toNat*sz) n).map (·,o) else none
  |_,_=>none
 | .atK x i=>match gq (ρ i),ρ x with
  |some k,.sc (.string s)=>if 0<=k then(s[k.toNat]?).map λb=>(.sc (.int .u8 b.toNat),o) else none
  |_,_=>none
 | .apa z e sz bytes l c pu=>match gq (ρ l),gq (ρ c) with
  |some n,some m=>if 0<=n/\n<=m/\m*bytes<=140737488355328/\m<=1000000000000 then
    (j7 oz (.cells ((δ n.toNat (ee pu (z.map AV.sc))).flatten) e sz pu) o).map λo'=>(.os oz 0 n.toNat (n.toNat*sz),o') else none
  |_,_=>none
 | .slice sz x lo hi=>(oK o sz (ρ x) (lo.map ρ) (hi.map ρ)).map (·,o)
 | .slice3 sz x lo hi mx=>(qF o sz (ρ x) (lo.map ρ) (ρ hi) (ρ mx)).map (·,o)
 | .asy x lo hi=>match ρ x with
  | .sc (.string s)=>match gp 0 (lo.map ρ),gp s.size (hi.map ρ) with
   |some l,some h=>if l<=h/\h<=s.size then some (.sc (.string (s.extract l h)),o) else none
   |_,_=>none
  |_=>none
 | .append e sz bytes s x pu=>oL e sz bytes pu (ρ s) (ρ x) o oz
 | .len k x=>(kB o k (ρ x)).map λ(n:Nat)=>(.sc (.int .i64 n),o)
 | .asz n=>some (.sc (.int .i64 n),o)
 | .mm mx x y=>match ρ x,ρ y with
  | .sc (.int k a),.sc (.int k' b)=>if k=k' then some (.sc (.int k (if mx then(if b>a then b else a) else(if b<a then b else a))),o) else none
  |_,_=>none
 | .call f args own=>fV call f (args.map ρ) o own
 | .ak7 f args own=>match ρ f with
  | .fn (.func g) first captured=>fV call g (first++args.map ρ++captured) o own
  |_=>none
 | .extract x i=>match ρ x with
  | .Gz vs=>(vs[i]?).map (·,o)
  |_=>none
 | .arn f first captured=>some (.fn f (first.map ρ) (captured.map ρ),o)
 | .asA t x=>match ρ x with
  | .agg cs=>if cK cs=true then some (.ifc t cs,o) else none
  |_=>none
 | .aok tab x args=>match ρ x with
  | .ifc t cs=>match tF tab t with
   |some f=>fV call f (.agg cs::args.map ρ) o false
   |none=>none
  |_=>none
 | .apb kt pu=>(j7 oz (.map [] kt pu) o).map λo'=>(.mp oz,o')
 | .lookup z agg ks ka x k ok=>match ρ x,oJ ks ka (ρ k) with
  | .mp id,some kv=>match o[id]? with
   |some (.map es kt _)=>if kt=(ks,ka) then match ly kv es 0,pU z agg with
    |some (some (_,v)),_=>some (if ok then .Gz [v,.sc (.bool true)] else v,o)
    |some none,some v=>some (if ok then .Gz [v,.sc (.bool false)] else v,o)
    |_,_=>none
    else none
   |_=>none
  |_,_=>none
 | .apT ks ka x k v=>match ρ x,oJ ks ka (ρ k) with
  | .mp id,some kv=>match o[id]? with
   |some (.map es kt pu)=>
    if(pu=true/\(ρ v).pure=false)\/kt≠(ks,ka) then none else
    match ly kv es 0 with
    |some (some (i,_))=>some (.ud,o.set id (.map (es.modify i λ_=>(kv,ρ v)) kt pu))
    |some none=>some (.ud,o.set id (.map (es++[(kv,ρ v)]) kt pu))
    |none=>none
   |_=>none
  |_,_=>none
def Z3 (x:Operand) (_call:cy) (ρ:Operand->AV) (o:a_) (_nid:Nat):Option (AV×a_):=some (ρ x,o)
def Z2 (c:Operand) (a:Operand) (b:Operand) (_call:cy) (ρ:Operand->AV) (o:a_) (_nid:Nat):Option (AV×a_):=match ρ c with
  | .sc (.bool true)=>some (ρ a,o)
  | .sc (.bool false)=>some (ρ b,o)
  |_=>none
def Z1 (z:List Value) (e:TypeId) (pu:Bool) (_call:cy) (_ρ:Operand->AV) (o:a_) (oz:Nat):Option (AV×a_):=(j7 oz (.cells (z.map .sc) e z.length pu) o).map λo'=>(.ptr oz 0 z.length,o')
def Z0 (e:TypeId) (x:Operand) (_call:cy) (ρ:Operand->AV) (o:a_) (oz:Nat):Option (AV×a_):=if dP (ρ x).cellsOf then(j7 oz (.cells (ρ x).cellsOf e (ρ x).cellsOf.length false) o).map λo'=>(.ptr oz 0 (ρ x).cellsOf.length,o') else none
def ZZ (z:List Value) (parts:List (Nat×Nat×Operand)) (_call:cy) (ρ:Operand->AV) (o:a_) (_nid:Nat):Option (AV×a_):=(kA (parts.map λp=>(p.1,p.2.1,ρ p.2.2)) (z.map .sc)).map λcs=>(.agg cs,o)
def ZY (z:List Value) (len:Nat) (parts:List (Nat×Operand)) (e:TypeId) (sz:Nat) (_call:cy) (ρ:Operand->AV) (o:a_) (oz:Nat):Option (AV×a_):=
  match kA (parts.map λp=>(p.1,sz,ρ p.2)) ((δ len (z.map AV.sc)).flatten) with
  |some cs=>(j7 oz (.cells (ee (cK cs) cs) e sz (cK cs)) o).map λo'=>(.os oz 0 len (len*sz),o')
  |none=>none
def ZX (z:List Value) (len:Nat) (parts:List (Nat×Operand)) (_a3:TypeId) (sz:Nat) (_call:cy) (ρ:Operand->AV) (o:a_) (_nid:Nat):Option (AV×a_):=
  match kA (parts.map λp=>(p.1,sz,ρ p.2)) ((δ len (z.map AV.sc)).flatten) with
  |some cs=>if cK cs=true then some (.sl len (ee true cs),o) else none
  |none=>none
def ZW (n:Option Nat) (a:Operand) (_call:cy) (ρ:Operand->AV) (o:a_) (_nid:Nat):Option (AV×a_):=match behind o (ρ a) with
  |some (cs,bu)=>(fD cs bu n).map (·,o)
  |none=>none
def ZV (n:Nat) (a:Operand) (x:Operand) (_call:cy) (ρ:Operand->AV) (o:a_) (_nid:Nat):Option (AV×a_):=match ρ a with
  | .ptr id bu tot=>match o[id]? with
   |some (.cells cs e sz pu)=>
    let v:=(ρ x).cellsOf;if cs.length=tot/\v.length=n/\dP v=true/\bu+n<=cs.length/\(pu=false\/cK v=true) then some (.ud,o.set id (.cells (fz cs bu (ee pu v)) e sz pu)) else none
   |_=>none
  |_=>none
def ZU (x:Operand) (_call:cy) (ρ:Operand->AV) (o:a_) (_nid:Nat):Option (AV×a_):=match ρ x with
  | .ptr a b c=>some (.ptr a b c,o)
  | .ep a b=>some (.ep a b,o)
  |_=>none
def ZT (op:BinOp) (x:Operand) (y:Operand) (_call:cy) (ρ:Operand->AV) (o:a_) (_nid:Nat):Option (AV×a_):=match ρ x,ρ y with
  | .sc a,.sc b=>(gh op a b).map λv=>(.sc v,o)
  |_,_=>none
def ZS (neg:Bool) (x:Operand) (y:Operand) (_call:cy) (ρ:Operand->AV) (o:a_) (_nid:Nat):Option (AV×a_):=match ρ x,ρ y with
  | .sc (.bool a),.sc (.bool b)=>some (.sc (.bool (if neg then !(a==b) else a==b)),o)
  |_,_=>none
def ZR (neg:Bool) (ks:List Nat) (x:Operand) (y:Operand) (_call:cy) (ρ:Operand->AV) (o:a_) (_nid:Nat):Option (AV×a_):=match ρ x,ρ y with
  | .agg a,.agg b=>(um ks a b).map λr=>(.sc (.bool (if neg then !r else r)),o)
  |_,_=>none
def ZQ (neg:Bool) (x:Operand) (y:Operand) (_call:cy) (ρ:Operand->AV) (o:a_) (_nid:Nat):Option (AV×a_):=match ρ x,ρ y with
  | .ptr _ _ _,.sc (.pointer none)=>some (.sc (.bool neg),o)
  | .sc (.pointer none),.sc (.pointer none)=>some (.sc (.bool !neg),o)
  |_,_=>none
def ZP (op:UnOp) (x:Operand) (_call:cy) (ρ:Operand->AV) (o:a_) (_nid:Nat):Option (AV×a_):=(q_ op (ρ x)).map (·,o)
def ZO (k:IntKind) (x:Operand) (_call:cy) (ρ:Operand->AV) (o:a_) (_nid:Nat):Option (AV×a_):=match ρ x with
  | .sc (.int _ n)=>some (.sc (.int k (ed k n)),o)
  |_=>none
def ZN (bu:Nat) (x:Operand) (_call:cy) (ρ:Operand->AV) (o:a_) (_nid:Nat):Option (AV×a_):=(lU bu (ρ x)).map (·,o)
def aNA (bu:Nat) (n:Option Nat) (x:Operand) (_call:cy) (ρ:Operand->AV) (o:a_) (_nid:Nat):Option (AV×a_):=match ρ x with
  | .agg cs=>(fD cs bu n).map (·,o)
  |_=>none
def aNB (len:Nat) (sz:Nat) (x:Operand) (i:Operand) (_call:cy) (ρ:Operand->AV) (o:a_) (_nid:Nat):Option (AV×a_):=match gq (ρ i) with
  |some n=>if 0<=n/\n<len then(lU (n.toNat*sz) (ρ x)).map (·,o) else none
  |none=>none
def aNC (sz:Nat) (x:Operand) (i:Operand) (_call:cy) (ρ:Operand->AV) (o:a_) (_nid:Nat):Option (AV×a_):=match gq (ρ i) with
  |some n=>(oM o sz (ρ x) n).map (·,o)
  |none=>none
def aND (len:Nat) (sz:Nat) (n:Option Nat) (x:Operand) (i:Operand) (_call:cy) (ρ:Operand->AV) (o:a_) (_nid:Nat):Option (AV×a_):=match gq (ρ i),ρ x with
  |some k,.agg cs=>if 0<=k/\k<len then(fD cs (k.toNat*sz) n).map (·,o) else none
  |_,_=>none
def aNE (x:Operand) (i:Operand) (_call:cy) (ρ:Operand->AV) (o:a_) (_nid:Nat):Option (AV×a_):=match gq (ρ i),ρ x with
  |some k,.sc (.string s)=>if 0<=k then(s[k.toNat]?).map λb=>(.sc (.int .u8 b.toNat),o) else none
  |_,_=>none
def aNF (z:List Value) (e:TypeId) (sz:Nat) (a:Nat) (l:Operand) (c:Operand) (pu:Bool) (b:cy) (ρ:Operand->AV) (o:a_) (oz:Nat):Option (AV×a_):=match gq (ρ l),gq (ρ c) with
  |some n,some m=>if 0<=n/\n<=m/\m*a<=140737488355328/\m<=1000000000000 then
    (j7 oz (.cells ((δ n.toNat (ee pu (z.map AV.sc))).flatten) e sz pu) o).map λd=>(.os oz 0 n.toNat (n.toNat*sz),d) else none
  |_,_=>none
def aNG (sz:Nat) (x:Operand) (lo:Option Operand) (hi:Option Operand) (_call:cy) (ρ:Operand->AV) (o:a_) (_nid:Nat):Option (AV×a_):=(oK o sz (ρ x) (lo.map ρ) (hi.map ρ)).map (·,o)
def aNH (sz:Nat) (x:Operand) (lo:Option Operand) (hi:Operand) (mx:Operand) (_call:cy) (ρ:Operand->AV) (o:a_) (_nid:Nat):Option (AV×a_):=(qF o sz (ρ x) (lo.map ρ) (ρ hi) (ρ mx)).map (·,o)
def aNI (x:Operand) (lo:Option Operand) (hi:Option Operand) (_call:cy) (ρ:Operand->AV) (o:a_) (_nid:Nat):Option (AV×a_):=match ρ x with
  | .sc (.string s)=>match gp 0 (lo.map ρ),gp s.size (hi.map ρ) with
   |some l,some h=>if l<=h/\h<=s.size then some (.sc (.string (s.extract l h)),o) else none
   |_,_=>none
  |_=>none
def aNJ (e:TypeId) (sz:Nat) (a:Nat) (s:Operand) (x:Operand) (pu:Bool) (b:cy) (ρ:Operand->AV) (o:a_) (oz:Nat):Option (AV×a_):=oL e sz a pu (ρ s) (ρ x) o oz
def aNK (k:Nat) (x:Operand) (_call:cy) (ρ:Operand->AV) (o:a_) (_nid:Nat):Option (AV×a_):=(kB o k (ρ x)).map λ(n:Nat)=>(.sc (.int .i64 n),o)
def aNL (n:Nat) (_call:cy) (_ρ:Operand->AV) (o:a_) (_nid:Nat):Option (AV×a_):=some (.sc (.int .i64 n),o)
def aNM (mx:Bool) (x:Operand) (y:Operand) (_call:cy) (ρ:Operand->AV) (o:a_) (_nid:Nat):Option (AV×a_):=match ρ x,ρ y with
  | .sc (.int k a),.sc (.int k' b)=>if k=k' then some (.sc (.int k (if mx then(if b>a then b else a) else(if b<a then b else a))),o) else none
  |_,_=>none
def Z_ (f:FuncId) (args:List Operand) (own:Bool) (call:cy) (ρ:Operand->AV) (o:a_) (_nid:Nat):Option (AV×a_):=fV call f (args.map ρ) o own
def Pm (f:Operand) (args:List Operand) (own:Bool) (call:cy) (ρ:Operand->AV) (o:a_) (_nid:Nat):Option (AV×a_):=match ρ f with
  | .fn (.func g) first captured=>fV call g (first++args.map ρ++captured) o own
  |_=>none
def Z9 (x:Operand) (i:Nat) (_call:cy) (ρ:Operand->AV) (o:a_) (_nid:Nat):Option (AV×a_):=match ρ x with
  | .Gz vs=>(vs[i]?).map (·,o)
  |_=>none
def Z8 (f:Fn) (first:List Operand) (captured:List Operand) (_call:cy) (ρ:Operand->AV) (o:a_) (_nid:Nat):Option (AV×a_):=some (.fn f (first.map ρ) (captured.map ρ),o)
def Z7 (t:TypeId) (x:Operand) (_call:cy) (ρ:Operand->AV) (o:a_) (_nid:Nat):Option (AV×a_):=match ρ x with
  | .agg cs=>if cK cs=true then some (.ifc t cs,o) else none
  |_=>none
def Pl (tab:List (TypeId×FuncId)) (x:Operand) (args:List Operand) (call:cy) (ρ:Operand->AV) (o:a_) (_nid:Nat):Option (AV×a_):=match ρ x with
  | .ifc t cs=>match tF tab t with
   |some f=>fV call f (.agg cs::args.map ρ) o false
   |none=>none
  |_=>none
def Z6 (kt:List Nat×Bool) (pu:Bool) (_call:cy) (_ρ:Operand->AV) (o:a_) (oz:Nat):Option (AV×a_):=(j7 oz (.map [] kt pu) o).map λo'=>(.mp oz,o')
def Z5 (z:List Value) (agg:Bool) (ks:List Nat) (ka:Bool) (x:Operand) (k:Operand) (ok:Bool) (_call:cy) (ρ:Operand->AV) (o:a_) (_nid:Nat):Option (AV×a_):=match ρ x,oJ ks ka (ρ k) with
  | .mp id,some kv=>match o[id]? with
   |some (.map es kt _)=>if kt=(ks,ka) then match ly kv es 0,pU z agg with
    |some (some (_,v)),_=>some (if ok then .Gz [v,.sc (.bool true)] else v,o)
    |some none,some v=>some (if ok then .Gz [v,.sc (.bool false)] else v,o)
    |_,_=>none
    else none
   |_=>none
  |_,_=>none
def Z4 (ks:List Nat) (ka:Bool) (x:Operand) (k:Operand) (v:Operand) (_call:cy) (ρ:Operand->AV) (o:a_) (_nid:Nat):Option (AV×a_):=match ρ x,oJ ks ka (ρ k) with
  | .mp id,some kv=>match o[id]? with
   |some (.map es kt pu)=>
    if(pu=true/\(ρ v).pure=false)\/kt≠(ks,ka) then none else
    match ly kv es 0 with
    |some (some (i,_))=>some (.ud,o.set id (.map (es.modify i λ_=>(kv,ρ v)) kt pu))
    |some none=>some (.ud,o.set id (.map (es++[(kv,ρ v)]) kt pu))
    |none=>none
   |_=>none
  |_,_=>none
def Hj (op:bT):cy->(Operand->AV)->a_->Nat->Option (AV×a_):=
 match op with
 | .mov x=>Z3 x
 | .pick c a b=>Z2 c a b
 | .alloc z e pu=>Z1 z e pu
 | .box e x=>Z0 e x
 | .build z parts=>ZZ z parts
 | .aoK z len parts e sz=>ZY z len parts e sz
 | .ark z len parts a3 sz=>ZX z len parts a3 sz
 | .load n a=>ZW n a
 | .store n a x=>ZV n a x
 | .asv x=>ZU x
 | .bin op x y=>ZT op x y
 | .beq neg x y=>ZS neg x y
 | .eqf neg ks x y=>ZR neg ks x y
 | .arl neg x y=>ZQ neg x y
 | .un op x=>ZP op x
 | .conv k x=>ZO k x
 | .asw bu x=>ZN bu x
 | .field bu n x=>aNA bu n x
 | .asx len sz x i=>aNB len sz x i
 | .aqE sz x i=>aNC sz x i
 | .idx len sz n x i=>aND len sz n x i
 | .atK x i=>aNE x i
 | .apa z e sz bytes l c pu=>aNF z e sz bytes l c pu
 | .slice sz x lo hi=>aNG sz x lo hi
 | .slice3 sz x lo hi mx=>aNH sz x lo hi mx
 | .asy x lo hi=>aNI x lo hi
 | .append e sz bytes s x pu=>aNJ e sz bytes s x pu
 | .len k x=>aNK k x
 | .asz n=>aNL n
 | .mm mx x y=>aNM mx x y
 | .call f args own=>Z_ f args own
 | .ak7 f args own=>Pm f args own
 | .extract x i=>Z9 x i
 | .arn f first captured=>Z8 f first captured
 | .asA t x=>Z7 t x
 | .aok tab x args=>Pl tab x args
 | .apb kt pu=>Z6 kt pu
 | .lookup z agg ks ka x k ok=>Z5 z agg ks ka x k ok
 | .apT ks ka x k v=>Z4 ks ka x k v
def qe (call:cy) (op:bT) (ρ:Operand->AV) (o:a_) (oz:Nat):Option (AV×a_):=Hj op call ρ o oz
theorem yo (call:cy) (a:bT) (ρ:Operand->AV) (o:a_) (oz:Nat):qe call a ρ o oz=MO call a ρ o oz:=by
 cases a<;>rfl
def lx (env:iR) (g:Option (Option Nat×Bool)):Option Bool:=
 match g with
 |none=>some true
 |some (none,_)=>none
 |some (some s,b)=>match cX env s with
  | .sc (.bool c)=>some (c==b)
  | .Gz []=>some false
  |_=>none
def gn (call:cy) (base:Nat) (i:cM) (st:St):Option St:=
 match lx st.env i.guard with
 |none=>none
 |some false=>some ⟨ns st.env i.dst (.Gz []),st.o⟩
 |some true=>match qe call i.op (dM st.env) st.o (base+i.oz) with
  |some (v,o')=>some ⟨ns st.env i.dst v,o'⟩
  |none=>none
def fy (call:cy) (base:Nat):List cM->St->Option St
 |[],st=>some st
 |i::r,st=>match gn call base i st with
  |some st'=>fy call base r st'
  |none=>none
def eE:AV->List Nat
 | .ptr id _ _=>[id]
 | .os id _ _ _=>[id]
 | .mp id=>[id]
 |_=>[]
def dh (op:bT) (ρ:Operand->AV) (o:a_) (oz:Nat):List Nat:=
 match op with
 | .load _ a=>eE (ρ a)
 | .aqE _ x _=>eE (ρ x)
 | .slice _ x _ _=>eE (ρ x)
 | .slice3 _ x _ _ _=>eE (ρ x)
 | .len _ x=>eE (ρ x)
 | .lookup _ _ _ _ x _ _=>eE (ρ x)
 | .call _ args false=>(args.map ρ).flatMap (eG o 6)
 | .ak7 f args false=>match ρ f with
  | .fn _ first captured=>(first++args.map ρ++captured).flatMap (eG o 6)
  |_=>[]
 | .call _ args true=>cd o fc (args.map ρ) []
 | .ak7 f args true=>match ρ f with
  | .fn _ first captured=>cd o fc (first++args.map ρ++captured) []
  |_=>[]
 | .aok _ x args=>match ρ x with
  | .ifc _ cs=>(.agg cs::args.map ρ).flatMap (eG o 6)
  |_=>[]
 | .alloc .. | .box .. | .aoK .. | .apa .. | .apb .. =>[oz]
 | .store _ a _=>eE (ρ a)
 | .append _ _ _ s x _=>oz::(eE (ρ s)++eE (ρ x))
 | .apT _ _ x _ _=>eE (ρ x)
 |_=>[]
def fk (op:bT) (ρ:Operand->AV) (o:a_) (oz:Nat):List Nat:=
 match op with
 | .alloc .. | .box .. | .aoK .. | .apa .. | .apb .. =>[oz]
 | .store _ a _=>eE (ρ a)
 | .append _ _ _ s _ _=>oz::eE (ρ s)
 | .call _ args true=>cd o fc (args.map ρ) []
 | .ak7 f args true=>match ρ f with
  | .fn _ first captured=>cd o fc (first++args.map ρ++captured) []
  |_=>[]
 | .apT _ _ x _ _=>eE (ρ x)
 |_=>[]
open Classical in
noncomputable def dJ (call:cy) (op:bT) (ρ:Operand->AV) (o:a_) (oz:Nat):List Nat:=
 match op with
 | .call f args true=>match gT call f (args.map ρ) o with
  |some (_,o')=>(cd o fc (args.map ρ) []).filter λj=>decide (o'[j]?≠o[j]?)
  |none=>[]
 |op=>fk op ρ o oz
abbrev Trace:=List (Nat×List Nat×List Nat)
noncomputable def lv (call:cy) (base:Nat):List cM->St->Trace
 |[],_=>[]
 |i::r,st=>(match lx st.env i.guard with
   |some true=>(i.idx,dh i.op (dM st.env) st.o (base+i.oz),dJ call i.op (dM st.env) st.o (base+i.oz))
   |_=>(i.idx,[],[]))::match gn call base i st with
  |some st'=>lv call base r st'
  |none=>[]
def wq (a b:List Nat):Bool:=a.all λx=>!b.contains x
def oH (tr:Trace) (i:Nat):List Nat×List Nat:=
 match tr with
 |[]=>([],[])
 |(j,x)::r=>if j==i then x else oH r i
def rz (n:Nat) (tr:Trace) (chk:List (Nat×Nat)):Bool:=
 chk.all λp=>let a:=oH tr p.1;let b:=oH tr p.2;wq a.2 b.1&&wq b.2 a.1&&a.1.all (λi=>decide (i<n))&&b.1.all (λi=>decide (i<n))
def fw (k:Nat):a_:=δ k .dead
def pT (base:Nat) (o:a_):a_:=if(o.drop base).all (·.lV) then o.take base else o
noncomputable def nZ (call:cy) (k:Nat) (ops:List cM) (chk:List (Nat×Nat)) (st:St):Option St:=
 let st0:St:=⟨st.env,st.o++fw k⟩;match fy call st.o.length ops st0 with
 |some st'=>if chk.isEmpty||rz st0.o.length (lv call st.o.length ops st0) chk then some ⟨st'.env,if k=0 then st'.o else pT st.o.length st'.o⟩ else none
 |none=>none
mutual
def AV.Q5 (o:a_) (p:Nat->Bool):AV->Option AV
 | .os id bu len tot=>if p id then match o[id]? with
   |some (.cells cs _ sz pu)=>if pu then(if cs.length=tot/\bu+len*sz<=tot then some (.sl len ((cs.drop bu).take (len*sz))) else none) else some (.os id bu len tot)
   |_=>some (.os id bu len tot)
  else some (.os id bu len tot)
 | .ptr id bu tot=>if p id then match o[id]? with
   |some (.cells _ _ _ pu)=>if pu then none else some (.ptr id bu tot)
   |_=>some (.ptr id bu tot)
  else some (.ptr id bu tot)
 | .agg cs=>(gf o p cs).map .agg
 | .Gz cs=>(gf o p cs).map .Gz
 | .fn f a b=>match gf o p a,gf o p b with
  |some a',some b'=>some (.fn f a' b')
  |_,_=>none
 |v=>some v
def gf (o:a_) (p:Nat->Bool):List AV->Option (List AV)
 |[]=>some []
 |c::cs=>match c.Q5 o p,gf o p cs with
  |some c',some cs'=>some (c'::cs')
  |_,_=>none
end
def oG (o:a_) (p:Nat->Bool):List (Value×AV)->Option (List (Value×AV))
 |[]=>some []
 |e::es=>match e.2.Q5 o p,oG o p es with
  |some v,some es'=>some ((e.1,v)::es')
  |_,_=>none
def OL.Q5 (o:a_) (p:Nat->Bool):OL->Option OL
 | .dead=>some .dead
 | .cells cs e sz pu=>if pu then some (.cells cs e sz pu) else(gf o p cs).map λcs'=> .cells cs' e sz pu
 | .map es kt pu=>if pu then some (.map es kt pu) else(oG o p es).map λes'=> .map es' kt pu
def iQ (o:a_) (p:Nat->Bool):a_->Option a_
 |[]=>some []
 |x::r=>match x.Q5 o p,iQ o p r with
  |some y,some l=>some (y::l)
  |_,_=>none
def e_ (p:Nat->Bool):Nat->a_->a_
 |_,[]=>[]
 |i,x::r=>(match x with
  | .cells cs e sz true=>if p i then .dead else .cells cs e sz true
  |x=>x)::e_ p (i+1) r
def tE (o:a_) (p:Nat->Bool):iR->Option iR
 |[]=>some []
 |(k,v)::r=>match v.Q5 o p,tE o p r with
  |some v',some r'=>some ((k,v')::r')
  |_,_=>none
def Bp (h:iO) (st:St):Option AV:=
 match h.bu with
 |none=>some (cX st.env h.slot)
 |some k=>match behind st.o (cX st.env h.slot) with
  |some (cs,bu)=>cs[bu+k]?
  |none=>none
def Bo (id:Nat) (st:St):St:=
 match st.o[id]? with
 |some (.cells cs e sz true)=>⟨st.env,st.o.set id (.cells cs e sz false)⟩
 |_=>st
def Bn (h:iO) (st:St):St:=
 match h.bu with
 |none=>match cX st.env h.slot with
  | .sc (.slice none 0 0)=>⟨(h.slot,.os st.o.length 0 0 0)::st.env,st.o++[.cells [] h.e h.sz h.pu]⟩
  | .os id _ _ _=>if h.sz=0 then Bo id st else st
  |_=>st
 |some k=>match cX st.env h.slot with
  | .ptr id bu tot=>match st.o[id]? with
   |some (.cells cs e sz pu)=>match cs[bu+k]? with
    |some (.sc (.slice none 0 0))=>
     if cs.length=tot/\pu=false then⟨st.env,(st.o.set id (.cells (cs.set (bu+k) (.os st.o.length 0 0 0)) e sz pu))++[.cells [] h.e h.sz h.pu]⟩ else st
    |_=>st
   |_=>st
  |_=>st
def Bm (id:Nat) (st:St):St:=
 let p:Nat->Bool:=λi=>i==id;match tE st.o p st.env,iQ st.o p st.o with
 |some env,some o=>⟨env,e_ p 0 o⟩
 |_,_=>st
def yn (id:Nat) (st:St):St:=
 match st.o[id]? with
 |some (.cells cs e sz false)=>if cK cs then⟨st.env,st.o.set id (.cells cs e sz true)⟩ else st
 |_=>st
def jE (lo:Nat) (h:iO) (st:St):St:=
 if h.own then Bn h st
 else match Bp h st with
  |some (.os id _ _ _)=>if Nat.ble lo id then Bm id (yn id st) else st
  |_=>st
def eK (live:List Nat) (env:iR):iR:=live.map λs=>(s,cX env s)
inductive Out where
 |norm
 |exit (id:Nat)
 |ret
 |goto (l:Nat)
 deriving DecidableEq
def trim (k:Nat) (st:St):St:=
 if st.o.length<=k then st
 else if(st.env.all λp=>p.2.TP k)&&((st.o.take k).all λx=>x.TP k) then⟨st.env,st.o.take k⟩ else st
structure lS where
 slot:Nat
 cell:Option (Option Nat)
structure ey where
 params:Nat
 ntmps:Nat
 body:IR
 res:List lS
def pS (st:St) (r:lS):Option AV:=
 match r.cell with
 |none=>some (cX st.env r.slot)
 |some n=>match behind st.o (cX st.env r.slot) with
  |some (cs,bu)=>fD cs bu n
  |none=>none
def mL (st:St) (rs:List lS):Option AV:=
 match rs.mapM (pS st) with
 |some [v]=>some v
 |some vs=>some (.Gz vs)
 |none=>none
def kJ (k:Nat) (r:AV) (o:a_):Option (AV×a_):=
 match r.Q5 o (λi=>decide (k<=i)),iQ o (λi=>decide (k<=i)) o with
 |some r1,some o1=>
  let o2:=e_ (λi=>decide (k<=i)) 0 o1;let ids:=cd o2 fc (r1::(o2.take k).flatMap OL.avs) (ω k);if gT.aoL ids then
   match r1.bH (λj=>idxOf ids j),ki o2 ids ids with
   |some r2,some s2=>some (r2,s2)
   |_,_=>none
  else none
 |_,_=>none
where OL.avs:OL->List AV
 | .cells cs _ _ pu=>if pu then[] else cs
 | .map es _ pu=>if pu then[] else es.map (·.2)
 | .dead=>[]
def finish (own:Bool) (k:Nat) (r:AV) (o:a_):Option (AV×a_):=
 if own then kJ k r o
 else match k with
  |0=>match freeze o 6 r with
   |some r'=>some (r',[])
   |none=>none
  |_+1=>none
def gl:Nat->List AV->iR
 |_,[]=>[]
 |i,v::vs=>(i,v)::gl (i+1) vs
structure jn where
 fn:FuncId->Option ey
 K:cy
def pR (ex:IR->St->Option (Out×St)):IR->St->Option St
 | .skip,st=>some st
 | .seq x y,st=>match ex x st with
  |some (.norm,st')=>pR ex y st'
  |_=>none
 |_,_=>none
def pQ:Out->Bool
 | .norm| .ret=>true
 |_=>false
def Hi (ex:Nat->IR->St->Option (Out×St)) (F:Option ey) (cs:List AV) (s:St):Option (Out×St):=match F with
 |some F=>if cs.length=F.params/\F.res.isEmpty=true then match ex s.o.length F.body ⟨gl 0 cs,s.o⟩ with
  |some (out,s3)=>if pQ out=true then some (.ret,⟨s.env,s3.o⟩) else none
  |none=>none else none
 |none=>none
def ry (T:jn) (ex:Nat->IR->St->Option (Out×St)) (lo:Nat) (c:IR) (st:St):Option (Out×St):=match c with
 | .dfr g caps d a b=>match pR (ex lo) a st with
  |some s0=>match ex s0.o.length b ⟨(d,.ud)::s0.env,s0.o⟩ with
   |some (out,s2)=>if pQ out=true then Hi ex (T.fn g) (caps.map (dM s0.env)) s2 else none
   |none=>none
  |none=>none
 |c=>ex lo c st
def oF (T:jn) (ex:Nat->IR->St->Option (Out×St)):cy:=λf args o own=>
 match T.K f args o own with
 |some r=>some r
 |none=>match T.fn f with
  |none=>none
  |some F=>if args.length=F.params then
    match ry T ex o.length F.body ⟨gl 0 args,o⟩ with
    |some (.norm,st)|some (.ret,st)=>match mL st F.res with
     |some r=>finish own o.length r st.o
     |none=>none
    |_=>none
   else none
def pP (t:Nat):iR->iR
 |[]=>[]
 |p::r=>bif δu p.1 t then pP t r else p::pP t r
def nY (x:Operand) (env:iR):iR:=
 match x with
 | .tmp t=>pP t env
 |_=>env
inductive Md where
 |plain
noncomputable def Hh (_:Md) (_:Bool) (call:cy) (k:Nat) (ops:List cM) (chk:List (Nat×Nat)) (st:St):Option St:=nZ call k ops chk st
noncomputable def exec (T:jn):Md->Nat->Nat->IR->St->Option (Out×St)
 |_,0,_,_,_=>none
 |md,n+1,lo,c,st=>
  match c with
  | .skip=>some (.norm,st)
  | .region _ draw k ops chk live pre post=>match Hh md draw (oF T (exec T .plain n)) k ops chk (pre.foldl (λs h=>jE lo h s) st) with
   |some st'=>some (.norm,post.foldl (λs h=>jE lo h s) ⟨eK live st'.env,st'.o⟩)
   |none=>none
  | .seq a b=>match exec T md n lo a st with
   |some (.norm,st')=>exec T md n lo b st'
   |r=>r
  | .cond x a b=>match dM st.env x with
   | .sc (.bool true)=>exec T md n lo a ⟨nY x st.env,st.o⟩
   | .sc (.bool false)=>exec T md n lo b ⟨nY x st.env,st.o⟩
   |_=>none
  | .block id b=>match exec T md n lo b st with
   |some (.exit id',st')=>if id'=id then some (.norm,st') else some (.exit id',st')
   |r=>r
  | .loop b=>match exec T md n lo b st with
   |some (.norm,st')=>exec T md n lo (.loop b) (trim st.o.length st')
   |r=>r
  | .exit id=>some (.exit id,st)
  | .ret=>some (.ret,st)
  | .goto l=>some (.goto l,st)
  | .nr x a b=>match dM st.env x with
   | .sc (.bool true)=>exec T md n lo a st
   | .sc (.bool false)=>exec T md n lo b st
   |_=>none
  | .turns l b=>match exec T md n lo b st with
   |some (.goto l',st')=>if l=some l' then exec T md n lo (.turns l b) (trim st.o.length st') else none
   |r=>r
  | .dfr .. =>none
def bT.j4:bT->List Operand
 | .mov x| .box _ x| .load _ x| .asv x| .un _ x| .conv _ x| .asw _ x| .field _ _ x| .len _ x| .extract x _=>[x]
 | .pick c a b=>[c,a,b]
 | .alloc .. | .asz _| .apb .. =>[]
 | .build _ ps=>ps.map (·.2.2)
 | .aoK _ _ ps _ _| .ark _ _ ps _ _=>ps.map (·.2)
 | .store _ a x=>[a,x]
 | .bin _ x y| .beq _ x y| .eqf _ _ x y| .arl _ x y| .mm _ x y=>[x,y]
 | .asx _ _ x i| .aqE _ x i| .idx _ _ _ x i| .atK x i=>[x,i]
 | .apa _ _ _ _ l c _=>[l,c]
 | .slice _ x lo hi| .asy x lo hi=>x::(lo.toList++hi.toList)
 | .slice3 _ x lo hi mx=>x::hi::mx::lo.toList
 | .append _ _ _ s x _=>[s,x]
 | .call _ args _=>args
 | .ak7 f args _=>f::args
 | .arn _ a b=>a++b
 | .asA _ x=>[x]
 | .aok _ x args=>x::args
 | .lookup _ _ _ _ x k _=>[x,k]
 | .apT _ _ x k v=>[x,k,v]
def bT.bt:bT->Nat
 | .mov _| .pick .. | .build .. | .ark .. | .asv _| .bin .. | .beq .. | .eqf .. | .arl .. | .un .. | .conv .. | .asw .. | .field .. | .asx .. | .idx .. | .atK .. | .asy .. | .asz _
 | .mm .. | .extract .. | .arn .. | .asA .. =>0
 | .load .. | .aqE .. | .slice .. | .slice3 .. | .len .. | .lookup .. | .aok .. | .call _ _ false| .ak7 _ _ false=>1
 | .alloc .. | .box .. | .aoK .. | .apa .. | .apb .. | .store .. | .append .. | .apT .. =>2
 | .call _ _ true| .ak7 _ _ true=>3
def bT.makes:bT->Bool
 | .alloc .. | .box .. | .aoK .. | .apa .. | .apb .. | .append .. =>true
 |_=>false
def tmpsOf (l:List Operand):List Nat:=l.filterMap λ| .tmp t=>some t|_=>none
def cM.reads (i:cM):List Nat:=
 tmpsOf i.op.j4++(match i.guard with|some (some s,_)=>[s]|_=>[])
def Hf (d:Option Nat) (l:List Nat):Bool:=match d with|none=>true|some d=>!l.contains d
def ym (a b:cM):Bool:=
 Hf a.dst b.reads&&Hf b.dst a.reads&&(match a.dst,b.dst with|some x,some y=>x !=y|_,_=>true)
def wo (a b:cM):Bool:=a.op.bt==0||b.op.bt==0||(a.op.bt==1&&b.op.bt==1)
def Bl (a b:cM):Bool:=a.op.bt !=3||b.op.bt !=3
def wm:Nat->List Oper->Bool
 |_,[]=>true
 |i,o::r=>o.after.toList.all (λe=>!Region.binds .any e||decide (e.on<i))&&wm (i+1) r
structure RH where
 id:Nat
 live:List Nat
 perm:List Nat:=[]
 flags:List Nat:=[]
 pre:List iO:=[]
 post:List iO:=[]
def p9 (c:TypeId->Option (List Nat)):Nat->List Field->Option (List Nat)
 |_,[]=>some []
 |b,f::d=>if f.name= "_" ∨f.offset≠b then none else match c f.type with
  |some a=>match p9 c (b+a.length) d with
   |some r=>some (a++r)
   |none=>none
  |none=>none
def fA (P:Program):Nat->TypeId->Option (List Nat)
 |0,_=>none
 |d+1,t=>match P.underlying t,(P.info? t).map (·.size) with
  |some (.int _),some 1=>some [0]
  |some .bool,some 1=>some [1]
  |some .string,some 1=>some [2]
  |some (.struct b),some n=>if P.stoodInHeld t then none else match p9 (fA P d) 0 b.toList with
   |some a=>if a.length=n then some a else none
   |none=>none
  |some (.array k e),some n=>match fA P d e with
   |some a=>if n=k*a.length then some ((δ k a).flatten) else none
   |none=>none
  |_,_=>none
def eI (P:Program) (t:TypeId):Option Bool:=
 match P.underlying t with
 |some (.struct _)|some (.array _ _)=>some true
 |some _=>some false
 |none=>none
def bK (P:Program) (t:TypeId):Option Nat:=(P.info? t).map (·.size)
def wk (P:Program) (t:TypeId):Option Nat:=(P.info? t).map (·.bytes)
def nl (P:Program) (t:TypeId):Option (Option Nat):=
 match eI P t,bK P t with
 |some true,some n=>some (some n)
 |some false,some _=>some none
 |_,_=>none
def kI (P:Program) (t:TypeId):Option (List Value):=
 match(P.info? t).bind (·.zero),bK P t with
 |some z,some n=>if z.cells.toList.all (·.oneCell')&&z.cells.size==n then some z.cells.toList else none
 |_,_=>none
def yl (P:Program) (t:TypeId) (g:Bool):Bool:=
 match(P.info? t).bind (·.zero) with
 |some (.agg _)=>g
 |some _=>!g
 |none=>false
def Bk (P:Program) (name:String) (t:TypeId):Option FuncId:=
 match P.underlying t,P.info? t with
 |some (.struct _),some i=>match i.methods.find? (·.name==name) with
  |some m=>match m.path.toList,m.func with
   |[],some (f,false)=>some f
   |_,_=>none
  |none=>none
 |_,_=>none
def wj (P:Program) (name:String):Nat->List (TypeId×FuncId)
 |0=>[]
 |t+1=>match Bk P name t with
  |some f=>(t,f)::wj P name t
  |none=>wj P name t
def Pk (P:Program) (name:String):List (TypeId×FuncId):=wj P name P.types.size
def p8 {d c:Type} (f:d->Option c):List d->Option (List c)
 |[]=>some []
 |a::l=>match f a,p8 f l with
  |some b,some r=>some (b::r)
  |_,_=>none
def fU (P:Program) (f:FuncId):Bool:=(P.funcs[f]?).any fun a=>a.body.isSome&&!(a.name== "runtime.NumGoroutine")
def Pj (P:Program) (a:Array Field):Option (List (Nat×Nat)):=a.toList.mapM λf=>(P.info? f.type).map λi=>(f.offset,i.size)
def Pi (a:List (Nat×Nat)) (p:Nat×Operand):Option (Nat×Nat×Operand):=(a[p.1]?).map λq=>(q.1,q.2,p.2)
def nX (P:Program) (fl:Bool) (o:Oper):Option bT:=
 match o.op with
 | .move x| .assign x=>some (.mov x)
 | .pick c a b=>some (.pick c a b)
 | .alloc e=>(kI P e).map λz=> .alloc z e fl
 | .box e x=>some (.box e x)
 | .build t parts=>match kI P t,P.underlying t with
  |some z,some (.struct fields)=>match Pj P fields with
   |some places=>(p8 (Pi places) parts.toList).map λps=> .build z ps
   |none=>none
  |some z,some (.array _ e)=>(bK P e).map λn=> .build z (parts.toList.map λp=>(p.1*n,n,p.2))
  |_,_=>none
 | .buildSlice t len parts=>match P.underlying t with
  |some (.slice e)=>match kI P e with
   |some z=>if len*z.length<=16777216/\0<z.length then some (if fl then .ark z len (parts.toList.map λp=>(p.1*z.length,p.2)) e z.length else .aoK z len (parts.toList.map λp=>(p.1*z.length,p.2)) e z.length) else none
   |none=>none
  |_=>none
 | .load t a=>(nl P t).map λn=> .load n a
 | .store t a x=>(bK P t).map λn=> .store n a x
 | .nilCheck x=>some (.asv x)
 | .binOp op t x y _=>match op with
  | .eql| .neq=>match P.underlying t with
   |some (.struct _)|some (.array _ _)=>if 20<=P.depth then(fA P 20 t).map λks=> .eqf (op matches .neq) ks x y else none
   |some .bool=>some (.beq (op matches .neq) x y)
   |some (.int _)|some .string=>some (.bin op x y)
   |some (.pointer _)=>some (.arl (op matches .neq) x y)
   |_=>none
  |_=>some (.bin op x y)
 | .unOp op _ x=>some (.un op x)
 | .convert s d x=>match P.underlying s,P.underlying d with
  |some _,some (.int k)=>some (.conv k x)
  |_,_=>none
 | .fieldAddr s x f=>match P.underlying s with
  |some (.struct fs)=>match fs[f]? with
   |some g=>match bK P g.type with
    |some n=>if n=0 then none else some (.asw g.offset x)
    |none=>none
   |none=>none
  |_=>none
 | .field t x f=>match P.underlying t with
  |some (.struct fs)=>match fs[f]? with
   |some g=>(nl P g.type).map λn=> .field g.offset n x
   |none=>none
  |_=>none
 | .indexAddr t x i=>match P.underlying t with
  |some (.array len e)=>(bK P e).map λn=> .asx len n x i
  |some (.slice e)=>match bK P e with
   |some n=>if n=0 then none else some (.aqE n x i)
   |none=>none
  |_=>none
 | .index t x i=>match P.underlying t with
  |some (.array len e)=>match bK P e,nl P e with
   |some s,some n=>some (.idx len s n x i)
   |_,_=>none
  |some .string=>some (.atK x i)
  |_=>none
 | .makeSlice t l c=>match P.underlying t with
  |some (.slice e)=>match kI P e,wk P e with
   |some z,some b=>if 0<z.length then some (.apa z e z.length b l c fl) else none
   |_,_=>none
  |_=>none
 | .slice t x lo hi none=>match P.underlying t with
  |some (.slice e)=>match bK P e with
   |some n=>if n=0 then none else some (.slice n x lo hi)
   |none=>none
  |some .string=>some (.asy x lo hi)
  |_=>none
 | .slice t x lo (some hi) (some mx)=>match P.underlying t with
  |some (.slice e)=>match bK P e with
   |some n=>if n=0 then none else some (.slice3 n x lo hi mx)
   |none=>none
  |_=>none
 | .call c=>match c.callee with
  | .value (.func f)=>if fU P f then some (.call f c.args.toList fl) else none
  | .value v=>some (.ak7 v c.args.toList fl)
  | .invoke x name=>if fl then none else some (.aok (Pk P name) x c.args.toList)
  | .builtin .append=>match c.args.toList,c.argTypes.toList with
   |[s,x],[t,t']=>if t=t' then match P.underlying t with
     |some (.slice e)=>match kI P e,wk P e with
      |some z,some b=>if 0<z.length then some (.append e z.length b s x fl) else none
      |_,_=>none
     |_=>none
    else none
   |_,_=>none
  | .builtin .len=>match c.args.toList,c.argTypes.toList with
   |[x],[t]=>match P.underlying t with
    |some (.slice _)=>some (.len 0 x)
    |some .string=>some (.len 1 x)
    |some (.map _ _)=>some (.len 2 x)
    |some (.array n _)=>some (.asz n)
    |_=>none
   |_,_=>none
  | .builtin .min=>match c.args.toList with
   |[x,y]=>some (.mm false x y)
   |_=>none
  | .builtin .max=>match c.args.toList with
   |[x,y]=>some (.mm true x y)
   |_=>none
  |_=>none
 | .extract x i=>some (.extract x i)
 | .makeFunc f a b=>match f with
  | .func g=>some (.arn (.func g) a.toList b.toList)
  |_=>none
 | .makeInterface t x=>match P.underlying t with
  |some (.struct _)=>some (.asA t x)
  |_=>none
 | .makeMap t none=>match P.underlying t with
  |some (.map kt _)=>match fA P 20 kt,eI P kt with
    |some ks,some ka=>some (.apb (ks,ka) fl)
    |_,_=>none
  |_=>none
 | .lookup t x k ok=>match P.underlying t with
  |some (.map kt et)=>match fA P 20 kt,eI P kt,kI P et,eI P et with
    |some ks,some ka,some z,some g=>if yl P et g then some (.lookup z g ks ka x k ok) else none
    |_,_,_,_=>none
  |_=>none
 | .mapUpdate t m k v| .insert t m k v=>match P.underlying t with
  |some (.map kt _)=>match fA P 20 kt,eI P kt with
    |some ks,some ka=>some (.apT ks ka m k v)
    |_,_=>none
  |_=>none
 |_=>none
def Bj (a:Nat):Option Nat->Bool
 |none=>true
 |some d=>decide (d<a)
def p7 (P:Program) (c:Nat) (fl:List Nat) (a:Array Oper) (oz i:Nat):Option cM:=
 match a[i]? with
 |none=>none
 |some o=>if Bj c o.dst then(nX P (fl.contains i) o).map λb=>⟨i,oz,o.dst,b,o.guard.map λg=>(((a[g.1]?).bind (·.dst)),g.2)⟩ else none
def tD (P:Program) (b:Nat) (fl:List Nat) (a:Array Oper):Nat->List Nat->Option (List cM×Nat)
 |k,[]=>some ([],k)
 |k,i::r=>match p7 P b fl a k i with
  |none=>none
  |some x=>match tD P b fl a (if x.op.makes then k+1 else k) r with
   |none=>none
   |some (l,n)=>some (x::l,n)
def Bi (acc:List Nat) (s:Nat) (e:Edge):Nat:=if Region.binds .any e then s |||(2^e.on |||acc.getD e.on 0) else s
def nj (b:Array Oper):List Nat:=
 b.toList.foldl (λa o=>a++[o.after.toList.foldl (Bi a) 0]) []
def p6 (c:List Nat):List cM->List (Nat×Nat)
 |[]=>[]
 |a::r=>(r.filterMap λb=>if(c.getD b.idx 0).testBit a.idx||wo a b then none else some (a.idx,b.idx))++p6 c r
def wi (c:List Nat):List cM->Bool
 |[]=>true
 |a::r=>r.all (λb=>(c.getD b.idx 0).testBit a.idx||(ym a b&&(wo a b||Bl a b)))&&wi c r
def i_:List Nat->Bool
 |[]=>true
 |a::r=>!r.contains a&&i_ r
def wh (P:Program) (d:Nat) (H:List RH) (id:Nat) (a:Array Oper) (c:Bool):Option IR:=
 match H.find? (·.id==id) with
 |none=>none
 |some h=>
  if c then
   let b:=if h.perm.isEmpty then ω a.size else h.perm;match tD P d h.flags a 0 b with
   |some (l,k)=>if P.follows .mixedOrders&&b.length==a.size&&i_ b&&wi (nj a) l&&wm 0 a.toList&&(ω a.size).all b.contains then some (.region id true k l (p6 (nj a) l) h.live h.pre h.post) else none
   |none=>none
  else(tD P d h.flags a 0 (ω a.size)).map λ(l,k)=> .region id false k l [] h.live h.pre h.post
def Bh:Code->Bool
 | .seq a b| .cond _ a b=>Bh a||Bh b
 | .block _ b| .loop b| .scope b=>Bh b
 | .goto _=>true
 |_=>false
def Bg:Code->Option Nat
 | .seq (.label l) c=>if Bh c then some l else none
 |_=>none
def Ph (H:List RH):Operand->Bool
 | .tmp t=>match H.find? (·.id==999999) with
  |some h=>h.live.contains t
  |none=>false
 |_=>false
def comp (P:Program) (nt:Nat) (H:List RH):Code->Option IR
 | .skip=>some .skip
 | .region id ops draw=>wh P nt H id ops draw
 | .seq a b=>match comp P nt H a,comp P nt H b with
  |some x,some y=>some (.seq x y)
  |_,_=>none
 | .cond c a b=>match comp P nt H a,comp P nt H b with
  |some x,some y=>some (if Ph H c then .nr c x y else .cond c x y)
  |_,_=>none
 | .block id b=>(comp P nt H b).map (.block id)
 | .loop b=>(comp P nt H b).map .loop
 | .exit id=>some (.exit id)
 | .ret=>some .ret
 | .label _=>some .skip
 | .goto l=>some (.goto l)
 | .scope b=>(comp P nt H b).map λx=> .turns (Bg b) x
 |_=>none
def Bf (h:Array Oper):Option (FuncId×List Operand×Nat):=match h.toList with
 |[f,e]=>match f.dst,f.op,f.guard,e.op,e.dst,e.guard with
  |some d,.makeFunc (.func g) a b,none,.defer c,none,none=>match c.callee with
   | .value (.tmp i)=>if i=d/\a.toList=[]/\c.args.toList=[] then some (g,b.toList,d) else none
   |_=>none
  |_,_,_,_,_,_=>none
 |_=>none
def tC (P:Program) (f:Nat) (H:List RH):Code->Option (IR×(FuncId×List Operand×Nat)×IR)
 | .seq (.region g e d) c=>match Bf e,d with
  |some x,false=>if x.2.2<f/\fU P x.1=true then(comp P f H c).map λb=>(.skip,x,b) else none
  |_,_=>match wh P f H g e d,tC P f H c with
   |some r,some (a,x,b)=>some (.seq r a,x,b)
   |_,_=>none
 |_=>none
def He (P:Program) (a:Nat) (H:List RH) (c:Code):Option IR:=match comp P a H c with
 |some b=>some b
 |none=>(tC P a H c).map λx=> .dfr x.2.1.1 x.2.1.2.1 x.2.1.2.2 x.1 x.2.2
def qC (P:Program):ResultVar->Option lS
 | .tmp t=>some ⟨t,none⟩
 | .cell a t=>(nl P t).map λn=>⟨a,some n⟩
def Bz (P:Program) (H:List RH) (a:Func):Option ey:=
 match a.body with
 |none=>none
 |some c=>match He P a.ntmps H c,p8 (qC P) a.results.toList with
  |some b,some d=>if a.ntmps<a.params.size+a.nfree then none else some ⟨a.params.size+a.nfree,a.ntmps,b,d⟩
  |_,_=>none
end Go.Vi
