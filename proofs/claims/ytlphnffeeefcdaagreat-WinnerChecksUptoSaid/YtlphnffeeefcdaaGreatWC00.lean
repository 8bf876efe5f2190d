/-
  The abstract interpreter: its values, its small code, and its run. Plain definitions: no proof stands here.
  Conditions: none.
-/
import Derived.Orders
import Derived.RowKit3
set_option maxRecDepth 100000
set_option maxHeartbeats 4000000
set_option linter.all false
open BitVec renaming ofInt->γl
open List renaming replicate->δ,range->Θ
open Nat renaming beq->δw
namespace Go.Vi
inductive AV where
 |ud
 |sc (v:Value)
 |agg (cs:List AV)
 |bN (cs:List AV)
 |sl (n:Nat) (cs:List AV)
 |ep (cs:List AV) (off:Nat)
 |ptr (id off tot:Nat)
 |os (id off len tot:Nat)
 |mp (id:Nat)
 |fn (f:Fn) (first captured:List AV)
 |jo (t:TypeId) (cs:List AV)
 deriving Inhabited
inductive bW where
 |dead
 |cells (cs:List AV) (e:TypeId) (sz:Nat) (pu:Bool)
 |map (es:List (Value×AV)) (kt:List Nat×Bool) (pu:Bool)
 deriving Inhabited
def y7:Value:=.slice none 0 0
def AV.qn:AV->AV
 | .sc (.slice none 0 0)=> .sl 0 []
 |v=>v
def eI (pu:Bool) (cs:List AV):List AV:=if pu then cs.map .qn else cs
def AV.cellsOf:AV->List AV
 | .agg cs=>cs
 |v=>[v]
def AV.one:AV->Bool
 | .agg _| .bN _| .ud=>false
 | .sc v=>v.oneCell'
 |_=>true
mutual
def AV.pure:AV->Bool
 | .sc _=>true
 | .sl _ cs=>dx cs
 |_=>false
def dx:List AV->Bool
 |[]=>true
 |c::cs=>c.pure&&dx cs
end
mutual
def AV.cy (k:Nat):AV->Bool
 | .ud=>true
 | .sc _=>true
 | .agg cs=>eC k cs
 | .bN cs=>eC k cs
 | .sl _ _=>true
 | .ep _ _=>true
 | .ptr id _ _=>decide (id<k)
 | .os id _ _ _=>decide (id<k)
 | .mp id=>decide (id<k)
 | .fn _ a b=>eC k a&&eC k b
 | .jo _ _=>true
def eC (k:Nat):List AV->Bool
 |[]=>true
 |c::cs=>c.cy k&&eC k cs
end
def bW.cy (k:Nat):bW->Bool
 | .dead=>true
 | .cells cs _ _ pu=>pu||eC k cs
 | .map es _ pu=>pu||eC k (es.map (·.2))
abbrev Store:=List bW
def bW.mZ:bW->Bool
 | .dead=>true
 |_=>false
def lg (bF:Nat) (x:bW) (o:Store):Option Store:=
 match o[bF]? with
 |some .dead=>some (o.set bF x)
 |_=>none
abbrev jE:=List (Nat×AV)
def dN:jE->Nat->AV
 |[],_=> .ud
 |p::r,s=>bif δw p.1 s then p.2 else dN r s
def oK (env:jE) (dst:Option Nat) (v:AV):jE:=
 match dst with
 |none=>env
 |some d=>(d,v)::env
def AV.uM:Value->AV
 | .agg cs=>if cs.toList.all (·.oneCell') then .agg (cs.toList.map .sc) else .ud
 | .tuple _=> .ud
 |v=> .sc v
def eT (env:jE):Operand->AV
 | .tmp t=>dN env t
 | .const v=> .uM v
 | .global _=> .ud
 | .func f=> .fn (.func f) [] []
inductive cO where
 |uN (x:Operand)
 |pick (c a b:Operand)
 |alloc (z:List Value) (e:TypeId) (pu:Bool)
 |box (e:TypeId) (x:Operand)
 |build (z:List Value) (parts:List (Nat×Nat×Operand))
 |pD (z:List Value) (len:Nat) (parts:List (Nat×Operand)) (e:TypeId) (sz:Nat)
 |tf (z:List Value) (len:Nat) (parts:List (Nat×Operand)) (e:TypeId) (sz:Nat)
 |load (n:Option Nat) (a:Operand)
 |store (n:Nat) (a x:Operand)
 |uO (x:Operand)
 |bin (op:BinOp) (x y:Operand)
 |beq (neg:Bool) (x y:Operand)
 |sd (neg:Bool) (ks:List Nat) (x y:Operand)
 |un (op:UnOp) (x:Operand)
 |conv (k:IntKind) (x:Operand)
 |uP (off:Nat) (x:Operand)
 |field (off:Nat) (n:Option Nat) (x:Operand)
 |uQ (len sz:Nat) (x i:Operand)
 |sf (sz:Nat) (x i:Operand)
 |idx (len sz:Nat) (n:Option Nat) (x i:Operand)
 |wI (x i:Operand)
 |qf (z:List Value) (e:TypeId) (sz bytes:Nat) (l c:Operand) (pu:Bool)
 |slice (sz:Nat) (x:Operand) (lo hi:Option Operand)
 |slice3 (sz:Nat) (x:Operand) (lo:Option Operand) (hi mx:Operand)
 |uR (x:Operand) (lo hi:Option Operand)
 |append (e:TypeId) (sz bytes:Nat) (s x:Operand) (pu:Bool)
 |len (k:Nat) (x:Operand)
 |uS (n:Nat)
 |mm (mx:Bool) (x y:Operand)
 |call (f:FuncId) (args:List Operand) (own:Bool)
 |jT (f:Operand) (args:List Operand) (own:Bool)
 |extract (x:Operand) (i:Nat)
 |tg (f:Fn) (first captured:List Operand)
 |uT (t:TypeId) (x:Operand)
 |oL (tab:List (TypeId×FuncId)) (x:Operand) (args:List Operand)
 |qg (kt:List Nat×Bool) (pu:Bool)
 |lookup (z:List Value) (agg:Bool) (ks:List Nat) (ka:Bool) (x k:Operand) (ok:Bool)
 |qX (ks:List Nat) (ka:Bool) (x k v:Operand)
structure dA where
 idx:Nat
 bF:Nat
 dst:Option Nat
 op:cO
 guard:Option (Option Nat×Bool)
structure kL where
 own:Bool
 slot:Nat
 off:Option Nat
 e:TypeId
 sz:Nat
 pu:Bool
inductive IR where
 |skip
 |region (id:Nat) (draw:Bool) (k:Nat) (ops:List dA) (kM:List (Nat×Nat)) (live:List Nat) (pre post:List kL)
 |seq (a b:IR)
 |cond (c:Operand) (a b:IR)
 |block (id:Nat) (c:IR)
 |loop (c:IR)
 |exit (id:Nat)
 |ret
 |goto (l:Nat)
 |turns (l:Option Nat) (b:IR)
 |oM (c:Operand) (a b:IR)
 |tj (g:FuncId) (caps:List Operand) (d:Nat) (a b:IR)
structure St where
 env:jE
 o:Store
def behind (o:Store):AV->Option (List AV×Nat)
 | .ptr id off tot=>match o[id]? with
  |some (.cells cs _ _ _)=>if cs.length=tot then some (cs,off) else none
  |_=>none
 | .ep cs off=>some (cs,off)
 |_=>none
def gw (cs:List AV) (off:Nat):Option Nat->Option AV
 |none=>cs[off]?
 |some n=>if off+n<=cs.length then some (.agg ((cs.drop off).take n)) else none
def gj (cs:List AV) (off:Nat):List AV->List AV
 |[]=>cs
 |v::vs=>gj (cs.set off v) (off+1) vs
def eU (l:List AV):Bool:=l.all (·.one)
def fe (k:IntKind) (n:Int):Int:=
 match k with
 | .i64=>if decide (-9223372036854775808<=n)&&decide (n<=9223372036854775807) then n else IntKind.wrap .i64 n
 | .u32=>if decide (0<=n)&&decide (n<=4294967295) then n else IntKind.wrap .u32 n
 | .u64=>if decide (0<=n)&&decide (n<=18446744073709551615) then n else IntKind.wrap .u64 n
 |k=>k.wrap n
def By (n:Nat):Int:=Int.ofNat (Nat.pow 2 n)
def lA (op:BinOp) (k:IntKind) (a b:Int):Option Value:=
 match op with
 | .add=>some (.int k (fe k (a+b)))
 | .sub=>some (.int k (fe k (a - b)))
 | .mul=>some (.int k (fe k (a*b)))
 | .quo=>if b=0 then none else some (.int k (fe k (a.tdiv b)))
 | .rem=>if b=0 then none else some (.int k (a.tmod b))
 | .and=>some (.int k (fe k (γl k.bits a &&&γl k.bits b).toNat))
 | .or=>some (.int k (fe k (γl k.bits a |||γl k.bits b).toNat))
 | .xor=>some (.int k (fe k (γl k.bits a ^^^γl k.bits b).toNat))
 | .andNot=>some (.int k (fe k (γl k.bits a &&&~~~(γl k.bits b)).toNat))
 | .eql=>some (.bool (a==b))
 | .neq=>some (.bool (a !=b))
 | .lss=>some (.bool (decide (a<b)))
 | .leq=>some (.bool (decide (a<=b)))
 | .gtr=>some (.bool (decide (b<a)))
 | .geq=>some (.bool (decide (b<=a)))
 |_=>none
def gZ (op:BinOp):Value->Value->Option Value
 | .int k a,.int k' b=>
  match op with
  | .shl=>if b<0 then none else some (.int k (fe k (a*By (min b.toNat k.bits))))
  | .shr=>if b<0 then none else some (.int k (a.fdiv (By (min b.toNat k.bits))))
  |_=>if k=k' then lA op k a b else none
 | .string a,.string b=>match op with
  | .eql=>some (.bool (a.toList==b.toList))
  | .neq=>some (.bool (!(a.toList==b.toList)))
  | .add=>if a.size+b.size<=1000000000 then some (.string (a++b)) else none
  |_=>none
 |_,_=>none
def seq1:Value->Value->Option Bool
 | .int k a,.int k' b=>if k=k' then some (a==b) else none
 | .bool a,.bool b=>some (a==b)
 | .string a,.string b=>some (a.toList==b.toList)
 |_,_=>none
def gA:List Value->List Value->Option Bool
 |[],[]=>some true
 |x::xs,y::ys=>match seq1 x y,gA xs ys with
  |some a,some b=>some (a&&b)
  |_,_=>none
 |_,_=>none
def eJ:List Nat->List Value->Bool
 |[],[]=>true
 |0::ks,.int _ _::vs=>eJ ks vs
 |1::ks,.bool _::vs=>eJ ks vs
 |2::ks,.string _::vs=>eJ ks vs
 |_,_=>false
def sg:List AV->Option (List Value)
 |[]=>some []
 | .sc v::r=>(sg r).map (v::·)
 |_=>none
def wJ (ks:List Nat) (a b:List AV):Option Bool:=
 match sg a,sg b with
 |some x,some y=>if eJ ks x&&eJ ks y then gA x y else none
 |_,_=>none
def y8 (op:UnOp):AV->Option AV
 | .sc (.bool b)=>match op with| .not=>some (.sc (.bool !b))|_=>none
 | .sc (.int k n)=>match op with| .neg=>some (.sc (.int k (fe k (0 - n))))|_=>none
 |_=>none
def iw:AV->Option Int
 | .sc (.int _ n)=>some n
 |_=>none
def oN (d:Nat):AV->Option AV
 | .ptr id off tot=>some (.ptr id (off+d) tot)
 | .ep cs off=>some (.ep cs (off+d))
 |_=>none
def nc (o:Store) (sz:Nat):AV->Option (Nat×List AV)
 | .sl n cs=>if cs.length=n*sz then some (n,cs) else none
 | .os id off len tot=>match o[id]? with
  |some (.cells cs _ sz' _)=>if cs.length=tot/\sz'=sz/\off+len*sz<=tot then some (len,(cs.drop off).take (len*sz)) else none
  |_=>none
 | .sc (.slice none 0 0)=>some (0,[])
 |_=>none
def sj (off tot sz:Nat):Nat:=if Nat.ble off tot then off else off - tot - sz
def qh (o:Store) (sz:Nat) (x:AV) (i:Int):Option AV:=
 match x with
 | .sl n cs=>if 0<=i/\i<n/\cs.length=n*sz then some (.ep cs (i.toNat*sz)) else none
 | .os id off len tot=>match o[id]? with
  |some (.cells cs _ sz' _)=>if cs.length=tot/\sz'=sz/\0<=i/\i<len/\sj off tot sz+len*sz<=tot then some (.ptr id (sj off tot sz+i.toNat*sz) tot) else none
  |_=>none
 |_=>none
def lB (o:Store):Nat->AV->Option Nat
 |0,.sl n _=>some n
 |0,.os _ _ len _=>some len
 |0,.sc (.slice _ n _)=>some n
 |1,.sc (.string s)=>some s.size
 |2,.mp id=>match o[id]? with
  |some (.map es _ _)=>some es.length
  |_=>none
 |_,_=>none
def qj (e:TypeId) (sz a:Nat) (pu:Bool) (s x:AV) (o:Store) (bF:Nat):Option (AV×Store):=
 match nc o sz x with
 |none=>none
 |some (m,b)=>
  if eU b=false then none else
  match s with
  | .sc (.slice none 0 0)=>
   if m=0 then some (.sc y7,o)
   else if m*a<=140737488355328/\m<=1000000000000/\(pu=false\/dx b=true) then(lg bF (.cells b e sz pu) o).map λk=>(.os bF 0 m (m*sz),k) else none
  | .os h 0 c d=>match o[h]? with
   |some (.cells g j i f)=>
    if g.length=d/\j=e/\i=sz/\c*sz=d/\(c+m)*a<=140737488355328/\c+m<=1000000000000/\(f=false\/dx b=true)
    then some (.os h 0 (c+m) (d+m*sz),o.set h (.cells (g++b) e sz f)) else none
   |_=>none
  | .sl n g=>if m=0 then some (.sl n g,o) else none
  |_=>none
def ix (d:Nat):Option AV->Option Nat
 |none=>some d
 |some (.sc (.int _ n))=>if 0<=n then some n.toNat else none
 |_=>none
def qk (o:Store) (sz:Nat) (x:AV) (lo hi:Option AV):Option AV:=
 match x with
 | .sl n cs=>match ix 0 lo,ix n hi with
  |some l,some h=>if l<=h/\h<=n/\cs.length=n*sz then some (.sl (h - l) ((cs.drop (l*sz)).take ((h - l)*sz))) else none
  |_,_=>none
 | .os id off len tot=>match ix 0 lo,ix len hi with
  |some l,some h=>match o[id]? with
   |some (.cells cs _ sz' _)=>if l<=h/\h<=len/\cs.length=tot/\sz'=sz then some (.os id (off+l*sz) (h - l) tot) else none
   |_=>none
  |_,_=>none
 | .sc (.slice none 0 0)=>match ix 0 lo,ix 0 hi with
  |some 0,some 0=>some (.sc y7)
  |_,_=>none
 |_=>none
def sr (o:Store) (sz:Nat) (x:AV) (lo:Option AV) (hi mx:AV):Option AV:=
 match x with
 | .sl n cs=>match ix 0 lo,ix n (some hi),ix n (some mx) with
  |some l,some h,some m=>if l<=h/\h<=m/\m<=n/\cs.length=n*sz then some (.sl (h - l) ((cs.drop (l*sz)).take ((h - l)*sz))) else none
  |_,_,_=>none
 | .os id off len tot=>match ix 0 lo,ix len (some hi),ix len (some mx) with
  |some l,some h,some m=>match o[id]? with
   |some (.cells cs _ sz' _)=>if l<=h/\h<=m/\m<=len/\cs.length=tot/\sz'=sz/\off+len*sz<=tot/\0<sz then some (.os id (off+l*sz+(tot+sz)) (h - l) tot) else none
   |_=>none
  |_,_,_=>none
 |_=>none
def ql (ks:List Nat) (ka:Bool):AV->Option Value
 | .sc v=>if !ka&&eJ ks [v] then some v else none
 | .agg cs=>match sg cs with
  |some vs=>if ka&&eJ ks vs then some (.agg vs.toArray) else none
  |none=>none
 |_=>none
def keq:Value->Value->Option Bool
 | .agg a,.agg b=>gA a.toList b.toList
 | .agg _,_=>none
 |_,.agg _=>none
 |a,b=>seq1 a b
def nP (k:Value):List (Value×AV)->Nat->Option (Option (Nat×AV))
 |[],_=>some none
 |e::es,i=>match keq k e.1 with
  |some true=>some (some (i,e.2))
  |some false=>nP k es (i+1)
  |none=>none
def qY (z:List Value) (agg:Bool):Option AV:=
 if agg then some (.agg (z.map .sc)) else match z with
  |[v]=>some (.sc v)
  |_=>none
def freeze (o:Store):Nat->AV->Option AV
 |_,.ud=>some .ud
 |_,.sc v=>match v with
  | .slice none 0 0=>some (.sl 0 [])
  |v=>some (.sc v)
 |_,.sl n cs=>some (.sl n cs)
 |_,.jo t cs=>some (.jo t cs)
 |d+1,.agg cs=>(cs.mapM (freeze o d)).map .agg
 |d+1,.bN cs=>(cs.mapM (freeze o d)).map .bN
 |d+1,.fn f a b=>match a.mapM (freeze o d),b.mapM (freeze o d) with
  |some a',some b'=>some (.fn f a' b')
  |_,_=>none
 |d+1,.os id off len tot=>match o[id]? with
  |some (.cells cs _ sz pu)=>
   if cs.length=tot/\off+len*sz<=tot then
    if pu then some (.sl len ((cs.drop off).take (len*sz)))
    else match((cs.drop off).take (len*sz)).mapM (freeze o d) with
     |some cs'=>if dx cs' then some (.sl len cs') else none
     |none=>none
   else none
  |_=>none
 |_,_=>none
mutual
def AV.ren (m:Nat->Option Nat):AV->Option AV
 | .ud=>some .ud
 | .sc v=>some (.sc v)
 | .sl n cs=>some (.sl n cs)
 | .jo t cs=>some (.jo t cs)
 | .ep cs off=>some (.ep cs off)
 | .agg cs=>(iN m cs).map .agg
 | .bN cs=>(iN m cs).map .bN
 | .ptr id off tot=>(m id).map λi=> .ptr i off tot
 | .os id off len tot=>(m id).map λi=> .os i off len tot
 | .mp id=>(m id).map .mp
 | .fn f a b=>match iN m a,iN m b with
  |some a',some b'=>some (.fn f a' b')
  |_,_=>none
def iN (m:Nat->Option Nat):List AV->Option (List AV)
 |[]=>some []
 |c::cs=>match c.ren m,iN m cs with
  |some c',some cs'=>some (c'::cs')
  |_,_=>none
end
def oO (m:Nat->Option Nat):List (Value×AV)->Option (List (Value×AV))
 |[]=>some []
 |e::es=>match e.2.ren m,oO m es with
  |some v,some es'=>some ((e.1,v)::es')
  |_,_=>none
def bW.ren (m:Nat->Option Nat):bW->Option bW
 | .dead=>some .dead
 | .cells cs e sz pu=>if pu then some (.cells cs e sz pu) else(iN m cs).map λcs'=> .cells cs' e sz pu
 | .map es kt pu=>if pu then some (.map es kt pu) else(oO m es).map λes'=> .map es' kt pu
def idxOf (ids:List Nat) (i:Nat) (k:Nat:=0):Option Nat:=
 match ids with
 |[]=>none
 |j::r=>if j==i then some k else idxOf r i (k+1)
def dc (o:Store):Nat->List AV->List Nat->List Nat
 |0,_,acc=>acc
 |_,[],acc=>acc
 |d+1,v::vs,acc=>
  let visit (id:Nat) (acc:List Nat):List Nat:=
   if acc.contains id then acc else
   match o[id]? with
   |some (.cells cs _ _ pu)=>if pu then acc++[id] else dc o d cs (acc++[id])
   |some (.map es _ pu)=>if pu then acc++[id] else dc o d (es.map (·.2)) (acc++[id])
   |_=>acc++[id];let acc':=match v with
   | .agg cs| .bN cs=>dc o d cs acc
   | .ptr id _ _| .os id _ _ _| .mp id=>visit id acc
   | .fn _ a b=>dc o d b (dc o d a acc)
   |_=>acc;dc o d vs acc'
def fR:Nat:=400
def lh (o:Store) (ids:List Nat):List Nat->Option Store
 |[]=>some []
 |i::r=>match o[i]?,lh o ids r with
  |some x,some l=>(x.ren (λj=>idxOf ids j)).map (·::l)
  |_,_=>none
def oP (ids:List Nat) (n i:Nat):Option Nat:=
 match ids[i]? with
 |some j=>some j
 |none=>some (n+(i - ids.length))
def su (m:Nat->Option Nat):Store->Option Store
 |[]=>some []
 |x::r=>match x.ren m,su m r with
  |some y,some l=>some (y::l)
  |_,_=>none
def lS (o:Store):List Nat->Store->Store
 |[],_=>o
 |_,[]=>o
 |i::r,x::l=>lS (o.set i x) r l
abbrev dm:=FuncId->List AV->Store->Bool->Option (AV×Store)
def iO (call:dm) (f:FuncId) (args:List AV) (o:Store):Option (AV×Store):=
 let ids:=dc o fR args [];match iN (λj=>idxOf ids j) args,lh o ids ids with
 |some args',some small=>match call f args' small true with
  |some (r,M5)=>
   if M5.length<ids.length\/pE ids=false then none else
   match r.ren (oP ids o.length),su (oP ids o.length) M5 with
   |some r',some big=>some (r',lS o ids (big.take ids.length)++big.drop ids.length)
   |_,_=>none
  |none=>none
 |_,_=>none
where pE:List Nat->Bool
 |[]=>true
 |a::r=>!r.contains a&&pE r
mutual
def AV.li:AV->Bool
 | .ud| .sc _=>true
 | .agg cs| .bN cs=>uU cs
 | .sl _ cs=>cs.isEmpty
 |_=>false
def uU:List AV->Bool
 |[]=>true
 |c::cs=>c.li&&uU cs
end
def fA (o:Store):Nat->AV->List Nat
 |d+1,.agg cs=>cs.flatMap (fA o d)
 |d+1,.bN cs=>cs.flatMap (fA o d)
 |d+1,.fn _ a b=>a.flatMap (fA o d)++b.flatMap (fA o d)
 |d+1,.os id off len _=>id::(match o[id]? with
  |some (.cells cs _ sz pu)=>if pu then[] else((cs.drop off).take (len*sz)).flatMap (fA o d)
  |_=>[])
 |_,_=>[]
def uV:List (TypeId×FuncId)->TypeId->Option FuncId
 |[],_=>none
 |p::r,t=>bif δw p.1 t then some p.2 else uV r t
def gU (call:dm) (f:FuncId) (args:List AV) (o:Store) (own:Bool):Option (AV×Store):=
 if own then iO call f args o
 else match args.mapM (freeze o 6) with
  |none=>none
  |some args'=>match call f args' [] false with
   |some (r,[])=>if(args.flatMap (fA o 6)).isEmpty||r.li then some (r,o) else none
   |_=>none
def lC (parts:List (Nat×Nat×AV)) (cs:List AV):Option (List AV):=
 match parts with
 |[]=>some cs
 |(off,n,v)::rest=>
  if v.cellsOf.length=n/\eU v.cellsOf=true/\off+n<=cs.length then lC rest (gj cs off v.cellsOf) else none
def bT (call:dm) (op:cO) (ρ:Operand->AV) (o:Store) (bF:Nat):Option (AV×Store):=
 match op with
 | .uN x=>some (ρ x,o)
 | .pick c a b=>match ρ c with
  | .sc (.bool true)=>some (ρ a,o)
  | .sc (.bool false)=>some (ρ b,o)
  |_=>none
 | .alloc z e pu=>(lg bF (.cells (z.map .sc) e z.length pu) o).map λo'=>(.ptr bF 0 z.length,o')
 | .box e x=>if eU (ρ x).cellsOf then(lg bF (.cells (ρ x).cellsOf e (ρ x).cellsOf.length false) o).map λo'=>(.ptr bF 0 (ρ x).cellsOf.length,o') else none
 | .build z parts=>(lC (parts.map λp=>(p.1,p.2.1,ρ p.2.2)) (z.map .sc)).map λcs=>(.agg cs,o)
 | .pD z len parts e sz=>
  match lC (parts.map λp=>(p.1,sz,ρ p.2)) ((δ len (z.map AV.sc)).flatten) with
  |some cs=>(lg bF (.cells (eI (dx cs) cs) e sz (dx cs)) o).map λo'=>(.os bF 0 len (len*sz),o')
  |none=>none
 | .tf z len parts _ sz=>
  match lC (parts.map λp=>(p.1,sz,ρ p.2)) ((δ len (z.map AV.sc)).flatten) with
  |some cs=>if dx cs=true then some (.sl len (eI true cs),o) else none
  |none=>none
 | .load n a=>match behind o (ρ a) with
  |some (cs,off)=>(gw cs off n).map (·,o)
  |none=>none
 | .store n a x=>match ρ a with
  | .ptr id off tot=>match o[id]? with
   |some (.cells cs e sz pu)=>
    let v:=(ρ x).cellsOf;if cs.length=tot/\v.length=n/\eU v=true/\off+n<=cs.length/\(pu=false\/dx v=true) then some (.ud,o.set id (.cells (gj cs off (eI pu v)) e sz pu)) else none
   |_=>none
  |_=>none
 | .uO x=>match ρ x with
  | .ptr a b c=>some (.ptr a b c,o)
  | .ep a b=>some (.ep a b,o)
  |_=>none
 | .bin op x y=>match ρ x,ρ y with
  | .sc a,.sc b=>(gZ op a b).map λv=>(.sc v,o)
  |_,_=>none
 | .beq neg x y=>match ρ x,ρ y with
  | .sc (.bool a),.sc (.bool b)=>some (.sc (.bool (if neg then !(a==b) else a==b)),o)
  |_,_=>none
 | .sd neg ks x y=>match ρ x,ρ y with
  | .agg a,.agg b=>(wJ ks a b).map λr=>(.sc (.bool (if neg then !r else r)),o)
  |_,_=>none
 | .un op x=>(y8 op (ρ x)).map (·,o)
 | .conv k x=>match ρ x with
  | .sc (.int _ n)=>some (.sc (.int k (fe k n)),o)
  |_=>none
 | .uP off x=>(oN off (ρ x)).map (·,o)
 | .field off n x=>match ρ x with
  | .agg cs=>(gw cs off n).map (·,o)
  |_=>none
 | .uQ len sz x i=>match iw (ρ i) with
  |some n=>if 0<=n/\n<len then(oN (n.toNat*sz) (ρ x)).map (·,o) else none
  |none=>none
 | .sf sz x i=>match iw (ρ i) with
  |some n=>(qh o sz (ρ x) n).map (·,o)
  |none=>none
 | .idx len sz n x i=>match iw (ρ i),ρ x with
  |some k,.agg cs=>if 0<=k/\k<len then(gw cs (k.toNat*sz) n).map (·,o) else none
  |_,_=>none
 | .wI x i=>match iw (ρ i),ρ x with
  |some k,.sc (.string s)=>if 0<=k then(s[k.toNat]?).map λb=>(.sc (.int .u8 b.toNat),o) else none
  |_,_=>none
 | .qf z e sz bytes l c pu=>match iw (ρ l),iw (ρ c) with
  |some n,some m=>if 0<=n/\n<=m/\m*bytes<=140737488355328/\m<=1000000000000 then
    (lg bF (.cells ((δ n.toNat (eI pu (z.map AV.sc))).flatten) e sz pu) o).map λo'=>(.os bF 0 n.toNat (n.toNat*sz),o') else none
  |_,_=>none
 | .slice sz x lo hi=>(qk o sz (ρ x) (lo.map ρ) (hi.map ρ)).map (·,o)
 | .slice3 sz x lo hi mx=>(sr o sz (ρ x) (lo.map ρ) (ρ hi) (ρ mx)).map (·,o)
 | .uR x lo hi=>match ρ x with
  | .sc (.string s)=>match ix 0 (lo.map ρ),ix s.size (hi.map ρ) with
   |some l,some h=>if l<=h/\h<=s.size then some (.sc (.string (s.extract l h)),o) else none
   |_,_=>none
  |_=>none
 | .append e sz bytes s x pu=>qj e sz bytes pu (ρ s) (ρ x) o bF
 | .len k x=>(lB o k (ρ x)).map λ(n:Nat)=>(.sc (.int .i64 n),o)
 | .uS n=>some (.sc (.int .i64 n),o)
 | .mm mx x y=>match ρ x,ρ y with
  | .sc (.int k a),.sc (.int k' b)=>if k=k' then some (.sc (.int k (if mx then(if b>a then b else a) else(if b<a then b else a))),o) else none
  |_,_=>none
 | .call f args own=>gU call f (args.map ρ) o own
 | .jT f args own=>match ρ f with
  | .fn (.func g) first captured=>gU call g (first++args.map ρ++captured) o own
  |_=>none
 | .extract x i=>match ρ x with
  | .bN vs=>(vs[i]?).map (·,o)
  |_=>none
 | .tg f first captured=>some (.fn f (first.map ρ) (captured.map ρ),o)
 | .uT t x=>match ρ x with
  | .agg cs=>if dx cs=true then some (.jo t cs,o) else none
  |_=>none
 | .oL tab x args=>match ρ x with
  | .jo t cs=>match uV tab t with
   |some f=>gU call f (.agg cs::args.map ρ) o false
   |none=>none
  |_=>none
 | .qg kt pu=>(lg bF (.map [] kt pu) o).map λo'=>(.mp bF,o')
 | .lookup z agg ks ka x k ok=>match ρ x,ql ks ka (ρ k) with
  | .mp id,some kv=>match o[id]? with
   |some (.map es kt _)=>if kt=(ks,ka) then match nP kv es 0,qY z agg with
    |some (some (_,v)),_=>some (if ok then .bN [v,.sc (.bool true)] else v,o)
    |some none,some v=>some (if ok then .bN [v,.sc (.bool false)] else v,o)
    |_,_=>none
    else none
   |_=>none
  |_,_=>none
 | .qX ks ka x k v=>match ρ x,ql ks ka (ρ k) with
  | .mp id,some kv=>match o[id]? with
   |some (.map es kt pu)=>
    if(pu=true/\(ρ v).pure=false)\/kt≠(ks,ka) then none else
    match nP kv es 0 with
    |some (some (i,_))=>some (.ud,o.set id (.map (es.modify i λ_=>(kv,ρ v)) kt pu))
    |some none=>some (.ud,o.set id (.map (es++[(kv,ρ v)]) kt pu))
    |none=>none
   |_=>none
  |_,_=>none
def VM (x:Operand) (_call:dm) (ρ:Operand->AV) (o:Store) (_nid:Nat):Option (AV×Store):=some (ρ x,o)
def VN (c:Operand) (a:Operand) (b:Operand) (_call:dm) (ρ:Operand->AV) (o:Store) (_nid:Nat):Option (AV×Store):=match ρ c with
  | .sc (.bool true)=>some (ρ a,o)
  | .sc (.bool false)=>some (ρ b,o)
  |_=>none
def VO (z:List Value) (e:TypeId) (pu:Bool) (_call:dm) (_ρ:Operand->AV) (o:Store) (bF:Nat):Option (AV×Store):=(lg bF (.cells (z.map .sc) e z.length pu) o).map λo'=>(.ptr bF 0 z.length,o')
def VP (e:TypeId) (x:Operand) (_call:dm) (ρ:Operand->AV) (o:Store) (bF:Nat):Option (AV×Store):=if eU (ρ x).cellsOf then(lg bF (.cells (ρ x).cellsOf e (ρ x).cellsOf.length false) o).map λo'=>(.ptr bF 0 (ρ x).cellsOf.length,o') else none
def VQ (z:List Value) (parts:List (Nat×Nat×Operand)) (_call:dm) (ρ:Operand->AV) (o:Store) (_nid:Nat):Option (AV×Store):=(lC (parts.map λp=>(p.1,p.2.1,ρ p.2.2)) (z.map .sc)).map λcs=>(.agg cs,o)
def VR (z:List Value) (len:Nat) (parts:List (Nat×Operand)) (e:TypeId) (sz:Nat) (_call:dm) (ρ:Operand->AV) (o:Store) (bF:Nat):Option (AV×Store):=
  match lC (parts.map λp=>(p.1,sz,ρ p.2)) ((δ len (z.map AV.sc)).flatten) with
  |some cs=>(lg bF (.cells (eI (dx cs) cs) e sz (dx cs)) o).map λo'=>(.os bF 0 len (len*sz),o')
  |none=>none
def VS (z:List Value) (len:Nat) (parts:List (Nat×Operand)) (_a3:TypeId) (sz:Nat) (_call:dm) (ρ:Operand->AV) (o:Store) (_nid:Nat):Option (AV×Store):=
  match lC (parts.map λp=>(p.1,sz,ρ p.2)) ((δ len (z.map AV.sc)).flatten) with
  |some cs=>if dx cs=true then some (.sl len (eI true cs),o) else none
  |none=>none
def VT (n:Option Nat) (a:Operand) (_call:dm) (ρ:Operand->AV) (o:Store) (_nid:Nat):Option (AV×Store):=match behind o (ρ a) with
  |some (cs,off)=>(gw cs off n).map (·,o)
  |none=>none
def VU (n:Nat) (a:Operand) (x:Operand) (_call:dm) (ρ:Operand->AV) (o:Store) (_nid:Nat):Option (AV×Store):=match ρ a with
  | .ptr id off tot=>match o[id]? with
   |some (.cells cs e sz pu)=>
    let v:=(ρ x).cellsOf;if cs.length=tot/\v.length=n/\eU v=true/\off+n<=cs.length/\(pu=false\/dx v=true) then some (.ud,o.set id (.cells (gj cs off (eI pu v)) e sz pu)) else none
   |_=>none
  |_=>none
def VX (x:Operand) (_call:dm) (ρ:Operand->AV) (o:Store) (_nid:Nat):Option (AV×Store):=match ρ x with
  | .ptr a b c=>some (.ptr a b c,o)
  | .ep a b=>some (.ep a b,o)
  |_=>none
def VY (op:BinOp) (x:Operand) (y:Operand) (_call:dm) (ρ:Operand->AV) (o:Store) (_nid:Nat):Option (AV×Store):=match ρ x,ρ y with
  | .sc a,.sc b=>(gZ op a b).map λv=>(.sc v,o)
  |_,_=>none
def VZ (neg:Bool) (x:Operand) (y:Operand) (_call:dm) (ρ:Operand->AV) (o:Store) (_nid:Nat):Option (AV×Store):=match ρ x,ρ y with
  | .sc (.bool a),.sc (.bool b)=>some (.sc (.bool (if neg then !(a==b) else a==b)),o)
  |_,_=>none
def V0 (neg:Bool) (ks:List Nat) (x:Operand) (y:Operand) (_call:dm) (ρ:Operand->AV) (o:Store) (_nid:Nat):Option (AV×Store):=match ρ x,ρ y with
  | .agg a,.agg b=>(wJ ks a b).map λr=>(.sc (.bool (if neg then !r else r)),o)
  |_,_=>none
def V1 (op:UnOp) (x:Operand) (_call:dm) (ρ:Operand->AV) (o:Store) (_nid:Nat):Option (AV×Store):=(y8 op (ρ x)).map (·,o)
def V2 (k:IntKind) (x:Operand) (_call:dm) (ρ:Operand->AV) (o:Store) (_nid:Nat):Option (AV×Store):=match ρ x with
  | .sc (.int _ n)=>some (.sc (.int k (fe k n)),o)
  |_=>none
def V3 (off:Nat) (x:Operand) (_call:dm) (ρ:Operand->AV) (o:Store) (_nid:Nat):Option (AV×Store):=(oN off (ρ x)).map (·,o)
def V4 (off:Nat) (n:Option Nat) (x:Operand) (_call:dm) (ρ:Operand->AV) (o:Store) (_nid:Nat):Option (AV×Store):=match ρ x with
  | .agg cs=>(gw cs off n).map (·,o)
  |_=>none
def V5 (len:Nat) (sz:Nat) (x:Operand) (i:Operand) (_call:dm) (ρ:Operand->AV) (o:Store) (_nid:Nat):Option (AV×Store):=match iw (ρ i) with
  |some n=>if 0<=n/\n<len then(oN (n.toNat*sz) (ρ x)).map (·,o) else none
  |none=>none
def V6 (sz:Nat) (x:Operand) (i:Operand) (_call:dm) (ρ:Operand->AV) (o:Store) (_nid:Nat):Option (AV×Store):=match iw (ρ i) with
  |some n=>(qh o sz (ρ x) n).map (·,o)
  |none=>none
def V7 (len:Nat) (sz:Nat) (n:Option Nat) (x:Operand) (i:Operand) (_call:dm) (ρ:Operand->AV) (o:Store) (_nid:Nat):Option (AV×Store):=match iw (ρ i),ρ x with
  |some k,.agg cs=>if 0<=k/\k<len then(gw cs (k.toNat*sz) n).map (·,o) else none
  |_,_=>none
def V8 (x:Operand) (i:Operand) (_call:dm) (ρ:Operand->AV) (o:Store) (_nid:Nat):Option (AV×Store):=match iw (ρ i),ρ x with
  |some k,.sc (.string s)=>if 0<=k then(s[k.toNat]?).map λb=>(.sc (.int .u8 b.toNat),o) else none
  |_,_=>none
def V9 (z:List Value) (e:TypeId) (sz:Nat) (a:Nat) (l:Operand) (c:Operand) (pu:Bool) (b:dm) (ρ:Operand->AV) (o:Store) (bF:Nat):Option (AV×Store):=match iw (ρ l),iw (ρ c) with
  |some n,some m=>if 0<=n/\n<=m/\m*a<=140737488355328/\m<=1000000000000 then
    (lg bF (.cells ((δ n.toNat (eI pu (z.map AV.sc))).flatten) e sz pu) o).map λd=>(.os bF 0 n.toNat (n.toNat*sz),d) else none
  |_,_=>none
def Wa (sz:Nat) (x:Operand) (lo:Option Operand) (hi:Option Operand) (_call:dm) (ρ:Operand->AV) (o:Store) (_nid:Nat):Option (AV×Store):=(qk o sz (ρ x) (lo.map ρ) (hi.map ρ)).map (·,o)
def Wb (sz:Nat) (x:Operand) (lo:Option Operand) (hi:Operand) (mx:Operand) (_call:dm) (ρ:Operand->AV) (o:Store) (_nid:Nat):Option (AV×Store):=(sr o sz (ρ x) (lo.map ρ) (ρ hi) (ρ mx)).map (·,o)
def Wc (x:Operand) (lo:Option Operand) (hi:Option Operand) (_call:dm) (ρ:Operand->AV) (o:Store) (_nid:Nat):Option (AV×Store):=match ρ x with
  | .sc (.string s)=>match ix 0 (lo.map ρ),ix s.size (hi.map ρ) with
   |some l,some h=>if l<=h/\h<=s.size then some (.sc (.string (s.extract l h)),o) else none
   |_,_=>none
  |_=>none
def Wg (e:TypeId) (sz:Nat) (a:Nat) (s:Operand) (x:Operand) (pu:Bool) (b:dm) (ρ:Operand->AV) (o:Store) (bF:Nat):Option (AV×Store):=qj e sz a pu (ρ s) (ρ x) o bF
def Wh (k:Nat) (x:Operand) (_call:dm) (ρ:Operand->AV) (o:Store) (_nid:Nat):Option (AV×Store):=(lB o k (ρ x)).map λ(n:Nat)=>(.sc (.int .i64 n),o)
def Wi (n:Nat) (_call:dm) (_ρ:Operand->AV) (o:Store) (_nid:Nat):Option (AV×Store):=some (.sc (.int .i64 n),o)
def Wj (mx:Bool) (x:Operand) (y:Operand) (_call:dm) (ρ:Operand->AV) (o:Store) (_nid:Nat):Option (AV×Store):=match ρ x,ρ y with
  | .sc (.int k a),.sc (.int k' b)=>if k=k' then some (.sc (.int k (if mx then(if b>a then b else a) else(if b<a then b else a))),o) else none
  |_,_=>none
def Wl (f:FuncId) (args:List Operand) (own:Bool) (call:dm) (ρ:Operand->AV) (o:Store) (_nid:Nat):Option (AV×Store):=gU call f (args.map ρ) o own
def M7 (f:Operand) (args:List Operand) (own:Bool) (call:dm) (ρ:Operand->AV) (o:Store) (_nid:Nat):Option (AV×Store):=match ρ f with
  | .fn (.func g) first captured=>gU call g (first++args.map ρ++captured) o own
  |_=>none
def Wm (x:Operand) (i:Nat) (_call:dm) (ρ:Operand->AV) (o:Store) (_nid:Nat):Option (AV×Store):=match ρ x with
  | .bN vs=>(vs[i]?).map (·,o)
  |_=>none
def Wn (f:Fn) (first:List Operand) (captured:List Operand) (_call:dm) (ρ:Operand->AV) (o:Store) (_nid:Nat):Option (AV×Store):=some (.fn f (first.map ρ) (captured.map ρ),o)
def Wp (t:TypeId) (x:Operand) (_call:dm) (ρ:Operand->AV) (o:Store) (_nid:Nat):Option (AV×Store):=match ρ x with
  | .agg cs=>if dx cs=true then some (.jo t cs,o) else none
  |_=>none
def M8 (tab:List (TypeId×FuncId)) (x:Operand) (args:List Operand) (call:dm) (ρ:Operand->AV) (o:Store) (_nid:Nat):Option (AV×Store):=match ρ x with
  | .jo t cs=>match uV tab t with
   |some f=>gU call f (.agg cs::args.map ρ) o false
   |none=>none
  |_=>none
def Wq (kt:List Nat×Bool) (pu:Bool) (_call:dm) (_ρ:Operand->AV) (o:Store) (bF:Nat):Option (AV×Store):=(lg bF (.map [] kt pu) o).map λo'=>(.mp bF,o')
def Ws (z:List Value) (agg:Bool) (ks:List Nat) (ka:Bool) (x:Operand) (k:Operand) (ok:Bool) (_call:dm) (ρ:Operand->AV) (o:Store) (_nid:Nat):Option (AV×Store):=match ρ x,ql ks ka (ρ k) with
  | .mp id,some kv=>match o[id]? with
   |some (.map es kt _)=>if kt=(ks,ka) then match nP kv es 0,qY z agg with
    |some (some (_,v)),_=>some (if ok then .bN [v,.sc (.bool true)] else v,o)
    |some none,some v=>some (if ok then .bN [v,.sc (.bool false)] else v,o)
    |_,_=>none
    else none
   |_=>none
  |_,_=>none
def Wt (ks:List Nat) (ka:Bool) (x:Operand) (k:Operand) (v:Operand) (_call:dm) (ρ:Operand->AV) (o:Store) (_nid:Nat):Option (AV×Store):=match ρ x,ql ks ka (ρ k) with
  | .mp id,some kv=>match o[id]? with
   |some (.map es kt pu)=>
    if(pu=true/\(ρ v).pure=false)\/kt≠(ks,ka) then none else
    match nP kv es 0 with
    |some (some (i,_))=>some (.ud,o.set id (.map (es.modify i λ_=>(kv,ρ v)) kt pu))
    |some none=>some (.ud,o.set id (.map (es++[(kv,ρ v)]) kt pu))
    |none=>none
   |_=>none
  |_,_=>none
def FP (op:cO):dm->(Operand->AV)->Store->Nat->Option (AV×Store):=
 match op with
 | .uN x=>VM x
 | .pick c a b=>VN c a b
 | .alloc z e pu=>VO z e pu
 | .box e x=>VP e x
 | .build z parts=>VQ z parts
 | .pD z len parts e sz=>VR z len parts e sz
 | .tf z len parts a3 sz=>VS z len parts a3 sz
 | .load n a=>VT n a
 | .store n a x=>VU n a x
 | .uO x=>VX x
 | .bin op x y=>VY op x y
 | .beq neg x y=>VZ neg x y
 | .sd neg ks x y=>V0 neg ks x y
 | .un op x=>V1 op x
 | .conv k x=>V2 k x
 | .uP off x=>V3 off x
 | .field off n x=>V4 off n x
 | .uQ len sz x i=>V5 len sz x i
 | .sf sz x i=>V6 sz x i
 | .idx len sz n x i=>V7 len sz n x i
 | .wI x i=>V8 x i
 | .qf z e sz bytes l c pu=>V9 z e sz bytes l c pu
 | .slice sz x lo hi=>Wa sz x lo hi
 | .slice3 sz x lo hi mx=>Wb sz x lo hi mx
 | .uR x lo hi=>Wc x lo hi
 | .append e sz bytes s x pu=>Wg e sz bytes s x pu
 | .len k x=>Wh k x
 | .uS n=>Wi n
 | .mm mx x y=>Wj mx x y
 | .call f args own=>Wl f args own
 | .jT f args own=>M7 f args own
 | .extract x i=>Wm x i
 | .tg f first captured=>Wn f first captured
 | .uT t x=>Wp t x
 | .oL tab x args=>M8 tab x args
 | .qg kt pu=>Wq kt pu
 | .lookup z agg ks ka x k ok=>Ws z agg ks ka x k ok
 | .qX ks ka x k v=>Wt ks ka x k v
def qm (call:dm) (op:cO) (ρ:Operand->AV) (o:Store) (bF:Nat):Option (AV×Store):=FP op call ρ o bF
theorem y9 (call:dm) (a:cO) (ρ:Operand->AV) (o:Store) (bF:Nat):qm call a ρ o bF=bT call a ρ o bF:=by
 cases a<;>rfl
def mI (env:jE) (g:Option (Option Nat×Bool)):Option Bool:=
 match g with
 |none=>some true
 |some (none,_)=>none
 |some (some s,b)=>match dN env s with
  | .sc (.bool c)=>some (c==b)
  | .bN []=>some false
  |_=>none
def iy (call:dm) (base:Nat) (i:dA) (st:St):Option St:=
 match mI st.env i.guard with
 |none=>none
 |some false=>some ⟨oK st.env i.dst (.bN []),st.o⟩
 |some true=>match qm call i.op (eT st.env) st.o (base+i.bF) with
  |some (v,o')=>some ⟨oK st.env i.dst v,o'⟩
  |none=>none
def gk (call:dm) (base:Nat):List dA->St->Option St
 |[],st=>some st
 |i::r,st=>match iy call base i st with
  |some st'=>gk call base r st'
  |none=>none
def fD:AV->List Nat
 | .ptr id _ _=>[id]
 | .os id _ _ _=>[id]
 | .mp id=>[id]
 |_=>[]
def dY (op:cO) (ρ:Operand->AV) (o:Store) (bF:Nat):List Nat:=
 match op with
 | .load _ a=>fD (ρ a)
 | .sf _ x _=>fD (ρ x)
 | .slice _ x _ _=>fD (ρ x)
 | .slice3 _ x _ _ _=>fD (ρ x)
 | .len _ x=>fD (ρ x)
 | .lookup _ _ _ _ x _ _=>fD (ρ x)
 | .call _ args false=>(args.map ρ).flatMap (fA o 6)
 | .jT f args false=>match ρ f with
  | .fn _ first captured=>(first++args.map ρ++captured).flatMap (fA o 6)
  |_=>[]
 | .call _ args true=>dc o fR (args.map ρ) []
 | .jT f args true=>match ρ f with
  | .fn _ first captured=>dc o fR (first++args.map ρ++captured) []
  |_=>[]
 | .oL _ x args=>match ρ x with
  | .jo _ cs=>(.agg cs::args.map ρ).flatMap (fA o 6)
  |_=>[]
 | .alloc .. | .box .. | .pD .. | .qf .. | .qg .. =>[bF]
 | .store _ a _=>fD (ρ a)
 | .append _ _ _ s x _=>bF::(fD (ρ s)++fD (ρ x))
 | .qX _ _ x _ _=>fD (ρ x)
 |_=>[]
def wrt (op:cO) (ρ:Operand->AV) (o:Store) (bF:Nat):List Nat:=
 match op with
 | .alloc .. | .box .. | .pD .. | .qf .. | .qg .. =>[bF]
 | .store _ a _=>fD (ρ a)
 | .append _ _ _ s _ _=>bF::fD (ρ s)
 | .call _ args true=>dc o fR (args.map ρ) []
 | .jT f args true=>match ρ f with
  | .fn _ first captured=>dc o fR (first++args.map ρ++captured) []
  |_=>[]
 | .qX _ _ x _ _=>fD (ρ x)
 |_=>[]
open Classical in
noncomputable def eE (call:dm) (op:cO) (ρ:Operand->AV) (o:Store) (bF:Nat):List Nat:=
 match op with
 | .call f args true=>match iO call f (args.map ρ) o with
  |some (_,o')=>(dc o fR (args.map ρ) []).filter λj=>decide (o'[j]?≠o[j]?)
  |none=>[]
 |op=>wrt op ρ o bF
abbrev Trace:=List (Nat×List Nat×List Nat)
noncomputable def mJ (call:dm) (base:Nat):List dA->St->Trace
 |[],_=>[]
 |i::r,st=>(match mI st.env i.guard with
   |some true=>(i.idx,dY i.op (eT st.env) st.o (base+i.bF),eE call i.op (eT st.env) st.o (base+i.bF))
   |_=>(i.idx,[],[]))::match iy call base i st with
  |some st'=>mJ call base r st'
  |none=>[]
def wK (a b:List Nat):Bool:=a.all λx=>!b.contains x
def qo (tr:Trace) (i:Nat):List Nat×List Nat:=
 match tr with
 |[]=>([],[])
 |(j,x)::r=>if j==i then x else qo r i
def tn (n:Nat) (tr:Trace) (kM:List (Nat×Nat)):Bool:=
 kM.all λp=>let a:=qo tr p.1;let b:=qo tr p.2;wK a.2 b.1&&wK b.2 a.1&&a.1.all (λi=>decide (i<n))&&b.1.all (λi=>decide (i<n))
def gl (k:Nat):Store:=δ k .dead
def qZ (base:Nat) (o:Store):Store:=if(o.drop base).all (·.mZ) then o.take base else o
noncomputable def pF (call:dm) (k:Nat) (ops:List dA) (kM:List (Nat×Nat)) (st:St):Option St:=
 let st0:St:=⟨st.env,st.o++gl k⟩;match gk call st.o.length ops st0 with
 |some st'=>if kM.isEmpty||tn st0.o.length (mJ call st.o.length ops st0) kM then some ⟨st'.env,if k=0 then st'.o else qZ st.o.length st'.o⟩ else none
 |none=>none
mutual
def AV.bZ (o:Store) (p:Nat->Bool):AV->Option AV
 | .os id off len tot=>if p id then match o[id]? with
   |some (.cells cs _ sz pu)=>if pu then(if cs.length=tot/\off+len*sz<=tot then some (.sl len ((cs.drop off).take (len*sz))) else none) else some (.os id off len tot)
   |_=>some (.os id off len tot)
  else some (.os id off len tot)
 | .ptr id off tot=>if p id then match o[id]? with
   |some (.cells _ _ _ pu)=>if pu then none else some (.ptr id off tot)
   |_=>some (.ptr id off tot)
  else some (.ptr id off tot)
 | .agg cs=>(hJ o p cs).map .agg
 | .bN cs=>(hJ o p cs).map .bN
 | .fn f a b=>match hJ o p a,hJ o p b with
  |some a',some b'=>some (.fn f a' b')
  |_,_=>none
 |v=>some v
def hJ (o:Store) (p:Nat->Bool):List AV->Option (List AV)
 |[]=>some []
 |c::cs=>match c.bZ o p,hJ o p cs with
  |some c',some cs'=>some (c'::cs')
  |_,_=>none
end
def qp (o:Store) (p:Nat->Bool):List (Value×AV)->Option (List (Value×AV))
 |[]=>some []
 |e::es=>match e.2.bZ o p,qp o p es with
  |some v,some es'=>some ((e.1,v)::es')
  |_,_=>none
def bW.bZ (o:Store) (p:Nat->Bool):bW->Option bW
 | .dead=>some .dead
 | .cells cs e sz pu=>if pu then some (.cells cs e sz pu) else(hJ o p cs).map λcs'=> .cells cs' e sz pu
 | .map es kt pu=>if pu then some (.map es kt pu) else(qp o p es).map λes'=> .map es' kt pu
def jF (o:Store) (p:Nat->Bool):Store->Option Store
 |[]=>some []
 |x::r=>match x.bZ o p,jF o p r with
  |some y,some l=>some (y::l)
  |_,_=>none
def fS (p:Nat->Bool):Nat->Store->Store
 |_,[]=>[]
 |i,x::r=>(match x with
  | .cells cs e sz true=>if p i then .dead else .cells cs e sz true
  |x=>x)::fS p (i+1) r
def uW (o:Store) (p:Nat->Bool):jE->Option jE
 |[]=>some []
 |(k,v)::r=>match v.bZ o p,uW o p r with
  |some v',some r'=>some ((k,v')::r')
  |_,_=>none
def Bz (h:kL) (st:St):Option AV:=
 match h.off with
 |none=>some (dN st.env h.slot)
 |some k=>match behind st.o (dN st.env h.slot) with
  |some (cs,off)=>cs[off+k]?
  |none=>none
def BA (id:Nat) (st:St):St:=
 match st.o[id]? with
 |some (.cells cs e sz true)=>⟨st.env,st.o.set id (.cells cs e sz false)⟩
 |_=>st
def BD (h:kL) (st:St):St:=
 match h.off with
 |none=>match dN st.env h.slot with
  | .sc (.slice none 0 0)=>⟨(h.slot,.os st.o.length 0 0 0)::st.env,st.o++[.cells [] h.e h.sz h.pu]⟩
  | .os id _ _ _=>if h.sz=0 then BA id st else st
  |_=>st
 |some k=>match dN st.env h.slot with
  | .ptr id off tot=>match st.o[id]? with
   |some (.cells cs e sz pu)=>match cs[off+k]? with
    |some (.sc (.slice none 0 0))=>
     if cs.length=tot/\pu=false then⟨st.env,(st.o.set id (.cells (cs.set (off+k) (.os st.o.length 0 0 0)) e sz pu))++[.cells [] h.e h.sz h.pu]⟩ else st
    |_=>st
   |_=>st
  |_=>st
def BE (id:Nat) (st:St):St:=
 let p:Nat->Bool:=λi=>i==id;match uW st.o p st.env,jF st.o p st.o with
 |some env,some o=>⟨env,fS p 0 o⟩
 |_,_=>st
def za (id:Nat) (st:St):St:=
 match st.o[id]? with
 |some (.cells cs e sz false)=>if dx cs then⟨st.env,st.o.set id (.cells cs e sz true)⟩ else st
 |_=>st
def km (lo:Nat) (h:kL) (st:St):St:=
 if h.own then BD h st
 else match Bz h st with
  |some (.os id _ _ _)=>if Nat.ble lo id then BE id (za id st) else st
  |_=>st
def prune (live:List Nat) (env:jE):jE:=live.map λs=>(s,dN env s)
inductive Out where
 |norm
 |exit (id:Nat)
 |ret
 |goto (l:Nat)
 deriving DecidableEq
def trim (k:Nat) (st:St):St:=
 if st.o.length<=k then st
 else if(st.env.all λp=>p.2.cy k)&&((st.o.take k).all λx=>x.cy k) then⟨st.env,st.o.take k⟩ else st
structure nf where
 slot:Nat
 cell:Option (Option Nat)
structure fE where
 params:Nat
 ntmps:Nat
 body:IR
 res:List nf
def q0 (st:St) (r:nf):Option AV:=
 match r.cell with
 |none=>some (dN st.env r.slot)
 |some n=>match behind st.o (dN st.env r.slot) with
  |some (cs,off)=>gw cs off n
  |none=>none
def nQ (st:St) (rs:List nf):Option AV:=
 match rs.mapM (q0 st) with
 |some [v]=>some v
 |some vs=>some (.bN vs)
 |none=>none
def lT (k:Nat) (r:AV) (o:Store):Option (AV×Store):=
 match r.bZ o (λi=>decide (k<=i)),jF o (λi=>decide (k<=i)) o with
 |some r1,some o1=>
  let o2:=fS (λi=>decide (k<=i)) 0 o1;let ids:=dc o2 fR (r1::(o2.take k).flatMap bW.zb) (Θ k);if iO.pE ids then
   match r1.ren (λj=>idxOf ids j),lh o2 ids ids with
   |some r2,some s2=>some (r2,s2)
   |_,_=>none
  else none
 |_,_=>none
where bW.zb:bW->List AV
 | .cells cs _ _ pu=>if pu then[] else cs
 | .map es _ pu=>if pu then[] else es.map (·.2)
 | .dead=>[]
def finish (own:Bool) (k:Nat) (r:AV) (o:Store):Option (AV×Store):=
 if own then lT k r o
 else match k with
  |0=>match freeze o 6 r with
   |some r'=>some (r',[])
   |none=>none
  |_+1=>none
def iz:Nat->List AV->jE
 |_,[]=>[]
 |i,v::vs=>(i,v)::iz (i+1) vs
structure Tab where
 fn:FuncId->Option fE
 K:dm
def q8 (ex:IR->St->Option (Out×St)):IR->St->Option St
 | .skip,st=>some st
 | .seq x y,st=>match ex x st with
  |some (.norm,st')=>q8 ex y st'
  |_=>none
 |_,_=>none
def q9:Out->Bool
 | .norm| .ret=>true
 |_=>false
def FQ (ex:Nat->IR->St->Option (Out×St)) (F:Option fE) (cs:List AV) (s:St):Option (Out×St):=match F with
 |some F=>if cs.length=F.params/\F.res.isEmpty=true then match ex s.o.length F.body ⟨iz 0 cs,s.o⟩ with
  |some (out,s3)=>if q9 out=true then some (.ret,⟨s.env,s3.o⟩) else none
  |none=>none else none
 |none=>none
def tq (T:Tab) (ex:Nat->IR->St->Option (Out×St)) (lo:Nat) (c:IR) (st:St):Option (Out×St):=match c with
 | .tj g caps d a b=>match q8 (ex lo) a st with
  |some s0=>match ex s0.o.length b ⟨(d,.ud)::s0.env,s0.o⟩ with
   |some (out,s2)=>if q9 out=true then FQ ex (T.fn g) (caps.map (eT s0.env)) s2 else none
   |none=>none
  |none=>none
 |c=>ex lo c st
def qs (T:Tab) (ex:Nat->IR->St->Option (Out×St)):dm:=λf args o own=>
 match T.K f args o own with
 |some r=>some r
 |none=>match T.fn f with
  |none=>none
  |some F=>if args.length=F.params then
    match tq T ex o.length F.body ⟨iz 0 args,o⟩ with
    |some (.norm,st)|some (.ret,st)=>match nQ st F.res with
     |some r=>finish own o.length r st.o
     |none=>none
    |_=>none
   else none
def ra (t:Nat):jE->jE
 |[]=>[]
 |p::r=>bif δw p.1 t then ra t r else p::ra t r
def pG (x:Operand) (env:jE):jE:=
 match x with
 | .tmp t=>ra t env
 |_=>env
inductive Md where
 |plain
noncomputable def FT (_:Md) (_:Bool) (call:dm) (k:Nat) (ops:List dA) (kM:List (Nat×Nat)) (st:St):Option St:=pF call k ops kM st
noncomputable def exec (T:Tab):Md->Nat->Nat->IR->St->Option (Out×St)
 |_,0,_,_,_=>none
 |md,n+1,lo,c,st=>
  match c with
  | .skip=>some (.norm,st)
  | .region _ draw k ops kM live pre post=>match FT md draw (qs T (exec T .plain n)) k ops kM (pre.foldl (λs h=>km lo h s) st) with
   |some st'=>some (.norm,post.foldl (λs h=>km lo h s) ⟨prune live st'.env,st'.o⟩)
   |none=>none
  | .seq a b=>match exec T md n lo a st with
   |some (.norm,st')=>exec T md n lo b st'
   |r=>r
  | .cond x a b=>match eT st.env x with
   | .sc (.bool true)=>exec T md n lo a ⟨pG x st.env,st.o⟩
   | .sc (.bool false)=>exec T md n lo b ⟨pG x st.env,st.o⟩
   |_=>none
  | .block id b=>match exec T md n lo b st with
   |some (.exit id',st')=>if id'=id then some (.norm,st') else some (.exit id',st')
   |r=>r
  | .loop b=>match exec T md n lo b st with
   |some (.norm,st')=>exec T md n lo (.loop b) (trim st.o.length st')
   |r=>r
  | .exit id=>some (.exit id,st)
  | .ret=>some (.ret,st)
  | .goto l=>some (.goto l,st)
  | .oM x a b=>match eT st.env x with
   | .sc (.bool true)=>exec T md n lo a st
   | .sc (.bool false)=>exec T md n lo b st
   |_=>none
  | .turns l b=>match exec T md n lo b st with
   |some (.goto l',st')=>if l=some l' then exec T md n lo (.turns l b) (trim st.o.length st') else none
   |r=>r
  | .tj .. =>none
def cO.kN:cO->List Operand
 | .uN x| .box _ x| .load _ x| .uO x| .un _ x| .conv _ x| .uP _ x| .field _ _ x| .len _ x| .extract x _=>[x]
 | .pick c a b=>[c,a,b]
 | .alloc .. | .uS _| .qg .. =>[]
 | .build _ ps=>ps.map (·.2.2)
 | .pD _ _ ps _ _| .tf _ _ ps _ _=>ps.map (·.2)
 | .store _ a x=>[a,x]
 | .bin _ x y| .beq _ x y| .sd _ _ x y| .mm _ x y=>[x,y]
 | .uQ _ _ x i| .sf _ x i| .idx _ _ _ x i| .wI x i=>[x,i]
 | .qf _ _ _ _ l c _=>[l,c]
 | .slice _ x lo hi| .uR x lo hi=>x::(lo.toList++hi.toList)
 | .slice3 _ x lo hi mx=>x::hi::mx::lo.toList
 | .append _ _ _ s x _=>[s,x]
 | .call _ args _=>args
 | .jT f args _=>f::args
 | .tg _ a b=>a++b
 | .uT _ x=>[x]
 | .oL _ x args=>x::args
 | .lookup _ _ _ _ x k _=>[x,k]
 | .qX _ _ x k v=>[x,k,v]
def cO.cls:cO->Nat
 | .uN _| .pick .. | .build .. | .tf .. | .uO _| .bin .. | .beq .. | .sd .. | .un .. | .conv .. | .uP .. | .field .. | .uQ .. | .idx .. | .wI .. | .uR .. | .uS _
 | .mm .. | .extract .. | .tg .. | .uT .. =>0
 | .load .. | .sf .. | .slice .. | .slice3 .. | .len .. | .lookup .. | .oL .. | .call _ _ false| .jT _ _ false=>1
 | .alloc .. | .box .. | .pD .. | .qf .. | .qg .. | .store .. | .append .. | .qX .. =>2
 | .call _ _ true| .jT _ _ true=>3
def cO.makes:cO->Bool
 | .alloc .. | .box .. | .pD .. | .qf .. | .qg .. | .append .. =>true
 |_=>false
def tmpsOf (l:List Operand):List Nat:=l.filterMap λ| .tmp t=>some t|_=>none
def dA.reads (i:dA):List Nat:=
 tmpsOf i.op.kN++(match i.guard with|some (some s,_)=>[s]|_=>[])
def FU (d:Option Nat) (l:List Nat):Bool:=match d with|none=>true|some d=>!l.contains d
def zc (a b:dA):Bool:=
 FU a.dst b.reads&&FU b.dst a.reads&&(match a.dst,b.dst with|some x,some y=>x !=y|_,_=>true)
def wL (a b:dA):Bool:=a.op.cls==0||b.op.cls==0||(a.op.cls==1&&b.op.cls==1)
def BF (a b:dA):Bool:=a.op.cls !=3||b.op.cls !=3
def wM:Nat->List Oper->Bool
 |_,[]=>true
 |i,o::r=>o.after.toList.all (λe=>!Region.binds .any e||decide (e.on<i))&&wM (i+1) r
structure RH where
 id:Nat
 live:List Nat
 perm:List Nat:=[]
 flags:List Nat:=[]
 pre:List kL:=[]
 post:List kL:=[]
def rb (c:TypeId->Option (List Nat)):Nat->List Field->Option (List Nat)
 |_,[]=>some []
 |b,f::d=>if f.name= "_" ∨f.offset≠b then none else match c f.type with
  |some a=>match rb c (b+a.length) d with
   |some r=>some (a++r)
   |none=>none
  |none=>none
def gB (P:Program):Nat->TypeId->Option (List Nat)
 |0,_=>none
 |d+1,t=>match P.underlying t,(P.info? t).map (·.size) with
  |some (.int _),some 1=>some [0]
  |some .bool,some 1=>some [1]
  |some .string,some 1=>some [2]
  |some (.struct b),some n=>if P.stoodInHeld t then none else match rb (gB P d) 0 b.toList with
   |some a=>if a.length=n then some a else none
   |none=>none
  |some (.array k e),some n=>match gB P d e with
   |some a=>if n=k*a.length then some ((δ k a).flatten) else none
   |none=>none
  |_,_=>none
def fO (P:Program) (t:TypeId):Option Bool:=
 match P.underlying t with
 |some (.struct _)|some (.array _ _)=>some true
 |some _=>some false
 |none=>none
def sizeT (P:Program) (t:TypeId):Option Nat:=(P.info? t).map (·.size)
def wO (P:Program) (t:TypeId):Option Nat:=(P.info? t).map (·.bytes)
def oQ (P:Program) (t:TypeId):Option (Option Nat):=
 match fO P t,sizeT P t with
 |some true,some n=>some (some n)
 |some false,some _=>some none
 |_,_=>none
def lU (P:Program) (t:TypeId):Option (List Value):=
 match(P.info? t).bind (·.zero),sizeT P t with
 |some z,some n=>if z.cells.toList.all (·.oneCell')&&z.cells.size==n then some z.cells.toList else none
 |_,_=>none
def zd (P:Program) (t:TypeId) (g:Bool):Bool:=
 match(P.info? t).bind (·.zero) with
 |some (.agg _)=>g
 |some _=>!g
 |none=>false
def BG (P:Program) (name:String) (t:TypeId):Option FuncId:=
 match P.underlying t,P.info? t with
 |some (.struct _),some i=>match i.methods.find? (·.name==name) with
  |some m=>match m.path.toList,m.func with
   |[],some (f,false)=>some f
   |_,_=>none
  |none=>none
 |_,_=>none
def wP (P:Program) (name:String):Nat->List (TypeId×FuncId)
 |0=>[]
 |t+1=>match BG P name t with
  |some f=>(t,f)::wP P name t
  |none=>wP P name t
def M9 (P:Program) (name:String):List (TypeId×FuncId):=wP P name P.types.size
def rc {d c:Type} (f:d->Option c):List d->Option (List c)
 |[]=>some []
 |a::l=>match f a,rc f l with
  |some b,some r=>some (b::r)
  |_,_=>none
def hZ (P:Program) (f:FuncId):Bool:=(P.funcs[f]?).any fun a=>a.body.isSome&&!(a.name== "runtime.NumGoroutine")
def Na (P:Program) (a:Array Field):Option (List (Nat×Nat)):=a.toList.mapM λf=>(P.info? f.type).map λi=>(f.offset,i.size)
def Nb (a:List (Nat×Nat)) (p:Nat×Operand):Option (Nat×Nat×Operand):=(a[p.1]?).map λq=>(q.1,q.2,p.2)
def pH (P:Program) (fl:Bool) (o:Oper):Option cO:=
 match o.op with
 | .move x| .assign x=>some (.uN x)
 | .pick c a b=>some (.pick c a b)
 | .alloc e=>(lU P e).map λz=> .alloc z e fl
 | .box e x=>some (.box e x)
 | .build t parts=>match lU P t,P.underlying t with
  |some z,some (.struct fields)=>match Na P fields with
   |some places=>(rc (Nb places) parts.toList).map λps=> .build z ps
   |none=>none
  |some z,some (.array _ e)=>(sizeT P e).map λn=> .build z (parts.toList.map λp=>(p.1*n,n,p.2))
  |_,_=>none
 | .buildSlice t len parts=>match P.underlying t with
  |some (.slice e)=>match lU P e with
   |some z=>if len*z.length<=16777216/\0<z.length then some (if fl then .tf z len (parts.toList.map λp=>(p.1*z.length,p.2)) e z.length else .pD z len (parts.toList.map λp=>(p.1*z.length,p.2)) e z.length) else none
   |none=>none
  |_=>none
 | .load t a=>(oQ P t).map λn=> .load n a
 | .store t a x=>(sizeT P t).map λn=> .store n a x
 | .nilCheck x=>some (.uO x)
 | .binOp op t x y _=>match op with
  | .eql| .neq=>match P.underlying t with
   |some (.struct _)|some (.array _ _)=>if 20<=P.depth then(gB P 20 t).map λks=> .sd (op matches .neq) ks x y else none
   |some .bool=>some (.beq (op matches .neq) x y)
   |some (.int _)|some .string=>some (.bin op x y)
   |_=>none
  |_=>some (.bin op x y)
 | .unOp op _ x=>some (.un op x)
 | .convert s d x=>match P.underlying s,P.underlying d with
  |some _,some (.int k)=>some (.conv k x)
  |_,_=>none
 | .fieldAddr s x f=>match P.underlying s with
  |some (.struct fs)=>match fs[f]? with
   |some g=>match sizeT P g.type with
    |some n=>if n=0 then none else some (.uP g.offset x)
    |none=>none
   |none=>none
  |_=>none
 | .field t x f=>match P.underlying t with
  |some (.struct fs)=>match fs[f]? with
   |some g=>(oQ P g.type).map λn=> .field g.offset n x
   |none=>none
  |_=>none
 | .indexAddr t x i=>match P.underlying t with
  |some (.array len e)=>(sizeT P e).map λn=> .uQ len n x i
  |some (.slice e)=>match sizeT P e with
   |some n=>if n=0 then none else some (.sf n x i)
   |none=>none
  |_=>none
 | .index t x i=>match P.underlying t with
  |some (.array len e)=>match sizeT P e,oQ P e with
   |some s,some n=>some (.idx len s n x i)
   |_,_=>none
  |some .string=>some (.wI x i)
  |_=>none
 | .makeSlice t l c=>match P.underlying t with
  |some (.slice e)=>match lU P e,wO P e with
   |some z,some b=>if 0<z.length then some (.qf z e z.length b l c fl) else none
   |_,_=>none
  |_=>none
 | .slice t x lo hi none=>match P.underlying t with
  |some (.slice e)=>match sizeT P e with
   |some n=>if n=0 then none else some (.slice n x lo hi)
   |none=>none
  |some .string=>some (.uR x lo hi)
  |_=>none
 | .slice t x lo (some hi) (some mx)=>match P.underlying t with
  |some (.slice e)=>match sizeT P e with
   |some n=>if n=0 then none else some (.slice3 n x lo hi mx)
   |none=>none
  |_=>none
 | .call c=>match c.callee with
  | .value (.func f)=>if hZ P f then some (.call f c.args.toList fl) else none
  | .value v=>some (.jT v c.args.toList fl)
  | .invoke x name=>if fl then none else some (.oL (M9 P name) x c.args.toList)
  | .builtin .append=>match c.args.toList,c.argTypes.toList with
   |[s,x],[t,t']=>if t=t' then match P.underlying t with
     |some (.slice e)=>match lU P e,wO P e with
      |some z,some b=>if 0<z.length then some (.append e z.length b s x fl) else none
      |_,_=>none
     |_=>none
    else none
   |_,_=>none
  | .builtin .len=>match c.args.toList,c.argTypes.toList with
   |[x],[t]=>match P.underlying t with
    |some (.slice _)=>some (.len 0 x)
    |some .string=>some (.len 1 x)
    |some (.map _ _)=>some (.len 2 x)
    |some (.array n _)=>some (.uS n)
    |_=>none
   |_,_=>none
  | .builtin .min=>match c.args.toList with
   |[x,y]=>some (.mm false x y)
   |_=>none
  | .builtin .max=>match c.args.toList with
   |[x,y]=>some (.mm true x y)
   |_=>none
  |_=>none
 | .extract x i=>some (.extract x i)
 | .makeFunc f a b=>match f with
  | .func g=>some (.tg (.func g) a.toList b.toList)
  |_=>none
 | .makeInterface t x=>match P.underlying t with
  |some (.struct _)=>some (.uT t x)
  |_=>none
 | .makeMap t none=>match P.underlying t with
  |some (.map kt _)=>match gB P 20 kt,fO P kt with
    |some ks,some ka=>some (.qg (ks,ka) fl)
    |_,_=>none
  |_=>none
 | .lookup t x k ok=>match P.underlying t with
  |some (.map kt et)=>match gB P 20 kt,fO P kt,lU P et,fO P et with
    |some ks,some ka,some z,some g=>if zd P et g then some (.lookup z g ks ka x k ok) else none
    |_,_,_,_=>none
  |_=>none
 | .mapUpdate t m k v| .insert t m k v=>match P.underlying t with
  |some (.map kt _)=>match gB P 20 kt,fO P kt with
    |some ks,some ka=>some (.qX ks ka m k v)
    |_,_=>none
  |_=>none
 |_=>none
def BH (a:Nat):Option Nat->Bool
 |none=>true
 |some d=>decide (d<a)
def rf (P:Program) (c:Nat) (fl:List Nat) (a:Array Oper) (bF i:Nat):Option dA:=
 match a[i]? with
 |none=>none
 |some o=>if BH c o.dst then(pH P (fl.contains i) o).map λb=>⟨i,bF,o.dst,b,o.guard.map λg=>(((a[g.1]?).bind (·.dst)),g.2)⟩ else none
def uX (P:Program) (b:Nat) (fl:List Nat) (a:Array Oper):Nat->List Nat->Option (List dA×Nat)
 |k,[]=>some ([],k)
 |k,i::r=>match rf P b fl a k i with
  |none=>none
  |some x=>match uX P b fl a (if x.op.makes then k+1 else k) r with
   |none=>none
   |some (l,n)=>some (x::l,n)
def BI (acc:List Nat) (s:Nat) (e:Edge):Nat:=if Region.binds .any e then s |||(2^e.on |||acc.getD e.on 0) else s
def oR (b:Array Oper):List Nat:=
 b.toList.foldl (λa o=>a++[o.after.toList.foldl (BI a) 0]) []
def rh (c:List Nat):List dA->List (Nat×Nat)
 |[]=>[]
 |a::r=>(r.filterMap λb=>if(c.getD b.idx 0).testBit a.idx||wL a b then none else some (a.idx,b.idx))++rh c r
def wQ (c:List Nat):List dA->Bool
 |[]=>true
 |a::r=>r.all (λb=>(c.getD b.idx 0).testBit a.idx||(zc a b&&(wL a b||BF a b)))&&wQ c r
def nodupB:List Nat->Bool
 |[]=>true
 |a::r=>!r.contains a&&nodupB r
def wR (P:Program) (d:Nat) (H:List RH) (id:Nat) (a:Array Oper) (c:Bool):Option IR:=
 match H.find? (·.id==id) with
 |none=>none
 |some h=>
  if c then
   let b:=if h.perm.isEmpty then Θ a.size else h.perm;match uX P d h.flags a 0 b with
   |some (l,k)=>if P.follows .mixedOrders&&b.length==a.size&&nodupB b&&wQ (oR a) l&&wM 0 a.toList&&(Θ a.size).all b.contains then some (.region id true k l (rh (oR a) l) h.live h.pre h.post) else none
   |none=>none
  else(uX P d h.flags a 0 (Θ a.size)).map λ(l,k)=> .region id false k l [] h.live h.pre h.post
def BJ:Code->Bool
 | .seq a b| .cond _ a b=>BJ a||BJ b
 | .block _ b| .loop b| .scope b=>BJ b
 | .goto _=>true
 |_=>false
def BK:Code->Option Nat
 | .seq (.label l) c=>if BJ c then some l else none
 |_=>none
def Nc (H:List RH):Operand->Bool
 | .tmp t=>match H.find? (·.id==999999) with
  |some h=>h.live.contains t
  |none=>false
 |_=>false
def comp (P:Program) (nt:Nat) (H:List RH):Code->Option IR
 | .skip=>some .skip
 | .region id ops draw=>wR P nt H id ops draw
 | .seq a b=>match comp P nt H a,comp P nt H b with
  |some x,some y=>some (.seq x y)
  |_,_=>none
 | .cond c a b=>match comp P nt H a,comp P nt H b with
  |some x,some y=>some (if Nc H c then .oM c x y else .cond c x y)
  |_,_=>none
 | .block id b=>(comp P nt H b).map (.block id)
 | .loop b=>(comp P nt H b).map .loop
 | .exit id=>some (.exit id)
 | .ret=>some .ret
 | .label _=>some .skip
 | .goto l=>some (.goto l)
 | .scope b=>(comp P nt H b).map λx=> .turns (BK b) x
 |_=>none
def BL (h:Array Oper):Option (FuncId×List Operand×Nat):=match h.toList with
 |[f,e]=>match f.dst,f.op,f.guard,e.op,e.dst,e.guard with
  |some d,.makeFunc (.func g) a b,none,.defer c,none,none=>match c.callee with
   | .value (.tmp i)=>if i=d/\a.toList=[]/\c.args.toList=[] then some (g,b.toList,d) else none
   |_=>none
  |_,_,_,_,_,_=>none
 |_=>none
def uY (P:Program) (f:Nat) (H:List RH):Code->Option (IR×(FuncId×List Operand×Nat)×IR)
 | .seq (.region g e d) c=>match BL e,d with
  |some x,false=>if x.2.2<f/\hZ P x.1=true then(comp P f H c).map λb=>(.skip,x,b) else none
  |_,_=>match wR P f H g e d,uY P f H c with
   |some r,some (a,x,b)=>some (.seq r a,x,b)
   |_,_=>none
 |_=>none
def FV (P:Program) (a:Nat) (H:List RH) (c:Code):Option IR:=match comp P a H c with
 |some b=>some b
 |none=>(uY P a H c).map λx=> .tj x.2.1.1 x.2.1.2.1 x.2.1.2.2 x.1 x.2.2
def sw (P:Program):ResultVar->Option nf
 | .tmp t=>some ⟨t,none⟩
 | .cell a t=>(oQ P t).map λn=>⟨a,some n⟩
def BM (P:Program) (H:List RH) (a:Func):Option fE:=
 match a.body with
 |none=>none
 |some c=>match FV P a.ntmps H c,rc (sw P) a.results.toList with
  |some b,some d=>if a.ntmps<a.params.size+a.nfree then none else some ⟨a.params.size+a.nfree,a.ntmps,b,d⟩
  |_,_=>none
end Go.Vi
