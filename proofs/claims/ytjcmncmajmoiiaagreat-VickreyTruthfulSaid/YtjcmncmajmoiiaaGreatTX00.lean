/-
  The abstract interpreter: its values, its small code, and its run. Plain definitions: no proof stands here.
  Conditions: none.
-/
import Derived.Orders
import Derived.RowKit3
set_option maxRecDepth 100000
set_option maxHeartbeats 4000000
set_option linter.all false
open BitVec renaming ofInt->γt
open List renaming replicate->ε,range->τ
open Nat renaming beq->δz
namespace Go.Vi
inductive AV where
 |ud
 |sc (v:Value)
 |agg (cs:List AV)
 |bH (cs:List AV)
 |sl (n:Nat) (cs:List AV)
 |ep (cs:List AV) (off:Nat)
 |ptr (id off tot:Nat)
 |os (id off len tot:Nat)
 |mp (id:Nat)
 |fn (f:Fn) (first captured:List AV)
 |iQ (t:TypeId) (cs:List AV)
 deriving Inhabited
inductive bP where
 |dead
 |cells (cs:List AV) (e:TypeId) (sz:Nat) (pu:Bool)
 |map (es:List (Value×AV)) (kt:List Nat×Bool) (pu:Bool)
 deriving Inhabited
def yK:Value:=.slice none 0 0
def AV.qn:AV->AV
 | .sc (.slice none 0 0)=> .sl 0 []
 |v=>v
def eu (pu:Bool) (cs:List AV):List AV:=if pu then cs.map .qn else cs
def AV.cellsOf:AV->List AV
 | .agg cs=>cs
 |v=>[v]
def AV.one:AV->Bool
 | .agg _| .bH _| .ud=>false
 | .sc v=>v.oneCell'
 |_=>true
mutual
def AV.pure:AV->Bool
 | .sc _=>true
 | .sl _ cs=>dp cs
 |_=>false
def dp:List AV->Bool
 |[]=>true
 |c::cs=>c.pure&&dp cs
end
mutual
def AV.bY (k:Nat):AV->Bool
 | .ud=>true
 | .sc _=>true
 | .agg cs=>dZ k cs
 | .bH cs=>dZ k cs
 | .sl _ _=>true
 | .ep _ _=>true
 | .ptr id _ _=>decide (id<k)
 | .os id _ _ _=>decide (id<k)
 | .mp id=>decide (id<k)
 | .fn _ a b=>dZ k a&&dZ k b
 | .iQ _ _=>true
def dZ (k:Nat):List AV->Bool
 |[]=>true
 |c::cs=>c.bY k&&dZ k cs
end
def bP.bY (k:Nat):bP->Bool
 | .dead=>true
 | .cells cs _ _ pu=>pu||dZ k cs
 | .map es _ pu=>pu||dZ k (es.map (·.2))
abbrev Store:=List bP
def bP.mN:bP->Bool
 | .dead=>true
 |_=>false
def kN (bB:Nat) (x:bP) (o:Store):Option Store:=
 match o[bB]? with
 |some .dead=>some (o.set bB x)
 |_=>none
abbrev je:=List (Nat×AV)
def dF:je->Nat->AV
 |[],_=> .ud
 |p::r,s=>bif δz p.1 s then p.2 else dF r s
def og (env:je) (dst:Option Nat) (v:AV):je:=
 match dst with
 |none=>env
 |some d=>(d,v)::env
def AV.uy:Value->AV
 | .agg cs=>if cs.toList.all (·.oneCell') then .agg (cs.toList.map .sc) else .ud
 | .tuple _=> .ud
 |v=> .sc v
def eE (env:je):Operand->AV
 | .tmp t=>dF env t
 | .const v=> .uy v
 | .global _=> .ud
 | .func f=> .fn (.func f) [] []
inductive cz where
 |uz (x:Operand)
 |pick (c a b:Operand)
 |alloc (z:List Value) (e:TypeId) (pu:Bool)
 |box (e:TypeId) (x:Operand)
 |build (z:List Value) (parts:List (Nat×Nat×Operand))
 |pd (z:List Value) (len:Nat) (parts:List (Nat×Operand)) (e:TypeId) (sz:Nat)
 |sT (z:List Value) (len:Nat) (parts:List (Nat×Operand)) (e:TypeId) (sz:Nat)
 |load (n:Option Nat) (a:Operand)
 |store (n:Nat) (a x:Operand)
 |uA (x:Operand)
 |bin (op:BinOp) (x y:Operand)
 |beq (neg:Bool) (x y:Operand)
 |rN (neg:Bool) (ks:List Nat) (x y:Operand)
 |un (op:UnOp) (x:Operand)
 |conv (k:IntKind) (x:Operand)
 |uB (off:Nat) (x:Operand)
 |field (off:Nat) (n:Option Nat) (x:Operand)
 |uC (len sz:Nat) (x i:Operand)
 |rO (sz:Nat) (x i:Operand)
 |idx (len sz:Nat) (n:Option Nat) (x i:Operand)
 |wa (x i:Operand)
 |pS (z:List Value) (e:TypeId) (sz bytes:Nat) (l c:Operand) (pu:Bool)
 |slice (sz:Nat) (x:Operand) (lo hi:Option Operand)
 |slice3 (sz:Nat) (x:Operand) (lo:Option Operand) (hi mx:Operand)
 |uD (x:Operand) (lo hi:Option Operand)
 |append (e:TypeId) (sz bytes:Nat) (s x:Operand) (pu:Bool)
 |len (k:Nat) (x:Operand)
 |uE (n:Nat)
 |mm (mx:Bool) (x y:Operand)
 |call (f:FuncId) (args:List Operand) (own:Bool)
 |jA (f:Operand) (args:List Operand) (own:Bool)
 |extract (x:Operand) (i:Nat)
 |sU (f:Fn) (first captured:List Operand)
 |uF (t:TypeId) (x:Operand)
 |oh (tab:List (TypeId×FuncId)) (x:Operand) (args:List Operand)
 |pT (kt:List Nat×Bool) (pu:Bool)
 |lookup (z:List Value) (agg:Bool) (ks:List Nat) (ka:Bool) (x k:Operand) (ok:Bool)
 |qN (ks:List Nat) (ka:Bool) (x k v:Operand)
structure dm where
 idx:Nat
 bB:Nat
 dst:Option Nat
 op:cz
 guard:Option (Option Nat×Bool)
structure km where
 own:Bool
 slot:Nat
 off:Option Nat
 e:TypeId
 sz:Nat
 pu:Bool
inductive IR where
 |skip
 |region (id:Nat) (draw:Bool) (k:Nat) (ops:List dm) (kn:List (Nat×Nat)) (live:List Nat) (pre post:List km)
 |seq (a b:IR)
 |cond (c:Operand) (a b:IR)
 |block (id:Nat) (c:IR)
 |loop (c:IR)
 |exit (id:Nat)
 |ret
 |goto (l:Nat)
 |turns (l:Option Nat) (b:IR)
 |om (c:Operand) (a b:IR)
 |sV (g:FuncId) (caps:List Operand) (d:Nat) (a b:IR)
structure St where
 env:je
 o:Store
def behind (o:Store):AV->Option (List AV×Nat)
 | .ptr id off tot=>match o[id]? with
  |some (.cells cs _ _ _)=>if cs.length=tot then some (cs,off) else none
  |_=>none
 | .ep cs off=>some (cs,off)
 |_=>none
def gi (cs:List AV) (off:Nat):Option Nat->Option AV
 |none=>cs[off]?
 |some n=>if off+n<=cs.length then some (.agg ((cs.drop off).take n)) else none
def fR (cs:List AV) (off:Nat):List AV->List AV
 |[]=>cs
 |v::vs=>fR (cs.set off v) (off+1) vs
def eF (l:List AV):Bool:=l.all (·.one)
def eK (k:IntKind) (n:Int):Int:=
 match k with
 | .i64=>if decide (-9223372036854775808<=n)&&decide (n<=9223372036854775807) then n else IntKind.wrap .i64 n
 | .u32=>if decide (0<=n)&&decide (n<=4294967295) then n else IntKind.wrap .u32 n
 | .u64=>if decide (0<=n)&&decide (n<=18446744073709551615) then n else IntKind.wrap .u64 n
 |k=>k.wrap n
def Be (n:Nat):Int:=Int.ofNat (Nat.pow 2 n)
def kY (op:BinOp) (k:IntKind) (a b:Int):Option Value:=
 match op with
 | .add=>some (.int k (eK k (a+b)))
 | .sub=>some (.int k (eK k (a - b)))
 | .mul=>some (.int k (eK k (a*b)))
 | .quo=>if b=0 then none else some (.int k (eK k (a.tdiv b)))
 | .rem=>if b=0 then none else some (.int k (a.tmod b))
 | .and=>some (.int k (eK k (γt k.bits a &&&γt k.bits b).toNat))
 | .or=>some (.int k (eK k (γt k.bits a |||γt k.bits b).toNat))
 | .xor=>some (.int k (eK k (γt k.bits a ^^^γt k.bits b).toNat))
 | .andNot=>some (.int k (eK k (γt k.bits a &&&~~~(γt k.bits b)).toNat))
 | .eql=>some (.bool (a==b))
 | .neq=>some (.bool (a !=b))
 | .lss=>some (.bool (decide (a<b)))
 | .leq=>some (.bool (decide (a<=b)))
 | .gtr=>some (.bool (decide (b<a)))
 | .geq=>some (.bool (decide (b<=a)))
 |_=>none
def gC (op:BinOp):Value->Value->Option Value
 | .int k a,.int k' b=>
  match op with
  | .shl=>if b<0 then none else some (.int k (eK k (a*Be (min b.toNat k.bits))))
  | .shr=>if b<0 then none else some (.int k (a.fdiv (Be (min b.toNat k.bits))))
  |_=>if k=k' then kY op k a b else none
 | .string a,.string b=>match op with
  | .eql=>some (.bool (a.toList==b.toList))
  | .neq=>some (.bool (!(a.toList==b.toList)))
  | .add=>if a.size+b.size<=1000000000 then some (.string (a++b)) else none
  |_=>none
 |_,_=>none
def seq1:Value->Value->Option Bool
 | .int k a,.int k' b=>if k=k' then some (a==b) else none
 | .bool a,.bool b=>some (a==b)
 | .string a,.string b=>some (a.toList==b.toList)
 |_,_=>none
def gj:List Value->List Value->Option Bool
 |[],[]=>some true
 |x::xs,y::ys=>match seq1 x y,gj xs ys with
  |some a,some b=>some (a&&b)
  |_,_=>none
 |_,_=>none
def ey:List Nat->List Value->Bool
 |[],[]=>true
 |0::ks,.int _ _::vs=>ey ks vs
 |1::ks,.bool _::vs=>ey ks vs
 |2::ks,.string _::vs=>ey ks vs
 |_,_=>false
def rP:List AV->Option (List Value)
 |[]=>some []
 | .sc v::r=>(rP r).map (v::·)
 |_=>none
def wb (ks:List Nat) (a b:List AV):Option Bool:=
 match rP a,rP b with
 |some x,some y=>if ey ks x&&ey ks y then gj x y else none
 |_,_=>none
def sW (op:UnOp):AV->Option AV
 | .sc (.bool b)=>match op with| .not=>some (.sc (.bool !b))|_=>none
 | .sc (.int k n)=>match op with| .neg=>some (.sc (.int k (eK k (0 - n))))|_=>none
 |_=>none
def gR:AV->Option Int
 | .sc (.int _ n)=>some n
 |_=>none
def mO (d:Nat):AV->Option AV
 | .ptr id off tot=>some (.ptr id (off+d) tot)
 | .ep cs off=>some (.ep cs (off+d))
 |_=>none
def mP (o:Store) (sz:Nat):AV->Option (Nat×List AV)
 | .sl n cs=>if cs.length=n*sz then some (n,cs) else none
 | .os id off len tot=>match o[id]? with
  |some (.cells cs _ sz' _)=>if cs.length=tot/\sz'=sz/\off+len*sz<=tot then some (len,(cs.drop off).take (len*sz)) else none
  |_=>none
 | .sc (.slice none 0 0)=>some (0,[])
 |_=>none
def rQ (off tot sz:Nat):Nat:=if Nat.ble off tot then off else off - tot - sz
def pU (o:Store) (sz:Nat) (x:AV) (i:Int):Option AV:=
 match x with
 | .sl n cs=>if 0<=i/\i<n/\cs.length=n*sz then some (.ep cs (i.toNat*sz)) else none
 | .os id off len tot=>match o[id]? with
  |some (.cells cs _ sz' _)=>if cs.length=tot/\sz'=sz/\0<=i/\i<len/\rQ off tot sz+len*sz<=tot then some (.ptr id (rQ off tot sz+i.toNat*sz) tot) else none
  |_=>none
 |_=>none
def kZ (o:Store):Nat->AV->Option Nat
 |0,.sl n _=>some n
 |0,.os _ _ len _=>some len
 |0,.sc (.slice _ n _)=>some n
 |1,.sc (.string s)=>some s.size
 |2,.mp id=>match o[id]? with
  |some (.map es _ _)=>some es.length
  |_=>none
 |_,_=>none
def pV (e:TypeId) (sz a:Nat) (pu:Bool) (s x:AV) (o:Store) (bB:Nat):Option (AV×Store):=
 match mP o sz x with
 |none=>none
 |some (m,b)=>
  if eF b=false then none else
  match s with
  | .sc (.slice none 0 0)=>
   if m=0 then some (.sc yK,o)
   else if m*a<=140737488355328/\m<=1000000000000/\(pu=false\/dp b=true) then(kN bB (.cells b e sz pu) o).map λk=>(.os bB 0 m (m*sz),k) else none
  | .os h 0 c d=>match o[h]? with
   |some (.cells g j i f)=>
    if g.length=d/\j=e/\i=sz/\c*sz=d/\(c+m)*a<=140737488355328/\c+m<=1000000000000/\(f=false\/dp b=true)
    then some (.os h 0 (c+m) (d+m*sz),o.set h (.cells (g++b) e sz f)) else none
   |_=>none
  | .sl n g=>if m=0 then some (.sl n g,o) else none
  |_=>none
def gU (d:Nat):Option AV->Option Nat
 |none=>some d
 |some (.sc (.int _ n))=>if 0<=n then some n.toNat else none
 |_=>none
def pW (o:Store) (sz:Nat) (x:AV) (lo hi:Option AV):Option AV:=
 match x with
 | .sl n cs=>match gU 0 lo,gU n hi with
  |some l,some h=>if l<=h/\h<=n/\cs.length=n*sz then some (.sl (h - l) ((cs.drop (l*sz)).take ((h - l)*sz))) else none
  |_,_=>none
 | .os id off len tot=>match gU 0 lo,gU len hi with
  |some l,some h=>match o[id]? with
   |some (.cells cs _ sz' _)=>if l<=h/\h<=len/\cs.length=tot/\sz'=sz then some (.os id (off+l*sz) (h - l) tot) else none
   |_=>none
  |_,_=>none
 | .sc (.slice none 0 0)=>match gU 0 lo,gU 0 hi with
  |some 0,some 0=>some (.sc yK)
  |_,_=>none
 |_=>none
def rR (o:Store) (sz:Nat) (x:AV) (lo:Option AV) (hi mx:AV):Option AV:=
 match x with
 | .sl n cs=>match gU 0 lo,gU n (some hi),gU n (some mx) with
  |some l,some h,some m=>if l<=h/\h<=m/\m<=n/\cs.length=n*sz then some (.sl (h - l) ((cs.drop (l*sz)).take ((h - l)*sz))) else none
  |_,_,_=>none
 | .os id off len tot=>match gU 0 lo,gU len (some hi),gU len (some mx) with
  |some l,some h,some m=>match o[id]? with
   |some (.cells cs _ sz' _)=>if l<=h/\h<=m/\m<=len/\cs.length=tot/\sz'=sz/\off+len*sz<=tot/\0<sz then some (.os id (off+l*sz+(tot+sz)) (h - l) tot) else none
   |_=>none
  |_,_,_=>none
 |_=>none
def k9 (ks:List Nat) (ka:Bool):AV->Option Value
 | .sc v=>if !ka&&ey ks [v] then some v else none
 | .agg cs=>match rP cs with
  |some vs=>if ka&&ey ks vs then some (.agg vs.toArray) else none
  |none=>none
 |_=>none
def keq:Value->Value->Option Bool
 | .agg a,.agg b=>gj a.toList b.toList
 | .agg _,_=>none
 |_,.agg _=>none
 |a,b=>seq1 a b
def nE (k:Value):List (Value×AV)->Nat->Option (Option (Nat×AV))
 |[],_=>some none
 |e::es,i=>match keq k e.1 with
  |some true=>some (some (i,e.2))
  |some false=>nE k es (i+1)
  |none=>none
def qO (z:List Value) (agg:Bool):Option AV:=
 if agg then some (.agg (z.map .sc)) else match z with
  |[v]=>some (.sc v)
  |_=>none
def freeze (o:Store):Nat->AV->Option AV
 |_,.ud=>some .ud
 |_,.sc v=>match v with
  | .slice none 0 0=>some (.sl 0 [])
  |v=>some (.sc v)
 |_,.sl n cs=>some (.sl n cs)
 |_,.iQ t cs=>some (.iQ t cs)
 |d+1,.agg cs=>(cs.mapM (freeze o d)).map .agg
 |d+1,.bH cs=>(cs.mapM (freeze o d)).map .bH
 |d+1,.fn f a b=>match a.mapM (freeze o d),b.mapM (freeze o d) with
  |some a',some b'=>some (.fn f a' b')
  |_,_=>none
 |d+1,.os id off len tot=>match o[id]? with
  |some (.cells cs _ sz pu)=>
   if cs.length=tot/\off+len*sz<=tot then
    if pu then some (.sl len ((cs.drop off).take (len*sz)))
    else match((cs.drop off).take (len*sz)).mapM (freeze o d) with
     |some cs'=>if dp cs' then some (.sl len cs') else none
     |none=>none
   else none
  |_=>none
 |_,_=>none
mutual
def AV.ren (m:Nat->Option Nat):AV->Option AV
 | .ud=>some .ud
 | .sc v=>some (.sc v)
 | .sl n cs=>some (.sl n cs)
 | .iQ t cs=>some (.iQ t cs)
 | .ep cs off=>some (.ep cs off)
 | .agg cs=>(iz m cs).map .agg
 | .bH cs=>(iz m cs).map .bH
 | .ptr id off tot=>(m id).map λi=> .ptr i off tot
 | .os id off len tot=>(m id).map λi=> .os i off len tot
 | .mp id=>(m id).map .mp
 | .fn f a b=>match iz m a,iz m b with
  |some a',some b'=>some (.fn f a' b')
  |_,_=>none
def iz (m:Nat->Option Nat):List AV->Option (List AV)
 |[]=>some []
 |c::cs=>match c.ren m,iz m cs with
  |some c',some cs'=>some (c'::cs')
  |_,_=>none
end
def oo (m:Nat->Option Nat):List (Value×AV)->Option (List (Value×AV))
 |[]=>some []
 |e::es=>match e.2.ren m,oo m es with
  |some v,some es'=>some ((e.1,v)::es')
  |_,_=>none
def bP.ren (m:Nat->Option Nat):bP->Option bP
 | .dead=>some .dead
 | .cells cs e sz pu=>if pu then some (.cells cs e sz pu) else(iz m cs).map λcs'=> .cells cs' e sz pu
 | .map es kt pu=>if pu then some (.map es kt pu) else(oo m es).map λes'=> .map es' kt pu
def idxOf (ids:List Nat) (i:Nat) (k:Nat:=0):Option Nat:=
 match ids with
 |[]=>none
 |j::r=>if j==i then some k else idxOf r i (k+1)
def cG (o:Store):Nat->List AV->List Nat->List Nat
 |0,_,acc=>acc
 |_,[],acc=>acc
 |d+1,v::vs,acc=>
  let visit (id:Nat) (acc:List Nat):List Nat:=
   if acc.contains id then acc else
   match o[id]? with
   |some (.cells cs _ _ pu)=>if pu then acc++[id] else cG o d cs (acc++[id])
   |some (.map es _ pu)=>if pu then acc++[id] else cG o d (es.map (·.2)) (acc++[id])
   |_=>acc++[id]
  let acc':=match v with
   | .agg cs| .bH cs=>cG o d cs acc
   | .ptr id _ _| .os id _ _ _| .mp id=>visit id acc
   | .fn _ a b=>cG o d b (cG o d a acc)
   |_=>acc
  cG o d vs acc'
def fw:Nat:=400
def kO (o:Store) (ids:List Nat):List Nat->Option Store
 |[]=>some []
 |i::r=>match o[i]?,kO o ids r with
  |some x,some l=>(x.ren (λj=>idxOf ids j)).map (·::l)
  |_,_=>none
def oq (ids:List Nat) (n i:Nat):Option Nat:=
 match ids[i]? with
 |some j=>some j
 |none=>some (n+(i - ids.length))
def rT (m:Nat->Option Nat):Store->Option Store
 |[]=>some []
 |x::r=>match x.ren m,rT m r with
  |some y,some l=>some (y::l)
  |_,_=>none
def lz (o:Store):List Nat->Store->Store
 |[],_=>o
 |_,[]=>o
 |i::r,x::l=>lz (o.set i x) r l
abbrev cT:=FuncId->List AV->Store->Bool->Option (AV×Store)
def iC (call:cT) (f:FuncId) (args:List AV) (o:Store):Option (AV×Store):=
 let ids:=cG o fw args []
 match iz (λj=>idxOf ids j) args,kO o ids ids with
 |some args',some small=>match call f args' small true with
  |some (r,L9)=>
   if L9.length<ids.length\/pe ids=false then none else
   match r.ren (oq ids o.length),rT (oq ids o.length) L9 with
   |some r',some big=>some (r',lz o ids (big.take ids.length)++big.drop ids.length)
   |_,_=>none
  |none=>none
 |_,_=>none
where pe:List Nat->Bool
 |[]=>true
 |a::r=>!r.contains a&&pe r
mutual
def AV.kP:AV->Bool
 | .ud| .sc _=>true
 | .agg cs| .bH cs=>uG cs
 | .sl _ cs=>cs.isEmpty
 |_=>false
def uG:List AV->Bool
 |[]=>true
 |c::cs=>c.kP&&uG cs
end
def eU (o:Store):Nat->AV->List Nat
 |d+1,.agg cs=>cs.flatMap (eU o d)
 |d+1,.bH cs=>cs.flatMap (eU o d)
 |d+1,.fn _ a b=>a.flatMap (eU o d)++b.flatMap (eU o d)
 |d+1,.os id off len _=>id::(match o[id]? with
  |some (.cells cs _ sz pu)=>if pu then[] else((cs.drop off).take (len*sz)).flatMap (eU o d)
  |_=>[])
 |_,_=>[]
def uH:List (TypeId×FuncId)->TypeId->Option FuncId
 |[],_=>none
 |p::r,t=>bif δz p.1 t then some p.2 else uH r t
def gu (call:cT) (f:FuncId) (args:List AV) (o:Store) (own:Bool):Option (AV×Store):=
 if own then iC call f args o
 else match args.mapM (freeze o 6) with
  |none=>none
  |some args'=>match call f args' [] false with
   |some (r,[])=>if(args.flatMap (eU o 6)).isEmpty||r.kP then some (r,o) else none
   |_=>none
def lg (parts:List (Nat×Nat×AV)) (cs:List AV):Option (List AV):=
 match parts with
 |[]=>some cs
 |(off,n,v)::rest=>
  if v.cellsOf.length=n/\eF v.cellsOf=true/\off+n<=cs.length then lg rest (fR cs off v.cellsOf) else none
def bJ (call:cT) (op:cz) (ρ:Operand->AV) (o:Store) (bB:Nat):Option (AV×Store):=
 match op with
 | .uz x=>some (ρ x,o)
 | .pick c a b=>match ρ c with
  | .sc (.bool true)=>some (ρ a,o)
  | .sc (.bool false)=>some (ρ b,o)
  |_=>none
 | .alloc z e pu=>(kN bB (.cells (z.map .sc) e z.length pu) o).map λo'=>(.ptr bB 0 z.length,o')
 | .box e x=>if eF (ρ x).cellsOf then(kN bB (.cells (ρ x).cellsOf e (ρ x).cellsOf.length false) o).map λo'=>(.ptr bB 0 (ρ x).cellsOf.length,o') else none
 | .build z parts=>(lg (parts.map λp=>(p.1,p.2.1,ρ p.2.2)) (z.map .sc)).map λcs=>(.agg cs,o)
 | .pd z len parts e sz=>
  match lg (parts.map λp=>(p.1,sz,ρ p.2)) ((ε len (z.map AV.sc)).flatten) with
  |some cs=>(kN bB (.cells (eu (dp cs) cs) e sz (dp cs)) o).map λo'=>(.os bB 0 len (len*sz),o')
  |none=>none
 | .sT z len parts _ sz=>
  match lg (parts.map λp=>(p.1,sz,ρ p.2)) ((ε len (z.map AV.sc)).flatten) with
  |some cs=>if dp cs=true then some (.sl len (eu true cs),o) else none
  |none=>none
 | .load n a=>match behind o (ρ a) with
  |some (cs,off)=>(gi cs off n).map (·,o)
  |none=>none
 | .store n a x=>match ρ a with
  | .ptr id off tot=>match o[id]? with
   |some (.cells cs e sz pu)=>
    let v:=(ρ x).cellsOf
    if cs.length=tot/\v.length=n/\eF v=true/\off+n<=cs.length/\(pu=false\/dp v=true) then some (.ud,o.set id (.cells (fR cs off (eu pu v)) e sz pu)) else none
   |_=>none
  |_=>none
 | .uA x=>match ρ x with
  | .ptr a b c=>some (.ptr a b c,o)
  | .ep a b=>some (.ep a b,o)
  |_=>none
 | .bin op x y=>match ρ x,ρ y with
  | .sc a,.sc b=>(gC op a b).map λv=>(.sc v,o)
  |_,_=>none
 | .beq neg x y=>match ρ x,ρ y with
  | .sc (.bool a),.sc (.bool b)=>some (.sc (.bool (if neg then !(a==b) else a==b)),o)
  |_,_=>none
 | .rN neg ks x y=>match ρ x,ρ y with
  | .agg a,.agg b=>(wb ks a b).map λr=>(.sc (.bool (if neg then !r else r)),o)
  |_,_=>none
 | .un op x=>(sW op (ρ x)).map (·,o)
 | .conv k x=>match ρ x with
  | .sc (.int _ n)=>some (.sc (.int k (eK k n)),o)
  |_=>none
 | .uB off x=>(mO off (ρ x)).map (·,o)
 | .field off n x=>match ρ x with
  | .agg cs=>(gi cs off n).map (·,o)
  |_=>none
 | .uC len sz x i=>match gR (ρ i) with
  |some n=>if 0<=n/\n<len then(mO (n.toNat*sz) (ρ x)).map (·,o) else none
  |none=>none
 | .rO sz x i=>match gR (ρ i) with
  |some n=>(pU o sz (ρ x) n).map (·,o)
  |none=>none
 | .idx len sz n x i=>match gR (ρ i),ρ x with
  |some k,.agg cs=>if 0<=k/\k<len then(gi cs (k.toNat*sz) n).map (·,o) else none
  |_,_=>none
 | .wa x i=>match gR (ρ i),ρ x with
  |some k,.sc (.string s)=>if 0<=k then(s[k.toNat]?).map λb=>(.sc (.int .u8 b.toNat),o) else none
  |_,_=>none
 | .pS z e sz bytes l c pu=>match gR (ρ l),gR (ρ c) with
  |some n,some m=>if 0<=n/\n<=m/\m*bytes<=140737488355328/\m<=1000000000000 then
    (kN bB (.cells ((ε n.toNat (eu pu (z.map AV.sc))).flatten) e sz pu) o).map λo'=>(.os bB 0 n.toNat (n.toNat*sz),o') else none
  |_,_=>none
 | .slice sz x lo hi=>(pW o sz (ρ x) (lo.map ρ) (hi.map ρ)).map (·,o)
 | .slice3 sz x lo hi mx=>(rR o sz (ρ x) (lo.map ρ) (ρ hi) (ρ mx)).map (·,o)
 | .uD x lo hi=>match ρ x with
  | .sc (.string s)=>match gU 0 (lo.map ρ),gU s.size (hi.map ρ) with
   |some l,some h=>if l<=h/\h<=s.size then some (.sc (.string (s.extract l h)),o) else none
   |_,_=>none
  |_=>none
 | .append e sz bytes s x pu=>pV e sz bytes pu (ρ s) (ρ x) o bB
 | .len k x=>(kZ o k (ρ x)).map λ(n:Nat)=>(.sc (.int .i64 n),o)
 | .uE n=>some (.sc (.int .i64 n),o)
 | .mm mx x y=>match ρ x,ρ y with
  | .sc (.int k a),.sc (.int k' b)=>if k=k' then some (.sc (.int k (if mx then(if b>a then b else a) else(if b<a then b else a))),o) else none
  |_,_=>none
 | .call f args own=>gu call f (args.map ρ) o own
 | .jA f args own=>match ρ f with
  | .fn (.func g) first captured=>gu call g (first++args.map ρ++captured) o own
  |_=>none
 | .extract x i=>match ρ x with
  | .bH vs=>(vs[i]?).map (·,o)
  |_=>none
 | .sU f first captured=>some (.fn f (first.map ρ) (captured.map ρ),o)
 | .uF t x=>match ρ x with
  | .agg cs=>if dp cs=true then some (.iQ t cs,o) else none
  |_=>none
 | .oh tab x args=>match ρ x with
  | .iQ t cs=>match uH tab t with
   |some f=>gu call f (.agg cs::args.map ρ) o false
   |none=>none
  |_=>none
 | .pT kt pu=>(kN bB (.map [] kt pu) o).map λo'=>(.mp bB,o')
 | .lookup z agg ks ka x k ok=>match ρ x,k9 ks ka (ρ k) with
  | .mp id,some kv=>match o[id]? with
   |some (.map es kt _)=>if kt=(ks,ka) then match nE kv es 0,qO z agg with
    |some (some (_,v)),_=>some (if ok then .bH [v,.sc (.bool true)] else v,o)
    |some none,some v=>some (if ok then .bH [v,.sc (.bool false)] else v,o)
    |_,_=>none
    else none
   |_=>none
  |_,_=>none
 | .qN ks ka x k v=>match ρ x,k9 ks ka (ρ k) with
  | .mp id,some kv=>match o[id]? with
   |some (.map es kt pu)=>
    if(pu=true/\(ρ v).pure=false)\/kt≠(ks,ka) then none else
    match nE kv es 0 with
    |some (some (i,_))=>some (.ud,o.set id (.map (es.modify i λ_=>(kv,ρ v)) kt pu))
    |some none=>some (.ud,o.set id (.map (es++[(kv,ρ v)]) kt pu))
    |none=>none
   |_=>none
  |_,_=>none
def Vq (x:Operand) (_call:cT) (ρ:Operand->AV) (o:Store) (_nid:Nat):Option (AV×Store):=some (ρ x,o)
def Vr (c:Operand) (a:Operand) (b:Operand) (_call:cT) (ρ:Operand->AV) (o:Store) (_nid:Nat):Option (AV×Store):=match ρ c with
  | .sc (.bool true)=>some (ρ a,o)
  | .sc (.bool false)=>some (ρ b,o)
  |_=>none
def Vs (z:List Value) (e:TypeId) (pu:Bool) (_call:cT) (_ρ:Operand->AV) (o:Store) (bB:Nat):Option (AV×Store):=(kN bB (.cells (z.map .sc) e z.length pu) o).map λo'=>(.ptr bB 0 z.length,o')
def Vt (e:TypeId) (x:Operand) (_call:cT) (ρ:Operand->AV) (o:Store) (bB:Nat):Option (AV×Store):=if eF (ρ x).cellsOf then(kN bB (.cells (ρ x).cellsOf e (ρ x).cellsOf.length false) o).map λo'=>(.ptr bB 0 (ρ x).cellsOf.length,o') else none
def Vu (z:List Value) (parts:List (Nat×Nat×Operand)) (_call:cT) (ρ:Operand->AV) (o:Store) (_nid:Nat):Option (AV×Store):=(lg (parts.map λp=>(p.1,p.2.1,ρ p.2.2)) (z.map .sc)).map λcs=>(.agg cs,o)
def Vv (z:List Value) (len:Nat) (parts:List (Nat×Operand)) (e:TypeId) (sz:Nat) (_call:cT) (ρ:Operand->AV) (o:Store) (bB:Nat):Option (AV×Store):=
  match lg (parts.map λp=>(p.1,sz,ρ p.2)) ((ε len (z.map AV.sc)).flatten) with
  |some cs=>(kN bB (.cells (eu (dp cs) cs) e sz (dp cs)) o).map λo'=>(.os bB 0 len (len*sz),o')
  |none=>none
def Vw (z:List Value) (len:Nat) (parts:List (Nat×Operand)) (_a3:TypeId) (sz:Nat) (_call:cT) (ρ:Operand->AV) (o:Store) (_nid:Nat):Option (AV×Store):=
  match lg (parts.map λp=>(p.1,sz,ρ p.2)) ((ε len (z.map AV.sc)).flatten) with
  |some cs=>if dp cs=true then some (.sl len (eu true cs),o) else none
  |none=>none
def Vx (n:Option Nat) (a:Operand) (_call:cT) (ρ:Operand->AV) (o:Store) (_nid:Nat):Option (AV×Store):=match behind o (ρ a) with
  |some (cs,off)=>(gi cs off n).map (·,o)
  |none=>none
def Vy (n:Nat) (a:Operand) (x:Operand) (_call:cT) (ρ:Operand->AV) (o:Store) (_nid:Nat):Option (AV×Store):=match ρ a with
  | .ptr id off tot=>match o[id]? with
   |some (.cells cs e sz pu)=>
    let v:=(ρ x).cellsOf
    if cs.length=tot/\v.length=n/\eF v=true/\off+n<=cs.length/\(pu=false\/dp v=true) then some (.ud,o.set id (.cells (fR cs off (eu pu v)) e sz pu)) else none
   |_=>none
  |_=>none
def Vz (x:Operand) (_call:cT) (ρ:Operand->AV) (o:Store) (_nid:Nat):Option (AV×Store):=match ρ x with
  | .ptr a b c=>some (.ptr a b c,o)
  | .ep a b=>some (.ep a b,o)
  |_=>none
def VA (op:BinOp) (x:Operand) (y:Operand) (_call:cT) (ρ:Operand->AV) (o:Store) (_nid:Nat):Option (AV×Store):=match ρ x,ρ y with
  | .sc a,.sc b=>(gC op a b).map λv=>(.sc v,o)
  |_,_=>none
def VB (neg:Bool) (x:Operand) (y:Operand) (_call:cT) (ρ:Operand->AV) (o:Store) (_nid:Nat):Option (AV×Store):=match ρ x,ρ y with
  | .sc (.bool a),.sc (.bool b)=>some (.sc (.bool (if neg then !(a==b) else a==b)),o)
  |_,_=>none
def VC (neg:Bool) (ks:List Nat) (x:Operand) (y:Operand) (_call:cT) (ρ:Operand->AV) (o:Store) (_nid:Nat):Option (AV×Store):=match ρ x,ρ y with
  | .agg a,.agg b=>(wb ks a b).map λr=>(.sc (.bool (if neg then !r else r)),o)
  |_,_=>none
def VD (op:UnOp) (x:Operand) (_call:cT) (ρ:Operand->AV) (o:Store) (_nid:Nat):Option (AV×Store):=(sW op (ρ x)).map (·,o)
def VE (k:IntKind) (x:Operand) (_call:cT) (ρ:Operand->AV) (o:Store) (_nid:Nat):Option (AV×Store):=match ρ x with
  | .sc (.int _ n)=>some (.sc (.int k (eK k n)),o)
  |_=>none
def VF (off:Nat) (x:Operand) (_call:cT) (ρ:Operand->AV) (o:Store) (_nid:Nat):Option (AV×Store):=(mO off (ρ x)).map (·,o)
def VG (off:Nat) (n:Option Nat) (x:Operand) (_call:cT) (ρ:Operand->AV) (o:Store) (_nid:Nat):Option (AV×Store):=match ρ x with
  | .agg cs=>(gi cs off n).map (·,o)
  |_=>none
def VH (len:Nat) (sz:Nat) (x:Operand) (i:Operand) (_call:cT) (ρ:Operand->AV) (o:Store) (_nid:Nat):Option (AV×Store):=match gR (ρ i) with
  |some n=>if 0<=n/\n<len then(mO (n.toNat*sz) (ρ x)).map (·,o) else none
  |none=>none
def VI (sz:Nat) (x:Operand) (i:Operand) (_call:cT) (ρ:Operand->AV) (o:Store) (_nid:Nat):Option (AV×Store):=match gR (ρ i) with
  |some n=>(pU o sz (ρ x) n).map (·,o)
  |none=>none
def VJ (len:Nat) (sz:Nat) (n:Option Nat) (x:Operand) (i:Operand) (_call:cT) (ρ:Operand->AV) (o:Store) (_nid:Nat):Option (AV×Store):=match gR (ρ i),ρ x with
  |some k,.agg cs=>if 0<=k/\k<len then(gi cs (k.toNat*sz) n).map (·,o) else none
  |_,_=>none
def VK (x:Operand) (i:Operand) (_call:cT) (ρ:Operand->AV) (o:Store) (_nid:Nat):Option (AV×Store):=match gR (ρ i),ρ x with
  |some k,.sc (.string s)=>if 0<=k then(s[k.toNat]?).map λb=>(.sc (.int .u8 b.toNat),o) else none
  |_,_=>none
def VL (z:List Value) (e:TypeId) (sz:Nat) (a:Nat) (l:Operand) (c:Operand) (pu:Bool) (b:cT) (ρ:Operand->AV) (o:Store) (bB:Nat):Option (AV×Store):=match gR (ρ l),gR (ρ c) with
  |some n,some m=>if 0<=n/\n<=m/\m*a<=140737488355328/\m<=1000000000000 then
    (kN bB (.cells ((ε n.toNat (eu pu (z.map AV.sc))).flatten) e sz pu) o).map λd=>(.os bB 0 n.toNat (n.toNat*sz),d) else none
  |_,_=>none
def VM (sz:Nat) (x:Operand) (lo:Option Operand) (hi:Option Operand) (_call:cT) (ρ:Operand->AV) (o:Store) (_nid:Nat):Option (AV×Store):=(pW o sz (ρ x) (lo.map ρ) (hi.map ρ)).map (·,o)
def VN (sz:Nat) (x:Operand) (lo:Option Operand) (hi:Operand) (mx:Operand) (_call:cT) (ρ:Operand->AV) (o:Store) (_nid:Nat):Option (AV×Store):=(rR o sz (ρ x) (lo.map ρ) (ρ hi) (ρ mx)).map (·,o)
def VO (x:Operand) (lo:Option Operand) (hi:Option Operand) (_call:cT) (ρ:Operand->AV) (o:Store) (_nid:Nat):Option (AV×Store):=match ρ x with
  | .sc (.string s)=>match gU 0 (lo.map ρ),gU s.size (hi.map ρ) with
   |some l,some h=>if l<=h/\h<=s.size then some (.sc (.string (s.extract l h)),o) else none
   |_,_=>none
  |_=>none
def VP (e:TypeId) (sz:Nat) (a:Nat) (s:Operand) (x:Operand) (pu:Bool) (b:cT) (ρ:Operand->AV) (o:Store) (bB:Nat):Option (AV×Store):=pV e sz a pu (ρ s) (ρ x) o bB
def VQ (k:Nat) (x:Operand) (_call:cT) (ρ:Operand->AV) (o:Store) (_nid:Nat):Option (AV×Store):=(kZ o k (ρ x)).map λ(n:Nat)=>(.sc (.int .i64 n),o)
def VR (n:Nat) (_call:cT) (_ρ:Operand->AV) (o:Store) (_nid:Nat):Option (AV×Store):=some (.sc (.int .i64 n),o)
def VS (mx:Bool) (x:Operand) (y:Operand) (_call:cT) (ρ:Operand->AV) (o:Store) (_nid:Nat):Option (AV×Store):=match ρ x,ρ y with
  | .sc (.int k a),.sc (.int k' b)=>if k=k' then some (.sc (.int k (if mx then(if b>a then b else a) else(if b<a then b else a))),o) else none
  |_,_=>none
def VT (f:FuncId) (args:List Operand) (own:Bool) (call:cT) (ρ:Operand->AV) (o:Store) (_nid:Nat):Option (AV×Store):=gu call f (args.map ρ) o own
def Mc (f:Operand) (args:List Operand) (own:Bool) (call:cT) (ρ:Operand->AV) (o:Store) (_nid:Nat):Option (AV×Store):=match ρ f with
  | .fn (.func g) first captured=>gu call g (first++args.map ρ++captured) o own
  |_=>none
def VU (x:Operand) (i:Nat) (_call:cT) (ρ:Operand->AV) (o:Store) (_nid:Nat):Option (AV×Store):=match ρ x with
  | .bH vs=>(vs[i]?).map (·,o)
  |_=>none
def VX (f:Fn) (first:List Operand) (captured:List Operand) (_call:cT) (ρ:Operand->AV) (o:Store) (_nid:Nat):Option (AV×Store):=some (.fn f (first.map ρ) (captured.map ρ),o)
def VY (t:TypeId) (x:Operand) (_call:cT) (ρ:Operand->AV) (o:Store) (_nid:Nat):Option (AV×Store):=match ρ x with
  | .agg cs=>if dp cs=true then some (.iQ t cs,o) else none
  |_=>none
def Me (tab:List (TypeId×FuncId)) (x:Operand) (args:List Operand) (call:cT) (ρ:Operand->AV) (o:Store) (_nid:Nat):Option (AV×Store):=match ρ x with
  | .iQ t cs=>match uH tab t with
   |some f=>gu call f (.agg cs::args.map ρ) o false
   |none=>none
  |_=>none
def VZ (kt:List Nat×Bool) (pu:Bool) (_call:cT) (_ρ:Operand->AV) (o:Store) (bB:Nat):Option (AV×Store):=(kN bB (.map [] kt pu) o).map λo'=>(.mp bB,o')
def V0 (z:List Value) (agg:Bool) (ks:List Nat) (ka:Bool) (x:Operand) (k:Operand) (ok:Bool) (_call:cT) (ρ:Operand->AV) (o:Store) (_nid:Nat):Option (AV×Store):=match ρ x,k9 ks ka (ρ k) with
  | .mp id,some kv=>match o[id]? with
   |some (.map es kt _)=>if kt=(ks,ka) then match nE kv es 0,qO z agg with
    |some (some (_,v)),_=>some (if ok then .bH [v,.sc (.bool true)] else v,o)
    |some none,some v=>some (if ok then .bH [v,.sc (.bool false)] else v,o)
    |_,_=>none
    else none
   |_=>none
  |_,_=>none
def V1 (ks:List Nat) (ka:Bool) (x:Operand) (k:Operand) (v:Operand) (_call:cT) (ρ:Operand->AV) (o:Store) (_nid:Nat):Option (AV×Store):=match ρ x,k9 ks ka (ρ k) with
  | .mp id,some kv=>match o[id]? with
   |some (.map es kt pu)=>
    if(pu=true/\(ρ v).pure=false)\/kt≠(ks,ka) then none else
    match nE kv es 0 with
    |some (some (i,_))=>some (.ud,o.set id (.map (es.modify i λ_=>(kv,ρ v)) kt pu))
    |some none=>some (.ud,o.set id (.map (es++[(kv,ρ v)]) kt pu))
    |none=>none
   |_=>none
  |_,_=>none
def Fe (op:cz):cT->(Operand->AV)->Store->Nat->Option (AV×Store):=
 match op with
 | .uz x=>Vq x
 | .pick c a b=>Vr c a b
 | .alloc z e pu=>Vs z e pu
 | .box e x=>Vt e x
 | .build z parts=>Vu z parts
 | .pd z len parts e sz=>Vv z len parts e sz
 | .sT z len parts a3 sz=>Vw z len parts a3 sz
 | .load n a=>Vx n a
 | .store n a x=>Vy n a x
 | .uA x=>Vz x
 | .bin op x y=>VA op x y
 | .beq neg x y=>VB neg x y
 | .rN neg ks x y=>VC neg ks x y
 | .un op x=>VD op x
 | .conv k x=>VE k x
 | .uB off x=>VF off x
 | .field off n x=>VG off n x
 | .uC len sz x i=>VH len sz x i
 | .rO sz x i=>VI sz x i
 | .idx len sz n x i=>VJ len sz n x i
 | .wa x i=>VK x i
 | .pS z e sz bytes l c pu=>VL z e sz bytes l c pu
 | .slice sz x lo hi=>VM sz x lo hi
 | .slice3 sz x lo hi mx=>VN sz x lo hi mx
 | .uD x lo hi=>VO x lo hi
 | .append e sz bytes s x pu=>VP e sz bytes s x pu
 | .len k x=>VQ k x
 | .uE n=>VR n
 | .mm mx x y=>VS mx x y
 | .call f args own=>VT f args own
 | .jA f args own=>Mc f args own
 | .extract x i=>VU x i
 | .sU f first captured=>VX f first captured
 | .uF t x=>VY t x
 | .oh tab x args=>Me tab x args
 | .pT kt pu=>VZ kt pu
 | .lookup z agg ks ka x k ok=>V0 z agg ks ka x k ok
 | .qN ks ka x k v=>V1 ks ka x k v
def pX (call:cT) (op:cz) (ρ:Operand->AV) (o:Store) (bB:Nat):Option (AV×Store):=Fe op call ρ o bB
theorem yL (call:cT) (a:cz) (ρ:Operand->AV) (o:Store) (bB:Nat):pX call a ρ o bB=bJ call a ρ o bB:=by
 cases a<;>rfl
def mh (env:je) (g:Option (Option Nat×Bool)):Option Bool:=
 match g with
 |none=>some true
 |some (none,_)=>none
 |some (some s,b)=>match dF env s with
  | .sc (.bool c)=>some (c==b)
  | .bH []=>some false
  |_=>none
def gV (call:cT) (base:Nat) (i:dm) (st:St):Option St:=
 match mh st.env i.guard with
 |none=>none
 |some false=>some ⟨og st.env i.dst (.bH []),st.o⟩
 |some true=>match pX call i.op (eE st.env) st.o (base+i.bB) with
  |some (v,o')=>some ⟨og st.env i.dst v,o'⟩
  |none=>none
def fS (call:cT) (base:Nat):List dm->St->Option St
 |[],st=>some st
 |i::r,st=>match gV call base i st with
  |some st'=>fS call base r st'
  |none=>none
def fa:AV->List Nat
 | .ptr id _ _=>[id]
 | .os id _ _ _=>[id]
 | .mp id=>[id]
 |_=>[]
def dM (op:cz) (ρ:Operand->AV) (o:Store) (bB:Nat):List Nat:=
 match op with
 | .load _ a=>fa (ρ a)
 | .rO _ x _=>fa (ρ x)
 | .slice _ x _ _=>fa (ρ x)
 | .slice3 _ x _ _ _=>fa (ρ x)
 | .len _ x=>fa (ρ x)
 | .lookup _ _ _ _ x _ _=>fa (ρ x)
 | .call _ args false=>(args.map ρ).flatMap (eU o 6)
 | .jA f args false=>match ρ f with
  | .fn _ first captured=>(first++args.map ρ++captured).flatMap (eU o 6)
  |_=>[]
 | .call _ args true=>cG o fw (args.map ρ) []
 | .jA f args true=>match ρ f with
  | .fn _ first captured=>cG o fw (first++args.map ρ++captured) []
  |_=>[]
 | .oh _ x args=>match ρ x with
  | .iQ _ cs=>(.agg cs::args.map ρ).flatMap (eU o 6)
  |_=>[]
 | .alloc .. | .box .. | .pd .. | .pS .. | .pT .. =>[bB]
 | .store _ a _=>fa (ρ a)
 | .append _ _ _ s x _=>bB::(fa (ρ s)++fa (ρ x))
 | .qN _ _ x _ _=>fa (ρ x)
 |_=>[]
def wrt (op:cz) (ρ:Operand->AV) (o:Store) (bB:Nat):List Nat:=
 match op with
 | .alloc .. | .box .. | .pd .. | .pS .. | .pT .. =>[bB]
 | .store _ a _=>fa (ρ a)
 | .append _ _ _ s _ _=>bB::fa (ρ s)
 | .call _ args true=>cG o fw (args.map ρ) []
 | .jA f args true=>match ρ f with
  | .fn _ first captured=>cG o fw (first++args.map ρ++captured) []
  |_=>[]
 | .qN _ _ x _ _=>fa (ρ x)
 |_=>[]
open Classical in
noncomputable def ec (call:cT) (op:cz) (ρ:Operand->AV) (o:Store) (bB:Nat):List Nat:=
 match op with
 | .call f args true=>match iC call f (args.map ρ) o with
  |some (_,o')=>(cG o fw (args.map ρ) []).filter λj=>decide (o'[j]?≠o[j]?)
  |none=>[]
 |op=>wrt op ρ o bB
abbrev Trace:=List (Nat×List Nat×List Nat)
noncomputable def mj (call:cT) (base:Nat):List dm->St->Trace
 |[],_=>[]
 |i::r,st=>(match mh st.env i.guard with
   |some true=>(i.idx,dM i.op (eE st.env) st.o (base+i.bB),ec call i.op (eE st.env) st.o (base+i.bB))
   |_=>(i.idx,[],[]))::match gV call base i st with
  |some st'=>mj call base r st'
  |none=>[]
def wh (a b:List Nat):Bool:=a.all λx=>!b.contains x
def pY (tr:Trace) (i:Nat):List Nat×List Nat:=
 match tr with
 |[]=>([],[])
 |(j,x)::r=>if j==i then x else pY r i
def sX (n:Nat) (tr:Trace) (kn:List (Nat×Nat)):Bool:=
 kn.all λp=>let a:=pY tr p.1;let b:=pY tr p.2;wh a.2 b.1&&wh b.2 a.1&&a.1.all (λi=>decide (i<n))&&b.1.all (λi=>decide (i<n))
def fU (k:Nat):Store:=ε k .dead
def qQ (base:Nat) (o:Store):Store:=if(o.drop base).all (·.mN) then o.take base else o
noncomputable def pg (call:cT) (k:Nat) (ops:List dm) (kn:List (Nat×Nat)) (st:St):Option St:=
 let st0:St:=⟨st.env,st.o++fU k⟩
 match fS call st.o.length ops st0 with
 |some st'=>if kn.isEmpty||sX st0.o.length (mj call st.o.length ops st0) kn then some ⟨st'.env,if k=0 then st'.o else qQ st.o.length st'.o⟩ else none
 |none=>none
mutual
def AV.bT (o:Store) (p:Nat->Bool):AV->Option AV
 | .os id off len tot=>if p id then match o[id]? with
   |some (.cells cs _ sz pu)=>if pu then(if cs.length=tot/\off+len*sz<=tot then some (.sl len ((cs.drop off).take (len*sz))) else none) else some (.os id off len tot)
   |_=>some (.os id off len tot)
  else some (.os id off len tot)
 | .ptr id off tot=>if p id then match o[id]? with
   |some (.cells _ _ _ pu)=>if pu then none else some (.ptr id off tot)
   |_=>some (.ptr id off tot)
  else some (.ptr id off tot)
 | .agg cs=>(gG o p cs).map .agg
 | .bH cs=>(gG o p cs).map .bH
 | .fn f a b=>match gG o p a,gG o p b with
  |some a',some b'=>some (.fn f a' b')
  |_,_=>none
 |v=>some v
def gG (o:Store) (p:Nat->Bool):List AV->Option (List AV)
 |[]=>some []
 |c::cs=>match c.bT o p,gG o p cs with
  |some c',some cs'=>some (c'::cs')
  |_,_=>none
end
def pZ (o:Store) (p:Nat->Bool):List (Value×AV)->Option (List (Value×AV))
 |[]=>some []
 |e::es=>match e.2.bT o p,pZ o p es with
  |some v,some es'=>some ((e.1,v)::es')
  |_,_=>none
def bP.bT (o:Store) (p:Nat->Bool):bP->Option bP
 | .dead=>some .dead
 | .cells cs e sz pu=>if pu then some (.cells cs e sz pu) else(gG o p cs).map λcs'=> .cells cs' e sz pu
 | .map es kt pu=>if pu then some (.map es kt pu) else(pZ o p es).map λes'=> .map es' kt pu
def jf (o:Store) (p:Nat->Bool):Store->Option Store
 |[]=>some []
 |x::r=>match x.bT o p,jf o p r with
  |some y,some l=>some (y::l)
  |_,_=>none
def fy (p:Nat->Bool):Nat->Store->Store
 |_,[]=>[]
 |i,x::r=>(match x with
  | .cells cs e sz true=>if p i then .dead else .cells cs e sz true
  |x=>x)::fy p (i+1) r
def uI (o:Store) (p:Nat->Bool):je->Option je
 |[]=>some []
 |(k,v)::r=>match v.bT o p,uI o p r with
  |some v',some r'=>some ((k,v')::r')
  |_,_=>none
def Bf (h:km) (st:St):Option AV:=
 match h.off with
 |none=>some (dF st.env h.slot)
 |some k=>match behind st.o (dF st.env h.slot) with
  |some (cs,off)=>cs[off+k]?
  |none=>none
def Bg (id:Nat) (st:St):St:=
 match st.o[id]? with
 |some (.cells cs e sz true)=>⟨st.env,st.o.set id (.cells cs e sz false)⟩
 |_=>st
def Bh (h:km) (st:St):St:=
 match h.off with
 |none=>match dF st.env h.slot with
  | .sc (.slice none 0 0)=>⟨(h.slot,.os st.o.length 0 0 0)::st.env,st.o++[.cells [] h.e h.sz h.pu]⟩
  | .os id _ _ _=>if h.sz=0 then Bg id st else st
  |_=>st
 |some k=>match dF st.env h.slot with
  | .ptr id off tot=>match st.o[id]? with
   |some (.cells cs e sz pu)=>match cs[off+k]? with
    |some (.sc (.slice none 0 0))=>
     if cs.length=tot/\pu=false then⟨st.env,(st.o.set id (.cells (cs.set (off+k) (.os st.o.length 0 0 0)) e sz pu))++[.cells [] h.e h.sz h.pu]⟩ else st
    |_=>st
   |_=>st
  |_=>st
def Bi (id:Nat) (st:St):St:=
 let p:Nat->Bool:=λi=>i==id
 match uI st.o p st.env,jf st.o p st.o with
 |some env,some o=>⟨env,fy p 0 o⟩
 |_,_=>st
def yM (id:Nat) (st:St):St:=
 match st.o[id]? with
 |some (.cells cs e sz false)=>if dp cs then⟨st.env,st.o.set id (.cells cs e sz true)⟩ else st
 |_=>st
def jR (lo:Nat) (h:km) (st:St):St:=
 if h.own then Bh h st
 else match Bf h st with
  |some (.os id _ _ _)=>if Nat.ble lo id then Bi id (yM id st) else st
  |_=>st
def prune (live:List Nat) (env:je):je:=live.map λs=>(s,dF env s)
inductive Out where
 |norm
 |exit (id:Nat)
 |ret
 |goto (l:Nat)
 deriving DecidableEq
def trim (k:Nat) (st:St):St:=
 if st.o.length<=k then st
 else if(st.env.all λp=>p.2.bY k)&&((st.o.take k).all λx=>x.bY k) then⟨st.env,st.o.take k⟩ else st
structure mQ where
 slot:Nat
 cell:Option (Option Nat)
structure fb where
 params:Nat
 ntmps:Nat
 body:IR
 res:List mQ
def qR (st:St) (r:mQ):Option AV:=
 match r.cell with
 |none=>some (dF st.env r.slot)
 |some n=>match behind st.o (dF st.env r.slot) with
  |some (cs,off)=>gi cs off n
  |none=>none
def nG (st:St) (rs:List mQ):Option AV:=
 match rs.mapM (qR st) with
 |some [v]=>some v
 |some vs=>some (.bH vs)
 |none=>none
def lA (k:Nat) (r:AV) (o:Store):Option (AV×Store):=
 match r.bT o (λi=>decide (k<=i)),jf o (λi=>decide (k<=i)) o with
 |some r1,some o1=>
  let o2:=fy (λi=>decide (k<=i)) 0 o1
  let ids:=cG o2 fw (r1::(o2.take k).flatMap bP.yN) (τ k)
  if iC.pe ids then
   match r1.ren (λj=>idxOf ids j),kO o2 ids ids with
   |some r2,some s2=>some (r2,s2)
   |_,_=>none
  else none
 |_,_=>none
where bP.yN:bP->List AV
 | .cells cs _ _ pu=>if pu then[] else cs
 | .map es _ pu=>if pu then[] else es.map (·.2)
 | .dead=>[]
def finish (own:Bool) (k:Nat) (r:AV) (o:Store):Option (AV×Store):=
 if own then lA k r o
 else match k with
  |0=>match freeze o 6 r with
   |some r'=>some (r',[])
   |none=>none
  |_+1=>none
def gW:Nat->List AV->je
 |_,[]=>[]
 |i,v::vs=>(i,v)::gW (i+1) vs
structure Tab where
 fn:FuncId->Option fb
 K:cT
def qS (ex:IR->St->Option (Out×St)):IR->St->Option St
 | .skip,st=>some st
 | .seq x y,st=>match ex x st with
  |some (.norm,st')=>qS ex y st'
  |_=>none
 |_,_=>none
def qT:Out->Bool
 | .norm| .ret=>true
 |_=>false
def Ff (ex:Nat->IR->St->Option (Out×St)) (F:Option fb) (cs:List AV) (s:St):Option (Out×St):=match F with
 |some F=>if cs.length=F.params/\F.res.isEmpty=true then match ex s.o.length F.body ⟨gW 0 cs,s.o⟩ with
  |some (out,s3)=>if qT out=true then some (.ret,⟨s.env,s3.o⟩) else none
  |none=>none else none
 |none=>none
def sY (T:Tab) (ex:Nat->IR->St->Option (Out×St)) (lo:Nat) (c:IR) (st:St):Option (Out×St):=match c with
 | .sV g caps d a b=>match qS (ex lo) a st with
  |some s0=>match ex s0.o.length b ⟨(d,.ud)::s0.env,s0.o⟩ with
   |some (out,s2)=>if qT out=true then Ff ex (T.fn g) (caps.map (eE s0.env)) s2 else none
   |none=>none
  |none=>none
 |c=>ex lo c st
def qa (T:Tab) (ex:Nat->IR->St->Option (Out×St)):cT:=λf args o own=>
 match T.K f args o own with
 |some r=>some r
 |none=>match T.fn f with
  |none=>none
  |some F=>if args.length=F.params then
    match sY T ex o.length F.body ⟨gW 0 args,o⟩ with
    |some (.norm,st)|some (.ret,st)=>match nG st F.res with
     |some r=>finish own o.length r st.o
     |none=>none
    |_=>none
   else none
def qU (t:Nat):je->je
 |[]=>[]
 |p::r=>bif δz p.1 t then qU t r else p::qU t r
def po (x:Operand) (env:je):je:=
 match x with
 | .tmp t=>qU t env
 |_=>env
inductive Md where
 |plain
noncomputable def Fg (_:Md) (_:Bool) (call:cT) (k:Nat) (ops:List dm) (kn:List (Nat×Nat)) (st:St):Option St:=pg call k ops kn st
noncomputable def exec (T:Tab):Md->Nat->Nat->IR->St->Option (Out×St)
 |_,0,_,_,_=>none
 |md,n+1,lo,c,st=>
  match c with
  | .skip=>some (.norm,st)
  | .region _ draw k ops kn live pre post=>match Fg md draw (qa T (exec T .plain n)) k ops kn (pre.foldl (λs h=>jR lo h s) st) with
   |some st'=>some (.norm,post.foldl (λs h=>jR lo h s) ⟨prune live st'.env,st'.o⟩)
   |none=>none
  | .seq a b=>match exec T md n lo a st with
   |some (.norm,st')=>exec T md n lo b st'
   |r=>r
  | .cond x a b=>match eE st.env x with
   | .sc (.bool true)=>exec T md n lo a ⟨po x st.env,st.o⟩
   | .sc (.bool false)=>exec T md n lo b ⟨po x st.env,st.o⟩
   |_=>none
  | .block id b=>match exec T md n lo b st with
   |some (.exit id',st')=>if id'=id then some (.norm,st') else some (.exit id',st')
   |r=>r
  | .loop b=>match exec T md n lo b st with
   |some (.norm,st')=>exec T md n lo (.loop b) (trim st.o.length st')
   |r=>r
  | .exit id=>some (.exit id,st)
  | .ret=>some (.ret,st)
  | .goto l=>some (.goto l,st)
  | .om x a b=>match eE st.env x with
   | .sc (.bool true)=>exec T md n lo a st
   | .sc (.bool false)=>exec T md n lo b st
   |_=>none
  | .turns l b=>match exec T md n lo b st with
   |some (.goto l',st')=>if l=some l' then exec T md n lo (.turns l b) (trim st.o.length st') else none
   |r=>r
  | .sV .. =>none
def cz.iR:cz->List Operand
 | .uz x| .box _ x| .load _ x| .uA x| .un _ x| .conv _ x| .uB _ x| .field _ _ x| .len _ x| .extract x _=>[x]
 | .pick c a b=>[c,a,b]
 | .alloc .. | .uE _| .pT .. =>[]
 | .build _ ps=>ps.map (·.2.2)
 | .pd _ _ ps _ _| .sT _ _ ps _ _=>ps.map (·.2)
 | .store _ a x=>[a,x]
 | .bin _ x y| .beq _ x y| .rN _ _ x y| .mm _ x y=>[x,y]
 | .uC _ _ x i| .rO _ x i| .idx _ _ _ x i| .wa x i=>[x,i]
 | .pS _ _ _ _ l c _=>[l,c]
 | .slice _ x lo hi| .uD x lo hi=>x::(lo.toList++hi.toList)
 | .slice3 _ x lo hi mx=>x::hi::mx::lo.toList
 | .append _ _ _ s x _=>[s,x]
 | .call _ args _=>args
 | .jA f args _=>f::args
 | .sU _ a b=>a++b
 | .uF _ x=>[x]
 | .oh _ x args=>x::args
 | .lookup _ _ _ _ x k _=>[x,k]
 | .qN _ _ x k v=>[x,k,v]
def cz.cls:cz->Nat
 | .uz _| .pick .. | .build .. | .sT .. | .uA _| .bin .. | .beq .. | .rN .. | .un .. | .conv .. | .uB .. | .field .. | .uC .. | .idx .. | .wa .. | .uD .. | .uE _
 | .mm .. | .extract .. | .sU .. | .uF .. =>0
 | .load .. | .rO .. | .slice .. | .slice3 .. | .len .. | .lookup .. | .oh .. | .call _ _ false| .jA _ _ false=>1
 | .alloc .. | .box .. | .pd .. | .pS .. | .pT .. | .store .. | .append .. | .qN .. =>2
 | .call _ _ true| .jA _ _ true=>3
def cz.makes:cz->Bool
 | .alloc .. | .box .. | .pd .. | .pS .. | .pT .. | .append .. =>true
 |_=>false
def tmpsOf (l:List Operand):List Nat:=l.filterMap λ| .tmp t=>some t|_=>none
def dm.reads (i:dm):List Nat:=
 tmpsOf i.op.iR++(match i.guard with|some (some s,_)=>[s]|_=>[])
def Fh (d:Option Nat) (l:List Nat):Bool:=match d with|none=>true|some d=>!l.contains d
def yO (a b:dm):Bool:=
 Fh a.dst b.reads&&Fh b.dst a.reads&&(match a.dst,b.dst with|some x,some y=>x !=y|_,_=>true)
def wi (a b:dm):Bool:=a.op.cls==0||b.op.cls==0||(a.op.cls==1&&b.op.cls==1)
def Bj (a b:dm):Bool:=a.op.cls !=3||b.op.cls !=3
def wj:Nat->List Oper->Bool
 |_,[]=>true
 |i,o::r=>o.after.toList.all (λe=>!Region.binds .any e||decide (e.on<i))&&wj (i+1) r
structure RH where
 id:Nat
 live:List Nat
 perm:List Nat:=[]
 flags:List Nat:=[]
 pre:List km:=[]
 post:List km:=[]
def qV (c:TypeId->Option (List Nat)):Nat->List Field->Option (List Nat)
 |_,[]=>some []
 |b,f::d=>if f.name= "_" ∨f.offset≠b then none else match c f.type with
  |some a=>match qV c (b+a.length) d with
   |some r=>some (a++r)
   |none=>none
  |none=>none
def gk (P:Program):Nat->TypeId->Option (List Nat)
 |0,_=>none
 |d+1,t=>match P.underlying t,(P.info? t).map (·.size) with
  |some (.int _),some 1=>some [0]
  |some .bool,some 1=>some [1]
  |some .string,some 1=>some [2]
  |some (.struct b),some n=>if P.stoodInHeld t then none else match qV (gk P d) 0 b.toList with
   |some a=>if a.length=n then some a else none
   |none=>none
  |some (.array k e),some n=>match gk P d e with
   |some a=>if n=k*a.length then some ((ε k a).flatten) else none
   |none=>none
  |_,_=>none
def ft (P:Program) (t:TypeId):Option Bool:=
 match P.underlying t with
 |some (.struct _)|some (.array _ _)=>some true
 |some _=>some false
 |none=>none
def sizeT (P:Program) (t:TypeId):Option Nat:=(P.info? t).map (·.size)
def wm (P:Program) (t:TypeId):Option Nat:=(P.info? t).map (·.bytes)
def ot (P:Program) (t:TypeId):Option (Option Nat):=
 match ft P t,sizeT P t with
 |some true,some n=>some (some n)
 |some false,some _=>some none
 |_,_=>none
def lB (P:Program) (t:TypeId):Option (List Value):=
 match(P.info? t).bind (·.zero),sizeT P t with
 |some z,some n=>if z.cells.toList.all (·.oneCell')&&z.cells.size==n then some z.cells.toList else none
 |_,_=>none
def yP (P:Program) (t:TypeId) (g:Bool):Bool:=
 match(P.info? t).bind (·.zero) with
 |some (.agg _)=>g
 |some _=>!g
 |none=>false
def Bl (P:Program) (name:String) (t:TypeId):Option FuncId:=
 match P.underlying t,P.info? t with
 |some (.struct _),some i=>match i.methods.find? (·.name==name) with
  |some m=>match m.path.toList,m.func with
   |[],some (f,false)=>some f
   |_,_=>none
  |none=>none
 |_,_=>none
def wo (P:Program) (name:String):Nat->List (TypeId×FuncId)
 |0=>[]
 |t+1=>match Bl P name t with
  |some f=>(t,f)::wo P name t
  |none=>wo P name t
def MA (P:Program) (name:String):List (TypeId×FuncId):=wo P name P.types.size
def qW {d c:Type} (f:d->Option c):List d->Option (List c)
 |[]=>some []
 |a::l=>match f a,qW f l with
  |some b,some r=>some (b::r)
  |_,_=>none
def gI (P:Program) (f:FuncId):Bool:=(P.funcs[f]?).any fun a=>a.body.isSome&&!(a.name== "runtime.NumGoroutine")
def MB (P:Program) (a:Array Field):Option (List (Nat×Nat)):=a.toList.mapM λf=>(P.info? f.type).map λi=>(f.offset,i.size)
def MC (a:List (Nat×Nat)) (p:Nat×Operand):Option (Nat×Nat×Operand):=(a[p.1]?).map λq=>(q.1,q.2,p.2)
def pq (P:Program) (fl:Bool) (o:Oper):Option cz:=
 match o.op with
 | .move x| .assign x=>some (.uz x)
 | .pick c a b=>some (.pick c a b)
 | .alloc e=>(lB P e).map λz=> .alloc z e fl
 | .box e x=>some (.box e x)
 | .build t parts=>match lB P t,P.underlying t with
  |some z,some (.struct fields)=>match MB P fields with
   |some places=>(qW (MC places) parts.toList).map λps=> .build z ps
   |none=>none
  |some z,some (.array _ e)=>(sizeT P e).map λn=> .build z (parts.toList.map λp=>(p.1*n,n,p.2))
  |_,_=>none
 | .buildSlice t len parts=>match P.underlying t with
  |some (.slice e)=>match lB P e with
   |some z=>if len*z.length<=16777216/\0<z.length then some (if fl then .sT z len (parts.toList.map λp=>(p.1*z.length,p.2)) e z.length else .pd z len (parts.toList.map λp=>(p.1*z.length,p.2)) e z.length) else none
   |none=>none
  |_=>none
 | .load t a=>(ot P t).map λn=> .load n a
 | .store t a x=>(sizeT P t).map λn=> .store n a x
 | .nilCheck x=>some (.uA x)
 | .binOp op t x y _=>match op with
  | .eql| .neq=>match P.underlying t with
   |some (.struct _)|some (.array _ _)=>if 20<=P.depth then(gk P 20 t).map λks=> .rN (op matches .neq) ks x y else none
   |some .bool=>some (.beq (op matches .neq) x y)
   |some (.int _)|some .string=>some (.bin op x y)
   |_=>none
  |_=>some (.bin op x y)
 | .unOp op _ x=>some (.un op x)
 | .convert s d x=>match P.underlying s,P.underlying d with
  |some _,some (.int k)=>some (.conv k x)
  |_,_=>none
 | .fieldAddr s x f=>match P.underlying s with
  |some (.struct fs)=>match fs[f]? with
   |some g=>match sizeT P g.type with
    |some n=>if n=0 then none else some (.uB g.offset x)
    |none=>none
   |none=>none
  |_=>none
 | .field t x f=>match P.underlying t with
  |some (.struct fs)=>match fs[f]? with
   |some g=>(ot P g.type).map λn=> .field g.offset n x
   |none=>none
  |_=>none
 | .indexAddr t x i=>match P.underlying t with
  |some (.array len e)=>(sizeT P e).map λn=> .uC len n x i
  |some (.slice e)=>match sizeT P e with
   |some n=>if n=0 then none else some (.rO n x i)
   |none=>none
  |_=>none
 | .index t x i=>match P.underlying t with
  |some (.array len e)=>match sizeT P e,ot P e with
   |some s,some n=>some (.idx len s n x i)
   |_,_=>none
  |some .string=>some (.wa x i)
  |_=>none
 | .makeSlice t l c=>match P.underlying t with
  |some (.slice e)=>match lB P e,wm P e with
   |some z,some b=>if 0<z.length then some (.pS z e z.length b l c fl) else none
   |_,_=>none
  |_=>none
 | .slice t x lo hi none=>match P.underlying t with
  |some (.slice e)=>match sizeT P e with
   |some n=>if n=0 then none else some (.slice n x lo hi)
   |none=>none
  |some .string=>some (.uD x lo hi)
  |_=>none
 | .slice t x lo (some hi) (some mx)=>match P.underlying t with
  |some (.slice e)=>match sizeT P e with
   |some n=>if n=0 then none else some (.slice3 n x lo hi mx)
   |none=>none
  |_=>none
 | .call c=>match c.callee with
  | .value (.func f)=>if gI P f then some (.call f c.args.toList fl) else none
  | .value v=>some (.jA v c.args.toList fl)
  | .invoke x name=>if fl then none else some (.oh (MA P name) x c.args.toList)
  | .builtin .append=>match c.args.toList,c.argTypes.toList with
   |[s,x],[t,t']=>if t=t' then match P.underlying t with
     |some (.slice e)=>match lB P e,wm P e with
      |some z,some b=>if 0<z.length then some (.append e z.length b s x fl) else none
      |_,_=>none
     |_=>none
    else none
   |_,_=>none
  | .builtin .len=>match c.args.toList,c.argTypes.toList with
   |[x],[t]=>match P.underlying t with
    |some (.slice _)=>some (.len 0 x)
    |some .string=>some (.len 1 x)
    |some (.map _ _)=>some (.len 2 x)
    |some (.array n _)=>some (.uE n)
    |_=>none
   |_,_=>none
  | .builtin .min=>match c.args.toList with
   |[x,y]=>some (.mm false x y)
   |_=>none
  | .builtin .max=>match c.args.toList with
   |[x,y]=>some (.mm true x y)
   |_=>none
  |_=>none
 | .extract x i=>some (.extract x i)
 | .makeFunc f a b=>match f with
  | .func g=>some (.sU (.func g) a.toList b.toList)
  |_=>none
 | .makeInterface t x=>match P.underlying t with
  |some (.struct _)=>some (.uF t x)
  |_=>none
 | .makeMap t none=>match P.underlying t with
  |some (.map kt _)=>match gk P 20 kt,ft P kt with
    |some ks,some ka=>some (.pT (ks,ka) fl)
    |_,_=>none
  |_=>none
 | .lookup t x k ok=>match P.underlying t with
  |some (.map kt et)=>match gk P 20 kt,ft P kt,lB P et,ft P et with
    |some ks,some ka,some z,some g=>if yP P et g then some (.lookup z g ks ka x k ok) else none
    |_,_,_,_=>none
  |_=>none
 | .mapUpdate t m k v| .insert t m k v=>match P.underlying t with
  |some (.map kt _)=>match gk P 20 kt,ft P kt with
    |some ks,some ka=>some (.qN ks ka m k v)
    |_,_=>none
  |_=>none
 |_=>none
def Bm (a:Nat):Option Nat->Bool
 |none=>true
 |some d=>decide (d<a)
def qX (P:Program) (c:Nat) (fl:List Nat) (a:Array Oper) (bB i:Nat):Option dm:=
 match a[i]? with
 |none=>none
 |some o=>if Bm c o.dst then(pq P (fl.contains i) o).map λb=>⟨i,bB,o.dst,b,o.guard.map λg=>(((a[g.1]?).bind (·.dst)),g.2)⟩ else none
def uJ (P:Program) (b:Nat) (fl:List Nat) (a:Array Oper):Nat->List Nat->Option (List dm×Nat)
 |k,[]=>some ([],k)
 |k,i::r=>match qX P b fl a k i with
  |none=>none
  |some x=>match uJ P b fl a (if x.op.makes then k+1 else k) r with
   |none=>none
   |some (l,n)=>some (x::l,n)
def Bn (acc:List Nat) (s:Nat) (e:Edge):Nat:=if Region.binds .any e then s |||(2^e.on |||acc.getD e.on 0) else s
def ou (b:Array Oper):List Nat:=
 b.toList.foldl (λa o=>a++[o.after.toList.foldl (Bn a) 0]) []
def qY (c:List Nat):List dm->List (Nat×Nat)
 |[]=>[]
 |a::r=>(r.filterMap λb=>if(c.getD b.idx 0).testBit a.idx||wi a b then none else some (a.idx,b.idx))++qY c r
def wq (c:List Nat):List dm->Bool
 |[]=>true
 |a::r=>r.all (λb=>(c.getD b.idx 0).testBit a.idx||(yO a b&&(wi a b||Bj a b)))&&wq c r
def nodupB:List Nat->Bool
 |[]=>true
 |a::r=>!r.contains a&&nodupB r
def wt (P:Program) (d:Nat) (H:List RH) (id:Nat) (a:Array Oper) (c:Bool):Option IR:=
 match H.find? (·.id==id) with
 |none=>none
 |some h=>
  if c then
   let b:=if h.perm.isEmpty then τ a.size else h.perm
   match uJ P d h.flags a 0 b with
   |some (l,k)=>if P.follows .mixedOrders&&b.length==a.size&&nodupB b&&wq (ou a) l&&wj 0 a.toList&&(τ a.size).all b.contains then some (.region id true k l (qY (ou a) l) h.live h.pre h.post) else none
   |none=>none
  else(uJ P d h.flags a 0 (τ a.size)).map λ(l,k)=> .region id false k l [] h.live h.pre h.post
def Bo:Code->Bool
 | .seq a b| .cond _ a b=>Bo a||Bo b
 | .block _ b| .loop b| .scope b=>Bo b
 | .goto _=>true
 |_=>false
def Bq:Code->Option Nat
 | .seq (.label l) c=>if Bo c then some l else none
 |_=>none
def MD (H:List RH):Operand->Bool
 | .tmp t=>match H.find? (·.id==999999) with
  |some h=>h.live.contains t
  |none=>false
 |_=>false
def comp (P:Program) (nt:Nat) (H:List RH):Code->Option IR
 | .skip=>some .skip
 | .region id ops draw=>wt P nt H id ops draw
 | .seq a b=>match comp P nt H a,comp P nt H b with
  |some x,some y=>some (.seq x y)
  |_,_=>none
 | .cond c a b=>match comp P nt H a,comp P nt H b with
  |some x,some y=>some (if MD H c then .om c x y else .cond c x y)
  |_,_=>none
 | .block id b=>(comp P nt H b).map (.block id)
 | .loop b=>(comp P nt H b).map .loop
 | .exit id=>some (.exit id)
 | .ret=>some .ret
 | .label _=>some .skip
 | .goto l=>some (.goto l)
 | .scope b=>(comp P nt H b).map λx=> .turns (Bq b) x
 |_=>none
def Br (h:Array Oper):Option (FuncId×List Operand×Nat):=match h.toList with
 |[f,e]=>match f.dst,f.op,f.guard,e.op,e.dst,e.guard with
  |some d,.makeFunc (.func g) a b,none,.defer c,none,none=>match c.callee with
   | .value (.tmp i)=>if i=d/\a.toList=[]/\c.args.toList=[] then some (g,b.toList,d) else none
   |_=>none
  |_,_,_,_,_,_=>none
 |_=>none
def uK (P:Program) (f:Nat) (H:List RH):Code->Option (IR×(FuncId×List Operand×Nat)×IR)
 | .seq (.region g e d) c=>match Br e,d with
  |some x,false=>if x.2.2<f/\gI P x.1=true then(comp P f H c).map λb=>(.skip,x,b) else none
  |_,_=>match wt P f H g e d,uK P f H c with
   |some r,some (a,x,b)=>some (.seq r a,x,b)
   |_,_=>none
 |_=>none
def Fj (P:Program) (a:Nat) (H:List RH) (c:Code):Option IR:=match comp P a H c with
 |some b=>some b
 |none=>(uK P a H c).map λx=> .sV x.2.1.1 x.2.1.2.1 x.2.1.2.2 x.1 x.2.2
def rU (P:Program):ResultVar->Option mQ
 | .tmp t=>some ⟨t,none⟩
 | .cell a t=>(ot P t).map λn=>⟨a,some n⟩
def Bt (P:Program) (H:List RH) (a:Func):Option fb:=
 match a.body with
 |none=>none
 |some c=>match Fj P a.ntmps H c,qW (rU P) a.results.toList with
  |some b,some d=>if a.ntmps<a.params.size+a.nfree then none else some ⟨a.params.size+a.nfree,a.ntmps,b,d⟩
  |_,_=>none
end Go.Vi
