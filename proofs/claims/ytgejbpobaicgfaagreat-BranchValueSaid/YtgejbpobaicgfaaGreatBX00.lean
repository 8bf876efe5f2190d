/-
  The abstract interpreter: its values, its small code, and its run. Plain definitions: no proof stands here.
  Conditions: none.
-/
import Derived.Orders
import Derived.RowKit3
set_option maxRecDepth 100000
set_option maxHeartbeats 4000000
set_option linter.unusedSimpArgs false
set_option linter.unusedVariables false
open BitVec renaming ofInt->γq
open List renaming replicate->δ,range->Φ
noncomputable section
namespace Go.Vi
inductive AV where
 |ud
 |sc (v:Value)
 |agg (cs:List AV)
 |eW (cs:List AV)
 |sl (n:Nat) (cs:List AV)
 |ep (cs:List AV) (off:Nat)
 |ptr (id off tot:Nat)
 |os (id off len tot:Nat)
 |mp (id:Nat)
 |fn (f:Fn) (first captured:List AV)
 deriving Inhabited
inductive ig where
 |dead
 |cells (cs:List AV) (e:TypeId) (sz:Nat) (pu:Bool)
 |map (es:List (Value×AV)) (kt:List Nat×Bool) (pu:Bool)
 deriving Inhabited
def aiC:Value:=.slice none 0 0
def AV.qn:AV->AV
 | .sc (.slice none 0 0)=> .sl 0 []
 |v=>v
def uo (pu:Bool) (cs:List AV):List AV:=if pu then cs.map .qn else cs
def AV.cellsOf:AV->List AV
 | .agg cs=>cs
 |v=>[v]
def AV.one:AV->Bool
 | .agg _| .eW _| .ud=>false
 | .sc v=>v.oneCell'
 |_=>true
mutual
def AV.pure:AV->Bool
 | .sc _=>true
 | .sl _ cs=>ql cs
 |_=>false
def ql:List AV->Bool
 |[]=>true
 |c::cs=>c.pure&&ql cs
end
mutual
def AV.ju (k:Nat):AV->Bool
 | .ud=>true
 | .sc _=>true
 | .agg cs=>tf k cs
 | .eW cs=>tf k cs
 | .sl _ _=>true
 | .ep _ _=>true
 | .ptr id _ _=>decide (id<k)
 | .os id _ _ _=>decide (id<k)
 | .mp id=>decide (id<k)
 | .fn _ a b=>tf k a&&tf k b
def tf (k:Nat):List AV->Bool
 |[]=>true
 |c::cs=>c.ju k&&tf k cs
end
def ig.ju (k:Nat):ig->Bool
 | .dead=>true
 | .cells cs _ _ pu=>pu||tf k cs
 | .map es _ pu=>pu||tf k (es.map (·.2))
abbrev Store:=List ig
def ig.aaL:ig->Bool
 | .dead=>true
 |_=>false
def Uk (dp:Nat) (x:ig) (o:Store):Option Store:=
 match o[dp]? with
 |some .dead=>some (o.set dp x)
 |_=>none
abbrev MD:=List (Nat×AV)
def qd:MD->Nat->AV
 |[],_=> .ud
 |p::r,s=>bif Nat.beq p.1 s then p.2 else qd r s
def abM (env:MD) (dst:Option Nat) (v:AV):MD:=
 match dst with
 |none=>env
 |some d=>(d,v)::env
def AV.afA:Value->AV
 | .agg cs=>if cs.toList.all (·.oneCell') then .agg (cs.toList.map .sc) else .ud
 | .tuple _=> .ud
 |v=> .sc v
def uB (env:MD):Operand->AV
 | .tmp t=>qd env t
 | .const v=> .afA v
 | .global _=> .ud
 | .func f=> .fn (.func f) [] []
inductive lh where
 |mov (x:Operand)
 |pick (c a b:Operand)
 |alloc (z:List Value) (e:TypeId) (pu:Bool)
 |box (e:TypeId) (x:Operand)
 |build (z:List Value) (parts:List (Nat×Nat×Operand))
 |ace (z:List Value) (len:Nat) (parts:List (Nat×Operand)) (e:TypeId) (sz:Nat)
 |aeF (z:List Value) (len:Nat) (parts:List (Nat×Operand)) (e:TypeId) (sz:Nat)
 |load (n:Option Nat) (a:Operand)
 |store (n:Nat) (a x:Operand)
 |afC (x:Operand)
 |bin (op:BinOp) (x y:Operand)
 |beq (neg:Bool) (x y:Operand)
 |eqf (neg:Bool) (ks:List Nat) (x y:Operand)
 |un (op:UnOp) (x:Operand)
 |conv (k:IntKind) (x:Operand)
 |afD (off:Nat) (x:Operand)
 |field (off:Nat) (n:Option Nat) (x:Operand)
 |afE (len sz:Nat) (x i:Operand)
 |adY (sz:Nat) (x i:Operand)
 |idx (len sz:Nat) (n:Option Nat) (x i:Operand)
 |agS (x i:Operand)
 |acJ (z:List Value) (e:TypeId) (sz bytes:Nat) (l c:Operand) (pu:Bool)
 |slice (sz:Nat) (x:Operand) (lo hi:Option Operand)
 |slice3 (sz:Nat) (x:Operand) (lo:Option Operand) (hi mx:Operand)
 |afF (x:Operand) (lo hi:Option Operand)
 |append (e:TypeId) (sz bytes:Nat) (s x:Operand) (pu:Bool)
 |len (k:Nat) (x:Operand)
 |afG (n:Nat)
 |mm (mx:Bool) (x y:Operand)
 |call (f:FuncId) (args:List Operand) (own:Bool)
 |QU (f:Operand) (args:List Operand) (own:Bool)
 |extract (x:Operand) (i:Nat)
 |aeG (f:Fn) (first captured:List Operand)
 |acK (kt:List Nat×Bool) (pu:Bool)
 |lookup (z:List Value) (agg:Bool) (ks:List Nat) (ka:Bool) (x k:Operand) (ok:Bool)
 |adi (ks:List Nat) (ka:Bool) (x k v:Operand)
structure oQ where
 idx:Nat
 dp:Nat
 dst:Option Nat
 op:lh
 guard:Option (Option Nat×Bool)
structure SJ where
 own:Bool
 slot:Nat
 off:Option Nat
 e:TypeId
 sz:Nat
 pu:Bool
inductive IR where
 |skip
 |region (id:Nat) (draw:Bool) (k:Nat) (ops:List oQ) (SK:List (Nat×Nat)) (live:List Nat) (pre post:List SJ)
 |seq (a b:IR)
 |cond (c:Operand) (a b:IR)
 |block (id:Nat) (c:IR)
 |loop (c:IR)
 |exit (id:Nat)
 |ret
 |goto (l:Nat)
 |turns (l:Option Nat) (b:IR)
 |abN (c:Operand) (a b:IR)
 |dfr (g:FuncId) (caps:List Operand) (d:Nat) (a b:IR)
structure St where
 env:MD
 o:Store
def behind (o:Store):AV->Option (List AV×Nat)
 | .ptr id off tot=>match o[id]? with
  |some (.cells cs _ _ _)=>if cs.length=tot then some (cs,off) else none
  |_=>none
 | .ep cs off=>some (cs,off)
 |_=>none
def EE (cs:List AV) (off:Nat):Option Nat->Option AV
 |none=>cs[off]?
 |some n=>if off+n<=cs.length then some (.agg ((cs.drop off).take n)) else none
def BE (cs:List AV) (off:Nat):List AV->List AV
 |[]=>cs
 |v::vs=>BE (cs.set off v) (off+1) vs
def uC (l:List AV):Bool:=l.all (·.one)
def x5 (k:IntKind) (n:Int):Int:=
 match k with
 | .i64=>if decide (-9223372036854775808<=n)&&decide (n<=9223372036854775807) then n else IntKind.wrap .i64 n
 | .u32=>if decide (0<=n)&&decide (n<=4294967295) then n else IntKind.wrap .u32 n
 | .u64=>if decide (0<=n)&&decide (n<=18446744073709551615) then n else IntKind.wrap .u64 n
 |k=>k.wrap n
def aky (n:Nat):Int:=Int.ofNat (Nat.pow 2 n)
def XL (op:BinOp) (k:IntKind) (a b:Int):Option Value:=
 match op with
 | .add=>some (.int k (x5 k (a+b)))
 | .sub=>some (.int k (x5 k (a - b)))
 | .mul=>some (.int k (x5 k (a*b)))
 | .quo=>if b=0 then none else some (.int k (x5 k (a.tdiv b)))
 | .rem=>if b=0 then none else some (.int k (a.tmod b))
 | .and=>some (.int k (x5 k (γq k.bits a &&&γq k.bits b).toNat))
 | .or=>some (.int k (x5 k (γq k.bits a |||γq k.bits b).toNat))
 | .xor=>some (.int k (x5 k (γq k.bits a ^^^γq k.bits b).toNat))
 | .andNot=>some (.int k (x5 k (γq k.bits a &&&~~~(γq k.bits b)).toNat))
 | .eql=>some (.bool (a==b))
 | .neq=>some (.bool (a !=b))
 | .lss=>some (.bool (decide (a<b)))
 | .leq=>some (.bool (decide (a<=b)))
 | .gtr=>some (.bool (decide (b<a)))
 | .geq=>some (.bool (decide (b<=a)))
 |_=>none
def GG (op:BinOp):Value->Value->Option Value
 | .int k a,.int k' b=>
  match op with
  | .shl=>if b<0 then none else some (.int k (x5 k (a*aky (min b.toNat k.bits))))
  | .shr=>if b<0 then none else some (.int k (a.fdiv (aky (min b.toNat k.bits))))
  |_=>if k=k' then XL op k a b else none
 | .string a,.string b=>match op with
  | .eql=>some (.bool (a.toList==b.toList))
  | .neq=>some (.bool (!(a.toList==b.toList)))
  | .add=>if a.size+b.size<=1000000000 then some (.string (a++b)) else none
  |_=>none
 |_,_=>none
def seq1:Value->Value->Option Bool
 | .int k a,.int k' b=>if k=k' then some (a==b) else none
 | .bool a,.bool b=>some (a==b)
 | .string a,.string b=>some (a.toList==b.toList)
 |_,_=>none
def EF:List Value->List Value->Option Bool
 |[],[]=>some true
 |x::xs,y::ys=>match seq1 x y,EF xs ys with
  |some a,some b=>some (a&&b)
  |_,_=>none
 |_,_=>none
def uq:List Nat->List Value->Bool
 |[],[]=>true
 |0::ks,.int _ _::vs=>uq ks vs
 |1::ks,.bool _::vs=>uq ks vs
 |2::ks,.string _::vs=>uq ks vs
 |_,_=>false
def scs:List AV->Option (List Value)
 |[]=>some []
 | .sc v::r=>(scs r).map (v::·)
 |_=>none
def feq (ks:List Nat) (a b:List AV):Option Bool:=
 match scs a,scs b with
 |some x,some y=>if uq ks x&&uq ks y then EF x y else none
 |_,_=>none
def unA (op:UnOp):AV->Option AV
 | .sc (.bool b)=>match op with| .not=>some (.sc (.bool !b))|_=>none
 | .sc (.int k n)=>match op with| .neg=>some (.sc (.int k (x5 k (0 - n))))|_=>none
 |_=>none
def Hf:AV->Option Int
 | .sc (.int _ n)=>some n
 |_=>none
def abO (d:Nat):AV->Option AV
 | .ptr id off tot=>some (.ptr id (off+d) tot)
 | .ep cs off=>some (.ep cs (off+d))
 |_=>none
def aaM (o:Store) (sz:Nat):AV->Option (Nat×List AV)
 | .sl n cs=>if cs.length=n*sz then some (n,cs) else none
 | .os id off len tot=>match o[id]? with
  |some (.cells cs _ sz' _)=>if cs.length=tot/\sz'=sz/\off+len*sz<=tot then some (len,(cs.drop off).take (len*sz)) else none
  |_=>none
 | .sc (.slice none 0 0)=>some (0,[])
 |_=>none
def ad1 (off tot sz:Nat):Nat:=if Nat.ble off tot then off else off - tot - sz
def acL (o:Store) (sz:Nat) (x:AV) (i:Int):Option AV:=
 match x with
 | .sl n cs=>if 0<=i/\i<n/\cs.length=n*sz then some (.ep cs (i.toNat*sz)) else none
 | .os id off len tot=>match o[id]? with
  |some (.cells cs _ sz' _)=>if cs.length=tot/\sz'=sz/\0<=i/\i<len/\ad1 off tot sz+len*sz<=tot then some (.ptr id (ad1 off tot sz+i.toNat*sz) tot) else none
  |_=>none
 |_=>none
def XP (o:Store):Nat->AV->Option Nat
 |0,.sl n _=>some n
 |0,.os _ _ len _=>some len
 |0,.sc (.slice _ n _)=>some n
 |1,.sc (.string s)=>some s.size
 |2,.mp id=>match o[id]? with
  |some (.map es _ _)=>some es.length
  |_=>none
 |_,_=>none
def acM (e:TypeId) (sz a:Nat) (pu:Bool) (s x:AV) (o:Store) (dp:Nat):Option (AV×Store):=
 match aaM o sz x with
 |none=>none
 |some (m,b)=>
  if uC b=false then none else
  match s with
  | .sc (.slice none 0 0)=>
   if m=0 then some (.sc aiC,o)
   else if m*a<=140737488355328/\m<=1000000000000/\(pu=false\/ql b=true) then(Uk dp (.cells b e sz pu) o).map λk=>(.os dp 0 m (m*sz),k) else none
  | .os h 0 c d=>match o[h]? with
   |some (.cells g j i f)=>
    if g.length=d/\j=e/\i=sz/\c*sz=d/\(c+m)*a<=140737488355328/\c+m<=1000000000000/\(f=false\/ql b=true)
    then some (.os h 0 (c+m) (d+m*sz),o.set h (.cells (g++b) e sz f)) else none
   |_=>none
  | .sl n g=>if m=0 then some (.sl n g,o) else none
  |_=>none
def Hh (d:Nat):Option AV->Option Nat
 |none=>some d
 |some (.sc (.int _ n))=>if 0<=n then some n.toNat else none
 |_=>none
def acN (o:Store) (sz:Nat) (x:AV) (lo hi:Option AV):Option AV:=
 match x with
 | .sl n cs=>match Hh 0 lo,Hh n hi with
  |some l,some h=>if l<=h/\h<=n/\cs.length=n*sz then some (.sl (h - l) ((cs.drop (l*sz)).take ((h - l)*sz))) else none
  |_,_=>none
 | .os id off len tot=>match Hh 0 lo,Hh len hi with
  |some l,some h=>match o[id]? with
   |some (.cells cs _ sz' _)=>if l<=h/\h<=len/\cs.length=tot/\sz'=sz then some (.os id (off+l*sz) (h - l) tot) else none
   |_=>none
  |_,_=>none
 | .sc (.slice none 0 0)=>match Hh 0 lo,Hh 0 hi with
  |some 0,some 0=>some (.sc aiC)
  |_,_=>none
 |_=>none
def ad2 (o:Store) (sz:Nat) (x:AV) (lo:Option AV) (hi mx:AV):Option AV:=
 match x with
 | .sl n cs=>match Hh 0 lo,Hh n (some hi),Hh n (some mx) with
  |some l,some h,some m=>if l<=h/\h<=m/\m<=n/\cs.length=n*sz then some (.sl (h - l) ((cs.drop (l*sz)).take ((h - l)*sz))) else none
  |_,_,_=>none
 | .os id off len tot=>match Hh 0 lo,Hh len (some hi),Hh len (some mx) with
  |some l,some h,some m=>match o[id]? with
   |some (.cells cs _ sz' _)=>if l<=h/\h<=m/\m<=len/\cs.length=tot/\sz'=sz/\off+len*sz<=tot/\0<sz then some (.os id (off+l*sz+(tot+sz)) (h - l) tot) else none
   |_=>none
  |_,_,_=>none
 |_=>none
def XQ (ks:List Nat) (ka:Bool):AV->Option Value
 | .sc v=>if !ka&&uq ks [v] then some v else none
 | .agg cs=>match scs cs with
  |some vs=>if ka&&uq ks vs then some (.agg vs.toArray) else none
  |none=>none
 |_=>none
def keq:Value->Value->Option Bool
 | .agg a,.agg b=>EF a.toList b.toList
 | .agg _,_=>none
 |_,.agg _=>none
 |a,b=>seq1 a b
def abl (k:Value):List (Value×AV)->Nat->Option (Option (Nat×AV))
 |[],_=>some none
 |e::es,i=>match keq k e.1 with
  |some true=>some (some (i,e.2))
  |some false=>abl k es (i+1)
  |none=>none
def adj (z:List Value) (agg:Bool):Option AV:=
 if agg then some (.agg (z.map .sc)) else match z with
  |[v]=>some (.sc v)
  |_=>none
def freeze (o:Store):Nat->AV->Option AV
 |_,.ud=>some .ud
 |_,.sc v=>match v with
  | .slice none 0 0=>some (.sl 0 [])
  |v=>some (.sc v)
 |_,.sl n cs=>some (.sl n cs)
 |d+1,.agg cs=>(cs.mapM (freeze o d)).map .agg
 |d+1,.eW cs=>(cs.mapM (freeze o d)).map .eW
 |d+1,.fn f a b=>match a.mapM (freeze o d),b.mapM (freeze o d) with
  |some a',some b'=>some (.fn f a' b')
  |_,_=>none
 |d+1,.os id off len tot=>match o[id]? with
  |some (.cells cs _ sz pu)=>
   if cs.length=tot/\off+len*sz<=tot then
    if pu then some (.sl len ((cs.drop off).take (len*sz)))
    else match((cs.drop off).take (len*sz)).mapM (freeze o d) with
     |some cs'=>if ql cs' then some (.sl len cs') else none
     |none=>none
   else none
  |_=>none
 |_,_=>none
mutual
def AV.ren (m:Nat->Option Nat):AV->Option AV
 | .ud=>some .ud
 | .sc v=>some (.sc v)
 | .sl n cs=>some (.sl n cs)
 | .ep cs off=>some (.ep cs off)
 | .agg cs=>(Ky m cs).map .agg
 | .eW cs=>(Ky m cs).map .eW
 | .ptr id off tot=>(m id).map λi=> .ptr i off tot
 | .os id off len tot=>(m id).map λi=> .os i off len tot
 | .mp id=>(m id).map .mp
 | .fn f a b=>match Ky m a,Ky m b with
  |some a',some b'=>some (.fn f a' b')
  |_,_=>none
def Ky (m:Nat->Option Nat):List AV->Option (List AV)
 |[]=>some []
 |c::cs=>match c.ren m,Ky m cs with
  |some c',some cs'=>some (c'::cs')
  |_,_=>none
end
def abP (m:Nat->Option Nat):List (Value×AV)->Option (List (Value×AV))
 |[]=>some []
 |e::es=>match e.2.ren m,abP m es with
  |some v,some es'=>some ((e.1,v)::es')
  |_,_=>none
def ig.ren (m:Nat->Option Nat):ig->Option ig
 | .dead=>some .dead
 | .cells cs e sz pu=>if pu then some (.cells cs e sz pu) else(Ky m cs).map λcs'=> .cells cs' e sz pu
 | .map es kt pu=>if pu then some (.map es kt pu) else(abP m es).map λes'=> .map es' kt pu
def idxOf (ids:List Nat) (i:Nat) (k:Nat:=0):Option Nat:=
 match ids with
 |[]=>none
 |j::r=>if j==i then some k else idxOf r i (k+1)
def lH (o:Store):Nat->List AV->List Nat->List Nat
 |0,_,acc=>acc
 |_,[],acc=>acc
 |d+1,v::vs,acc=>
  let visit (id:Nat) (acc:List Nat):List Nat:=
   if acc.contains id then acc else
   match o[id]? with
   |some (.cells cs _ _ pu)=>if pu then acc++[id] else lH o d cs (acc++[id])
   |some (.map es _ pu)=>if pu then acc++[id] else lH o d (es.map (·.2)) (acc++[id])
   |_=>acc++[id]
  let acc':=match v with
   | .agg cs| .eW cs=>lH o d cs acc
   | .ptr id _ _| .os id _ _ _| .mp id=>visit id acc
   | .fn _ a b=>lH o d b (lH o d a acc)
   |_=>acc
  lH o d vs acc'
def A4:Nat:=400
def Wm (o:Store) (ids:List Nat):List Nat->Option Store
 |[]=>some []
 |i::r=>match o[i]?,Wm o ids r with
  |some x,some l=>(x.ren (λj=>idxOf ids j)).map (·::l)
  |_,_=>none
def abQ (ids:List Nat) (n i:Nat):Option Nat:=
 match ids[i]? with
 |some j=>some j
 |none=>some (n+(i - ids.length))
def ad3 (m:Nat->Option Nat):Store->Option Store
 |[]=>some []
 |x::r=>match x.ren m,ad3 m r with
  |some y,some l=>some (y::l)
  |_,_=>none
def YE (o:Store):List Nat->Store->Store
 |[],_=>o
 |_,[]=>o
 |i::r,x::l=>YE (o.set i x) r l
abbrev nD:=FuncId->List AV->Store->Bool->Option (AV×Store)
def J8 (call:nD) (f:FuncId) (args:List AV) (o:Store):Option (AV×Store):=
 let ids:=lH o A4 args []
 match Ky (λj=>idxOf ids j) args,Wm o ids ids with
 |some args',some small=>match call f args' small true with
  |some (r,asy)=>
   if asy.length<ids.length\/acf ids=false then none else
   match r.ren (abQ ids o.length),ad3 (abQ ids o.length) asy with
   |some r',some big=>some (r',YE o ids (big.take ids.length)++big.drop ids.length)
   |_,_=>none
  |none=>none
 |_,_=>none
where acf:List Nat->Bool
 |[]=>true
 |a::r=>!r.contains a&&acf r
mutual
def AV.WB:AV->Bool
 | .ud| .sc _=>true
 | .agg cs| .eW cs=>afH cs
 | .sl _ cs=>cs.isEmpty
 |_=>false
def afH:List AV->Bool
 |[]=>true
 |c::cs=>c.WB&&afH cs
end
def AO (o:Store):Nat->AV->List Nat
 |d+1,.agg cs=>cs.flatMap (AO o d)
 |d+1,.eW cs=>cs.flatMap (AO o d)
 |d+1,.fn _ a b=>a.flatMap (AO o d)++b.flatMap (AO o d)
 |d+1,.os id off len _=>id::(match o[id]? with
  |some (.cells cs _ sz pu)=>if pu then[] else((cs.drop off).take (len*sz)).flatMap (AO o d)
  |_=>[])
 |_,_=>[]
def HZ (call:nD) (f:FuncId) (args:List AV) (o:Store) (own:Bool):Option (AV×Store):=
 if own then J8 call f args o
 else match args.mapM (freeze o 6) with
  |none=>none
  |some args'=>match call f args' [] false with
   |some (r,[])=>if(args.flatMap (AO o 6)).isEmpty||r.WB then some (r,o) else none
   |_=>none
def XR (parts:List (Nat×Nat×AV)) (cs:List AV):Option (List AV):=
 match parts with
 |[]=>some cs
 |(off,n,v)::rest=>
  if v.cellsOf.length=n/\uC v.cellsOf=true/\off+n<=cs.length then XR rest (BE cs off v.cellsOf) else none
def gw (call:nD) (P:lh) (ρ:Operand->AV) (o:Store) (dp:Nat):Option (AV×Store):=
 match P with
 | .mov x=>some (ρ x,o)
 | .pick c a b=>match ρ c with
  | .sc (.bool true)=>some (ρ a,o)
  | .sc (.bool false)=>some (ρ b,o)
  |_=>none
 | .alloc z e A=>(Uk dp (.cells (z.map .sc) e z.length A) o).map λE=>(.ptr dp 0 z.length,E)
 | .box e x=>if uC (ρ x).cellsOf then(Uk dp (.cells (ρ x).cellsOf e (ρ x).cellsOf.length false) o).map λE=>(.ptr dp 0 (ρ x).cellsOf.length,E) else none
 | .build z j=>(XR (j.map λp=>(p.1,p.2.1,ρ p.2.2)) (z.map .sc)).map λu=>(.agg u,o)
 | .ace z t j e q=>
  match XR (j.map λp=>(p.1,q,ρ p.2)) ((δ t (z.map AV.sc)).flatten) with
  |some u=>(Uk dp (.cells (uo (ql u) u) e q (ql u)) o).map λE=>(.os dp 0 t (t*q),E)
  |none=>none
 | .aeF z t j _ q=>
  match XR (j.map λp=>(p.1,q,ρ p.2)) ((δ t (z.map AV.sc)).flatten) with
  |some u=>if ql u=true then some (.sl t (uo true u),o) else none
  |none=>none
 | .load n a=>match behind o (ρ a) with
  |some (u,w)=>(EE u w n).map (·,o)
  |none=>none
 | .store n a x=>match ρ a with
  | .ptr F w Q=>match o[F]? with
   |some (.cells u e q A)=>
    let v:=(ρ x).cellsOf
    if u.length=Q/\v.length=n/\uC v=true/\w+n<=u.length/\(A=false\/ql v=true) then some (.ud,o.set F (.cells (BE u w (uo A v)) e q A)) else none
   |_=>none
  |_=>none
 | .afC x=>match ρ x with
  | .ptr a b c=>some (.ptr a b c,o)
  | .ep a b=>some (.ep a b,o)
  |_=>none
 | .bin P x y=>match ρ x,ρ y with
  | .sc a,.sc b=>(GG P a b).map λv=>(.sc v,o)
  |_,_=>none
 | .beq H x y=>match ρ x,ρ y with
  | .sc (.bool a),.sc (.bool b)=>some (.sc (.bool (if H then !(a==b) else a==b)),o)
  |_,_=>none
 | .eqf H G x y=>match ρ x,ρ y with
  | .agg a,.agg b=>(feq G a b).map λr=>(.sc (.bool (if H then !r else r)),o)
  |_,_=>none
 | .un P x=>(unA P (ρ x)).map (·,o)
 | .conv k x=>match ρ x with
  | .sc (.int _ n)=>some (.sc (.int k (x5 k n)),o)
  |_=>none
 | .afD w x=>(abO w (ρ x)).map (·,o)
 | .field w n x=>match ρ x with
  | .agg u=>(EE u w n).map (·,o)
  |_=>none
 | .afE t q x i=>match Hf (ρ i) with
  |some n=>if 0<=n/\n<t then(abO (n.toNat*q) (ρ x)).map (·,o) else none
  |none=>none
 | .adY q x i=>match Hf (ρ i) with
  |some n=>(acL o q (ρ x) n).map (·,o)
  |none=>none
 | .idx t q n x i=>match Hf (ρ i),ρ x with
  |some k,.agg u=>if 0<=k/\k<t then(EE u (k.toNat*q) n).map (·,o) else none
  |_,_=>none
 | .agS x i=>match Hf (ρ i),ρ x with
  |some k,.sc (.string s)=>if 0<=k then(s[k.toNat]?).map λb=>(.sc (.int .u8 b.toNat),o) else none
  |_,_=>none
 | .acJ z e q B l c A=>match Hf (ρ l),Hf (ρ c) with
  |some n,some m=>if 0<=n/\n<=m/\m*B<=140737488355328/\m<=1000000000000 then
    (Uk dp (.cells ((δ n.toNat (uo A (z.map AV.sc))).flatten) e q A) o).map λE=>(.os dp 0 n.toNat (n.toNat*q),E) else none
  |_,_=>none
 | .slice q x O L=>(acN o q (ρ x) (O.map ρ) (L.map ρ)).map (·,o)
 | .slice3 q x O L R=>(ad2 o q (ρ x) (O.map ρ) (ρ L) (ρ R)).map (·,o)
 | .afF x O L=>match ρ x with
  | .sc (.string s)=>match Hh 0 (O.map ρ),Hh s.size (L.map ρ) with
   |some l,some h=>if l<=h/\h<=s.size then some (.sc (.string (s.extract l h)),o) else none
   |_,_=>none
  |_=>none
 | .append e q B s x A=>acM e q B A (ρ s) (ρ x) o dp
 | .len k x=>(XP o k (ρ x)).map λ(n:Nat)=>(.sc (.int .i64 n),o)
 | .afG n=>some (.sc (.int .i64 n),o)
 | .mm R x y=>match ρ x,ρ y with
  | .sc (.int k a),.sc (.int V b)=>if k=V then some (.sc (.int k (if R then(if b>a then b else a) else(if b<a then b else a))),o) else none
  |_,_=>none
 | .call f D J=>HZ call f (D.map ρ) o J
 | .QU f D J=>match ρ f with
  | .fn (.func g) C d=>HZ call g (C++D.map ρ++d) o J
  |_=>none
 | .extract x i=>match ρ x with
  | .eW U=>(U[i]?).map (·,o)
  |_=>none
 | .aeG f C d=>some (.fn f (C.map ρ) (d.map ρ),o)
 | .acK I A=>(Uk dp (.map [] I A) o).map λE=>(.mp dp,E)
 | .lookup z S G N x k T=>match ρ x,XQ G N (ρ k) with
  | .mp F,some M=>match o[F]? with
   |some (.map K I _)=>if I=(G,N) then match abl M K 0,adj z S with
    |some (some (_,v)),_=>some (if T then .eW [v,.sc (.bool true)] else v,o)
    |some none,some v=>some (if T then .eW [v,.sc (.bool false)] else v,o)
    |_,_=>none
    else none
   |_=>none
  |_,_=>none
 | .adi G N x k v=>match ρ x,XQ G N (ρ k) with
  | .mp F,some M=>match o[F]? with
   |some (.map K I A)=>
    if(A=true/\(ρ v).pure=false)\/I≠(G,N) then none else
    match abl M K 0 with
    |some (some (i,_))=>some (.ud,o.set F (.map (K.modify i λ_=>(M,ρ v)) I A))
    |some none=>some (.ud,o.set F (.map (K++[(M,ρ v)]) I A))
    |none=>none
   |_=>none
  |_,_=>none
def ayT (x:Operand) (_call:nD) (ρ:Operand->AV) (o:Store) (_nid:Nat):Option (AV×Store):=some (ρ x,o)
def ayU (c:Operand) (a:Operand) (b:Operand) (_call:nD) (ρ:Operand->AV) (o:Store) (_nid:Nat):Option (AV×Store):=match ρ c with
  | .sc (.bool true)=>some (ρ a,o)
  | .sc (.bool false)=>some (ρ b,o)
  |_=>none
def ayV (z:List Value) (e:TypeId) (pu:Bool) (_call:nD) (_ρ:Operand->AV) (o:Store) (dp:Nat):Option (AV×Store):=(Uk dp (.cells (z.map .sc) e z.length pu) o).map λo'=>(.ptr dp 0 z.length,o')
def ayW (e:TypeId) (x:Operand) (_call:nD) (ρ:Operand->AV) (o:Store) (dp:Nat):Option (AV×Store):=if uC (ρ x).cellsOf then(Uk dp (.cells (ρ x).cellsOf e (ρ x).cellsOf.length false) o).map λo'=>(.ptr dp 0 (ρ x).cellsOf.length,o') else none
def ayX (z:List Value) (parts:List (Nat×Nat×Operand)) (_call:nD) (ρ:Operand->AV) (o:Store) (_nid:Nat):Option (AV×Store):=(XR (parts.map λp=>(p.1,p.2.1,ρ p.2.2)) (z.map .sc)).map λcs=>(.agg cs,o)
def ayY (z:List Value) (len:Nat) (parts:List (Nat×Operand)) (e:TypeId) (sz:Nat) (_call:nD) (ρ:Operand->AV) (o:Store) (dp:Nat):Option (AV×Store):=
  match XR (parts.map λp=>(p.1,sz,ρ p.2)) ((δ len (z.map AV.sc)).flatten) with
  |some cs=>(Uk dp (.cells (uo (ql cs) cs) e sz (ql cs)) o).map λo'=>(.os dp 0 len (len*sz),o')
  |none=>none
def ayZ (z:List Value) (len:Nat) (parts:List (Nat×Operand)) (_a3:TypeId) (sz:Nat) (_call:nD) (ρ:Operand->AV) (o:Store) (_nid:Nat):Option (AV×Store):=
  match XR (parts.map λp=>(p.1,sz,ρ p.2)) ((δ len (z.map AV.sc)).flatten) with
  |some cs=>if ql cs=true then some (.sl len (uo true cs),o) else none
  |none=>none
def ay0 (n:Option Nat) (a:Operand) (_call:nD) (ρ:Operand->AV) (o:Store) (_nid:Nat):Option (AV×Store):=match behind o (ρ a) with
  |some (cs,off)=>(EE cs off n).map (·,o)
  |none=>none
def ay1 (n:Nat) (a:Operand) (x:Operand) (_call:nD) (ρ:Operand->AV) (o:Store) (_nid:Nat):Option (AV×Store):=match ρ a with
  | .ptr id off tot=>match o[id]? with
   |some (.cells cs e sz pu)=>
    let v:=(ρ x).cellsOf
    if cs.length=tot/\v.length=n/\uC v=true/\off+n<=cs.length/\(pu=false\/ql v=true) then some (.ud,o.set id (.cells (BE cs off (uo pu v)) e sz pu)) else none
   |_=>none
  |_=>none
def ay2 (x:Operand) (_call:nD) (ρ:Operand->AV) (o:Store) (_nid:Nat):Option (AV×Store):=match ρ x with
  | .ptr a b c=>some (.ptr a b c,o)
  | .ep a b=>some (.ep a b,o)
  |_=>none
def ay3 (op:BinOp) (x:Operand) (y:Operand) (_call:nD) (ρ:Operand->AV) (o:Store) (_nid:Nat):Option (AV×Store):=match ρ x,ρ y with
  | .sc a,.sc b=>(GG op a b).map λv=>(.sc v,o)
  |_,_=>none
def ay4 (neg:Bool) (x:Operand) (y:Operand) (_call:nD) (ρ:Operand->AV) (o:Store) (_nid:Nat):Option (AV×Store):=match ρ x,ρ y with
  | .sc (.bool a),.sc (.bool b)=>some (.sc (.bool (if neg then !(a==b) else a==b)),o)
  |_,_=>none
def ay5 (neg:Bool) (ks:List Nat) (x:Operand) (y:Operand) (_call:nD) (ρ:Operand->AV) (o:Store) (_nid:Nat):Option (AV×Store):=match ρ x,ρ y with
  | .agg a,.agg b=>(feq ks a b).map λr=>(.sc (.bool (if neg then !r else r)),o)
  |_,_=>none
def ay6 (op:UnOp) (x:Operand) (_call:nD) (ρ:Operand->AV) (o:Store) (_nid:Nat):Option (AV×Store):=(unA op (ρ x)).map (·,o)
def ay7 (k:IntKind) (x:Operand) (_call:nD) (ρ:Operand->AV) (o:Store) (_nid:Nat):Option (AV×Store):=match ρ x with
  | .sc (.int _ n)=>some (.sc (.int k (x5 k n)),o)
  |_=>none
def ay8 (off:Nat) (x:Operand) (_call:nD) (ρ:Operand->AV) (o:Store) (_nid:Nat):Option (AV×Store):=(abO off (ρ x)).map (·,o)
def ay9 (off:Nat) (n:Option Nat) (x:Operand) (_call:nD) (ρ:Operand->AV) (o:Store) (_nid:Nat):Option (AV×Store):=match ρ x with
  | .agg cs=>(EE cs off n).map (·,o)
  |_=>none
def aza (len:Nat) (sz:Nat) (x:Operand) (i:Operand) (_call:nD) (ρ:Operand->AV) (o:Store) (_nid:Nat):Option (AV×Store):=match Hf (ρ i) with
  |some n=>if 0<=n/\n<len then(abO (n.toNat*sz) (ρ x)).map (·,o) else none
  |none=>none
def azb (sz:Nat) (x:Operand) (i:Operand) (_call:nD) (ρ:Operand->AV) (o:Store) (_nid:Nat):Option (AV×Store):=match Hf (ρ i) with
  |some n=>(acL o sz (ρ x) n).map (·,o)
  |none=>none
def azc (len:Nat) (sz:Nat) (n:Option Nat) (x:Operand) (i:Operand) (_call:nD) (ρ:Operand->AV) (o:Store) (_nid:Nat):Option (AV×Store):=match Hf (ρ i),ρ x with
  |some k,.agg cs=>if 0<=k/\k<len then(EE cs (k.toNat*sz) n).map (·,o) else none
  |_,_=>none
def azd (x:Operand) (i:Operand) (_call:nD) (ρ:Operand->AV) (o:Store) (_nid:Nat):Option (AV×Store):=match Hf (ρ i),ρ x with
  |some k,.sc (.string s)=>if 0<=k then(s[k.toNat]?).map λb=>(.sc (.int .u8 b.toNat),o) else none
  |_,_=>none
def aze (z:List Value) (e:TypeId) (sz:Nat) (a:Nat) (l:Operand) (c:Operand) (pu:Bool) (b:nD) (ρ:Operand->AV) (o:Store) (dp:Nat):Option (AV×Store):=match Hf (ρ l),Hf (ρ c) with
  |some n,some m=>if 0<=n/\n<=m/\m*a<=140737488355328/\m<=1000000000000 then
    (Uk dp (.cells ((δ n.toNat (uo pu (z.map AV.sc))).flatten) e sz pu) o).map λd=>(.os dp 0 n.toNat (n.toNat*sz),d) else none
  |_,_=>none
def azf (sz:Nat) (x:Operand) (lo:Option Operand) (hi:Option Operand) (_call:nD) (ρ:Operand->AV) (o:Store) (_nid:Nat):Option (AV×Store):=(acN o sz (ρ x) (lo.map ρ) (hi.map ρ)).map (·,o)
def azg (sz:Nat) (x:Operand) (lo:Option Operand) (hi:Operand) (mx:Operand) (_call:nD) (ρ:Operand->AV) (o:Store) (_nid:Nat):Option (AV×Store):=(ad2 o sz (ρ x) (lo.map ρ) (ρ hi) (ρ mx)).map (·,o)
def azh (x:Operand) (lo:Option Operand) (hi:Option Operand) (_call:nD) (ρ:Operand->AV) (o:Store) (_nid:Nat):Option (AV×Store):=match ρ x with
  | .sc (.string s)=>match Hh 0 (lo.map ρ),Hh s.size (hi.map ρ) with
   |some l,some h=>if l<=h/\h<=s.size then some (.sc (.string (s.extract l h)),o) else none
   |_,_=>none
  |_=>none
def azi (e:TypeId) (sz:Nat) (a:Nat) (s:Operand) (x:Operand) (pu:Bool) (b:nD) (ρ:Operand->AV) (o:Store) (dp:Nat):Option (AV×Store):=acM e sz a pu (ρ s) (ρ x) o dp
def azj (k:Nat) (x:Operand) (_call:nD) (ρ:Operand->AV) (o:Store) (_nid:Nat):Option (AV×Store):=(XP o k (ρ x)).map λ(n:Nat)=>(.sc (.int .i64 n),o)
def azk (n:Nat) (_call:nD) (_ρ:Operand->AV) (o:Store) (_nid:Nat):Option (AV×Store):=some (.sc (.int .i64 n),o)
def azl (mx:Bool) (x:Operand) (y:Operand) (_call:nD) (ρ:Operand->AV) (o:Store) (_nid:Nat):Option (AV×Store):=match ρ x,ρ y with
  | .sc (.int k a),.sc (.int k' b)=>if k=k' then some (.sc (.int k (if mx then(if b>a then b else a) else(if b<a then b else a))),o) else none
  |_,_=>none
def azm (f:FuncId) (args:List Operand) (own:Bool) (call:nD) (ρ:Operand->AV) (o:Store) (_nid:Nat):Option (AV×Store):=HZ call f (args.map ρ) o own
def asz (f:Operand) (args:List Operand) (own:Bool) (call:nD) (ρ:Operand->AV) (o:Store) (_nid:Nat):Option (AV×Store):=match ρ f with
  | .fn (.func g) first captured=>HZ call g (first++args.map ρ++captured) o own
  |_=>none
def azn (x:Operand) (i:Nat) (_call:nD) (ρ:Operand->AV) (o:Store) (_nid:Nat):Option (AV×Store):=match ρ x with
  | .eW vs=>(vs[i]?).map (·,o)
  |_=>none
def azo (f:Fn) (first:List Operand) (captured:List Operand) (_call:nD) (ρ:Operand->AV) (o:Store) (_nid:Nat):Option (AV×Store):=some (.fn f (first.map ρ) (captured.map ρ),o)
def azp (kt:List Nat×Bool) (pu:Bool) (_call:nD) (_ρ:Operand->AV) (o:Store) (dp:Nat):Option (AV×Store):=(Uk dp (.map [] kt pu) o).map λo'=>(.mp dp,o')
def azq (z:List Value) (agg:Bool) (ks:List Nat) (ka:Bool) (x:Operand) (k:Operand) (ok:Bool) (_call:nD) (ρ:Operand->AV) (o:Store) (_nid:Nat):Option (AV×Store):=match ρ x,XQ ks ka (ρ k) with
  | .mp id,some kv=>match o[id]? with
   |some (.map es kt _)=>if kt=(ks,ka) then match abl kv es 0,adj z agg with
    |some (some (_,v)),_=>some (if ok then .eW [v,.sc (.bool true)] else v,o)
    |some none,some v=>some (if ok then .eW [v,.sc (.bool false)] else v,o)
    |_,_=>none
    else none
   |_=>none
  |_,_=>none
def azr (ks:List Nat) (ka:Bool) (x:Operand) (k:Operand) (v:Operand) (_call:nD) (ρ:Operand->AV) (o:Store) (_nid:Nat):Option (AV×Store):=match ρ x,XQ ks ka (ρ k) with
  | .mp id,some kv=>match o[id]? with
   |some (.map es kt pu)=>
    if(pu=true/\(ρ v).pure=false)\/kt≠(ks,ka) then none else
    match abl kv es 0 with
    |some (some (i,_))=>some (.ud,o.set id (.map (es.modify i λ_=>(kv,ρ v)) kt pu))
    |some none=>some (.ud,o.set id (.map (es++[(kv,ρ v)]) kt pu))
    |none=>none
   |_=>none
  |_,_=>none
def asA (A:lh):nD->(Operand->AV)->Store->Nat->Option (AV×Store):=
 match A with
 | .mov x=>ayT x
 | .pick c a b=>ayU c a b
 | .alloc z e p=>ayV z e p
 | .box e x=>ayW e x
 | .build z d=>ayX z d
 | .ace z h d e g=>ayY z h d e g
 | .aeF z h d I g=>ayZ z h d I g
 | .load n a=>ay0 n a
 | .store n a x=>ay1 n a x
 | .afC x=>ay2 x
 | .bin A x y=>ay3 A x y
 | .beq r x y=>ay4 r x y
 | .eqf r w x y=>ay5 r w x y
 | .un A x=>ay6 A x
 | .conv k x=>ay7 k x
 | .afD u x=>ay8 u x
 | .field u n x=>ay9 u n x
 | .afE h g x i=>aza h g x i
 | .adY g x i=>azb g x i
 | .idx h g n x i=>azc h g n x i
 | .agS x i=>azd x i
 | .acJ z e g j l c p=>aze z e g j l c p
 | .slice g x B C=>azf g x B C
 | .slice3 g x B C F=>azg g x B C F
 | .afF x B C=>azh x B C
 | .append e g j s x p=>azi e g j s x p
 | .len k x=>azj k x
 | .afG n=>azk n
 | .mm F x y=>azl F x y
 | .call f o q=>azm f o q
 | .QU f o q=>asz f o q
 | .extract x i=>azn x i
 | .aeG f t m=>azo f t m
 | .acK G p=>azp G p
 | .lookup z D w E x k H=>azq z D w E x k H
 | .adi w E x k v=>azr w E x k v
def eff (call:nD) (op:lh) (ρ:Operand->AV) (o:Store) (dp:Nat):Option (AV×Store):=asA op call ρ o dp
theorem aiE (call:nD) (a:lh) (ρ:Operand->AV) (o:Store) (dp:Nat):eff call a ρ o dp=gw call a ρ o dp:=by
 cases a<;>rfl
def aav (env:MD) (g:Option (Option Nat×Bool)):Option Bool:=
 match g with
 |none=>some true
 |some (none,_)=>none
 |some (some s,b)=>match qd env s with
  | .sc (.bool c)=>some (c==b)
  | .eW []=>some false
  |_=>none
def Hj (call:nD) (base:Nat) (i:oQ) (st:St):Option St:=
 match aav st.env i.guard with
 |none=>none
 |some false=>some ⟨abM st.env i.dst (.eW []),st.o⟩
 |some true=>match eff call i.op (uB st.env) st.o (base+i.dp) with
  |some (v,o')=>some ⟨abM st.env i.dst v,o'⟩
  |none=>none
def BJ (call:nD) (base:Nat):List oQ->St->Option St
 |[],st=>some st
 |i::r,st=>match Hj call base i st with
  |some st'=>BJ call base r st'
  |none=>none
def zq:AV->List Nat
 | .ptr id _ _=>[id]
 | .os id _ _ _=>[id]
 | .mp id=>[id]
 |_=>[]
def se (op:lh) (ρ:Operand->AV) (o:Store) (dp:Nat):List Nat:=
 match op with
 | .load _ a=>zq (ρ a)
 | .adY _ x _=>zq (ρ x)
 | .slice _ x _ _=>zq (ρ x)
 | .slice3 _ x _ _ _=>zq (ρ x)
 | .len _ x=>zq (ρ x)
 | .lookup _ _ _ _ x _ _=>zq (ρ x)
 | .call _ args false=>(args.map ρ).flatMap (AO o 6)
 | .QU f args false=>match ρ f with
  | .fn _ first captured=>(first++args.map ρ++captured).flatMap (AO o 6)
  |_=>[]
 | .call _ args true=>lH o A4 (args.map ρ) []
 | .QU f args true=>match ρ f with
  | .fn _ first captured=>lH o A4 (first++args.map ρ++captured) []
  |_=>[]
 | .alloc .. | .box .. | .ace .. | .acJ .. | .acK .. =>[dp]
 | .store _ a _=>zq (ρ a)
 | .append _ _ _ s x _=>dp::(zq (ρ s)++zq (ρ x))
 | .adi _ _ x _ _=>zq (ρ x)
 |_=>[]
def wrt (op:lh) (ρ:Operand->AV) (o:Store) (dp:Nat):List Nat:=
 match op with
 | .alloc .. | .box .. | .ace .. | .acJ .. | .acK .. =>[dp]
 | .store _ a _=>zq (ρ a)
 | .append _ _ _ s _ _=>dp::zq (ρ s)
 | .call _ args true=>lH o A4 (args.map ρ) []
 | .QU f args true=>match ρ f with
  | .fn _ first captured=>lH o A4 (first++args.map ρ++captured) []
  |_=>[]
 | .adi _ _ x _ _=>zq (ρ x)
 |_=>[]
open Classical in
def uu (call:nD) (op:lh) (ρ:Operand->AV) (o:Store) (dp:Nat):List Nat:=
 match op with
 | .call f args true=>match J8 call f (args.map ρ) o with
  |some (_,o')=>(lH o A4 (args.map ρ) []).filter λj=>decide (o'[j]?≠o[j]?)
  |none=>[]
 |op=>wrt op ρ o dp
abbrev Trace:=List (Nat×List Nat×List Nat)
def aax (call:nD) (base:Nat):List oQ->St->Trace
 |[],_=>[]
 |i::r,st=>(match aav st.env i.guard with
   |some true=>(i.idx,se i.op (uB st.env) st.o (base+i.dp),uu call i.op (uB st.env) st.o (base+i.dp))
   |_=>(i.idx,[],[]))::match Hj call base i st with
  |some st'=>aax call base r st'
  |none=>[]
def agU (a b:List Nat):Bool:=a.all λx=>!b.contains x
def acO (tr:Trace) (i:Nat):List Nat×List Nat:=
 match tr with
 |[]=>([],[])
 |(j,x)::r=>if j==i then x else acO r i
def aeI (n:Nat) (tr:Trace) (SK:List (Nat×Nat)):Bool:=
 SK.all λp=>let a:=acO tr p.1;let b:=acO tr p.2;agU a.2 b.1&&agU b.2 a.1&&a.1.all (λi=>decide (i<n))&&b.1.all (λi=>decide (i<n))
def BK (k:Nat):Store:=δ k .dead
def adl (base:Nat) (o:Store):Store:=if(o.drop base).all (·.aaL) then o.take base else o
def acg (call:nD) (k:Nat) (ops:List oQ) (SK:List (Nat×Nat)) (st:St):Option St:=
 let st0:St:=⟨st.env,st.o++BK k⟩
 match BJ call st.o.length ops st0 with
 |some st'=>if SK.isEmpty||aeI st0.o.length (aax call st.o.length ops st0) SK then some ⟨st'.env,if k=0 then st'.o else adl st.o.length st'.o⟩ else none
 |none=>none
mutual
def AV.iR (o:Store) (p:Nat->Bool):AV->Option AV
 | .os id off len tot=>if p id then match o[id]? with
   |some (.cells cs _ sz pu)=>if pu then(if cs.length=tot/\off+len*sz<=tot then some (.sl len ((cs.drop off).take (len*sz))) else none) else some (.os id off len tot)
   |_=>some (.os id off len tot)
  else some (.os id off len tot)
 | .ptr id off tot=>if p id then match o[id]? with
   |some (.cells _ _ _ pu)=>if pu then none else some (.ptr id off tot)
   |_=>some (.ptr id off tot)
  else some (.ptr id off tot)
 | .agg cs=>(GH o p cs).map .agg
 | .eW cs=>(GH o p cs).map .eW
 | .fn f a b=>match GH o p a,GH o p b with
  |some a',some b'=>some (.fn f a' b')
  |_,_=>none
 |v=>some v
def GH (o:Store) (p:Nat->Bool):List AV->Option (List AV)
 |[]=>some []
 |c::cs=>match c.iR o p,GH o p cs with
  |some c',some cs'=>some (c'::cs')
  |_,_=>none
end
def acP (o:Store) (p:Nat->Bool):List (Value×AV)->Option (List (Value×AV))
 |[]=>some []
 |e::es=>match e.2.iR o p,acP o p es with
  |some v,some es'=>some ((e.1,v)::es')
  |_,_=>none
def ig.iR (o:Store) (p:Nat->Bool):ig->Option ig
 | .dead=>some .dead
 | .cells cs e sz pu=>if pu then some (.cells cs e sz pu) else(GH o p cs).map λcs'=> .cells cs' e sz pu
 | .map es kt pu=>if pu then some (.map es kt pu) else(acP o p es).map λes'=> .map es' kt pu
def ME (o:Store) (p:Nat->Bool):Store->Option Store
 |[]=>some []
 |x::r=>match x.iR o p,ME o p r with
  |some y,some l=>some (y::l)
  |_,_=>none
def A5 (p:Nat->Bool):Nat->Store->Store
 |_,[]=>[]
 |i,x::r=>(match x with
  | .cells cs e sz true=>if p i then .dead else .cells cs e sz true
  |x=>x)::A5 p (i+1) r
def afI (o:Store) (p:Nat->Bool):MD->Option MD
 |[]=>some []
 |(k,v)::r=>match v.iR o p,afI o p r with
  |some v',some r'=>some ((k,v')::r')
  |_,_=>none
def akz (h:SJ) (st:St):Option AV:=
 match h.off with
 |none=>some (qd st.env h.slot)
 |some k=>match behind st.o (qd st.env h.slot) with
  |some (cs,off)=>cs[off+k]?
  |none=>none
def akA (id:Nat) (st:St):St:=
 match st.o[id]? with
 |some (.cells cs e sz true)=>⟨st.env,st.o.set id (.cells cs e sz false)⟩
 |_=>st
def akB (h:SJ) (st:St):St:=
 match h.off with
 |none=>match qd st.env h.slot with
  | .sc (.slice none 0 0)=>⟨(h.slot,.os st.o.length 0 0 0)::st.env,st.o++[.cells [] h.e h.sz h.pu]⟩
  | .os id _ _ _=>if h.sz=0 then akA id st else st
  |_=>st
 |some k=>match qd st.env h.slot with
  | .ptr id off tot=>match st.o[id]? with
   |some (.cells cs e sz pu)=>match cs[off+k]? with
    |some (.sc (.slice none 0 0))=>
     if cs.length=tot/\pu=false then⟨st.env,(st.o.set id (.cells (cs.set (off+k) (.os st.o.length 0 0 0)) e sz pu))++[.cells [] h.e h.sz h.pu]⟩ else st
    |_=>st
   |_=>st
  |_=>st
def akC (id:Nat) (st:St):St:=
 let p:Nat->Bool:=λi=>i==id
 match afI st.o p st.env,ME st.o p st.o with
 |some env,some o=>⟨env,A5 p 0 o⟩
 |_,_=>st
def aiF (id:Nat) (st:St):St:=
 match st.o[id]? with
 |some (.cells cs e sz false)=>if ql cs then⟨st.env,st.o.set id (.cells cs e sz true)⟩ else st
 |_=>st
def RB (lo:Nat) (h:SJ) (st:St):St:=
 if h.own then akB h st
 else match akz h st with
  |some (.os id _ _ _)=>if Nat.ble lo id then akC id (aiF id st) else st
  |_=>st
def prune (live:List Nat) (env:MD):MD:=live.map λs=>(s,qd env s)
inductive Out where
 |norm
 |exit (id:Nat)
 |ret
 |goto (l:Nat)
 deriving DecidableEq
def trim (k:Nat) (st:St):St:=
 if st.o.length<=k then st
 else if(st.env.all λp=>p.2.ju k)&&((st.o.take k).all λx=>x.ju k) then⟨st.env,st.o.take k⟩ else st
structure aaN where
 slot:Nat
 cell:Option (Option Nat)
structure zr where
 params:Nat
 ntmps:Nat
 body:IR
 res:List aaN
def adn (st:St) (r:aaN):Option AV:=
 match r.cell with
 |none=>some (qd st.env r.slot)
 |some n=>match behind st.o (qd st.env r.slot) with
  |some (cs,off)=>EE cs off n
  |none=>none
def abm (st:St) (rs:List aaN):Option AV:=
 match rs.mapM (adn st) with
 |some [v]=>some v
 |some vs=>some (.eW vs)
 |none=>none
def YF (k:Nat) (r:AV) (o:Store):Option (AV×Store):=
 match r.iR o (λi=>decide (k<=i)),ME o (λi=>decide (k<=i)) o with
 |some r1,some o1=>
  let o2:=A5 (λi=>decide (k<=i)) 0 o1
  let ids:=lH o2 A4 (r1::(o2.take k).flatMap ig.avs) (Φ k)
  if J8.acf ids then
   match r1.ren (λj=>idxOf ids j),Wm o2 ids ids with
   |some r2,some s2=>some (r2,s2)
   |_,_=>none
  else none
 |_,_=>none
where ig.avs:ig->List AV
 | .cells cs _ _ pu=>if pu then[] else cs
 | .map es _ pu=>if pu then[] else es.map (·.2)
 | .dead=>[]
def finish (own:Bool) (k:Nat) (r:AV) (o:Store):Option (AV×Store):=
 if own then YF k r o
 else match k with
  |0=>match freeze o 6 r with
   |some r'=>some (r',[])
   |none=>none
  |_+1=>none
def Hl:Nat->List AV->MD
 |_,[]=>[]
 |i,v::vs=>(i,v)::Hl (i+1) vs
structure Tab where
 fn:FuncId->Option zr
 K:nD
def ado (ex:IR->St->Option (Out×St)):IR->St->Option St
 | .skip,st=>some st
 | .seq x y,st=>match ex x st with
  |some (.norm,st')=>ado ex y st'
  |_=>none
 |_,_=>none
def adp:Out->Bool
 | .norm| .ret=>true
 |_=>false
def anx (ex:Nat->IR->St->Option (Out×St)) (F:Option zr) (cs:List AV) (s:St):Option (Out×St):=match F with
 |some F=>if cs.length=F.params/\F.res.isEmpty=true then match ex s.o.length F.body ⟨Hl 0 cs,s.o⟩ with
  |some (out,s3)=>if adp out=true then some (.ret,⟨s.env,s3.o⟩) else none
  |none=>none else none
 |none=>none
def aeJ (T:Tab) (ex:Nat->IR->St->Option (Out×St)) (lo:Nat) (c:IR) (st:St):Option (Out×St):=match c with
 | .dfr g caps d a b=>match ado (ex lo) a st with
  |some s0=>match ex s0.o.length b ⟨(d,.ud)::s0.env,s0.o⟩ with
   |some (out,s2)=>if adp out=true then anx ex (T.fn g) (caps.map (uB s0.env)) s2 else none
   |none=>none
  |none=>none
 |c=>ex lo c st
def acQ (T:Tab) (ex:Nat->IR->St->Option (Out×St)):nD:=λf args o own=>
 match T.K f args o own with
 |some r=>some r
 |none=>match T.fn f with
  |none=>none
  |some F=>if args.length=F.params then
    match aeJ T ex o.length F.body ⟨Hl 0 args,o⟩ with
    |some (.norm,st)|some (.ret,st)=>match abm st F.res with
     |some r=>finish own o.length r st.o
     |none=>none
    |_=>none
   else none
def adq (t:Nat):MD->MD
 |[]=>[]
 |p::r=>bif Nat.beq p.1 t then adq t r else p::adq t r
def ach (x:Operand) (env:MD):MD:=
 match x with
 | .tmp t=>adq t env
 |_=>env
inductive Md where
 |plain
def anz (_:Md) (_:Bool) (call:nD) (k:Nat) (ops:List oQ) (SK:List (Nat×Nat)) (st:St):Option St:=acg call k ops SK st
def exec (T:Tab):Md->Nat->Nat->IR->St->Option (Out×St)
 |_,0,_,_,_=>none
 |md,n+1,lo,c,st=>
  match c with
  | .skip=>some (.norm,st)
  | .region _ draw k ops SK live pre post=>match anz md draw (acQ T (exec T .plain n)) k ops SK (pre.foldl (λs h=>RB lo h s) st) with
   |some st'=>some (.norm,post.foldl (λs h=>RB lo h s) ⟨prune live st'.env,st'.o⟩)
   |none=>none
  | .seq a b=>match exec T md n lo a st with
   |some (.norm,st')=>exec T md n lo b st'
   |r=>r
  | .cond x a b=>match uB st.env x with
   | .sc (.bool true)=>exec T md n lo a ⟨ach x st.env,st.o⟩
   | .sc (.bool false)=>exec T md n lo b ⟨ach x st.env,st.o⟩
   |_=>none
  | .block id b=>match exec T md n lo b st with
   |some (.exit id',st')=>if id'=id then some (.norm,st') else some (.exit id',st')
   |r=>r
  | .loop b=>match exec T md n lo b st with
   |some (.norm,st')=>exec T md n lo (.loop b) (trim st.o.length st')
   |r=>r
  | .exit id=>some (.exit id,st)
  | .ret=>some (.ret,st)
  | .goto l=>some (.goto l,st)
  | .abN x a b=>match uB st.env x with
   | .sc (.bool true)=>exec T md n lo a st
   | .sc (.bool false)=>exec T md n lo b st
   |_=>none
  | .turns l b=>match exec T md n lo b st with
   |some (.goto l',st')=>if l=some l' then exec T md n lo (.turns l b) (trim st.o.length st') else none
   |r=>r
  | .dfr .. =>none
def lh.W1:lh->List Operand
 | .mov x| .box _ x| .load _ x| .afC x| .un _ x| .conv _ x| .afD _ x| .field _ _ x| .len _ x| .extract x _=>[x]
 | .pick c a b=>[c,a,b]
 | .alloc .. | .afG _| .acK .. =>[]
 | .build _ e=>e.map (·.2.2)
 | .ace _ _ e _ _| .aeF _ _ e _ _=>e.map (·.2)
 | .store _ a x=>[a,x]
 | .bin _ x y| .beq _ x y| .eqf _ _ x y| .mm _ x y=>[x,y]
 | .afE _ _ x i| .adY _ x i| .idx _ _ _ x i| .agS x i=>[x,i]
 | .acJ _ _ _ _ l c _=>[l,c]
 | .slice _ x h g| .afF x h g=>x::(h.toList++g.toList)
 | .slice3 _ x h g j=>x::g::j::h.toList
 | .append _ _ _ s x _=>[s,x]
 | .call _ d _=>d
 | .QU f d _=>f::d
 | .aeG _ a b=>a++b
 | .lookup _ _ _ _ x k _=>[x,k]
 | .adi _ _ x k v=>[x,k,v]
def lh.cls:lh->Nat
 | .mov _| .pick .. | .build .. | .aeF .. | .afC _| .bin .. | .beq .. | .eqf .. | .un .. | .conv .. | .afD .. | .field .. | .afE .. | .idx .. | .agS .. | .afF .. | .afG _
 | .mm .. | .extract .. | .aeG .. =>0
 | .load .. | .adY .. | .slice .. | .slice3 .. | .len .. | .lookup .. | .call _ _ false| .QU _ _ false=>1
 | .alloc .. | .box .. | .ace .. | .acJ .. | .acK .. | .store .. | .append .. | .adi .. =>2
 | .call _ _ true| .QU _ _ true=>3
def lh.makes:lh->Bool
 | .alloc .. | .box .. | .ace .. | .acJ .. | .acK .. | .append .. =>true
 |_=>false
def tmpsOf (l:List Operand):List Nat:=l.filterMap λ| .tmp t=>some t|_=>none
def oQ.reads (i:oQ):List Nat:=
 tmpsOf i.op.W1++(match i.guard with|some (some s,_)=>[s]|_=>[])
def anA (d:Option Nat) (l:List Nat):Bool:=match d with|none=>true|some d=>!l.contains d
def aiH (a b:oQ):Bool:=
 anA a.dst b.reads&&anA b.dst a.reads&&(match a.dst,b.dst with|some x,some y=>x !=y|_,_=>true)
def agV (a b:oQ):Bool:=a.op.cls==0||b.op.cls==0||(a.op.cls==1&&b.op.cls==1)
def akD (a b:oQ):Bool:=a.op.cls !=3||b.op.cls !=3
def agW:Nat->List Oper->Bool
 |_,[]=>true
 |i,o::r=>o.after.toList.all (λe=>!Region.binds .any e||decide (e.on<i))&&agW (i+1) r
structure RH where
 id:Nat
 live:List Nat
 perm:List Nat:=[]
 flags:List Nat:=[]
 pre:List SJ:=[]
 post:List SJ:=[]
def adr (c:TypeId->Option (List Nat)):Nat->List Field->Option (List Nat)
 |_,[]=>some []
 |b,f::d=>if f.name= "_" ∨f.offset≠b then none else match c f.type with
  |some a=>match adr c (b+a.length) d with
   |some r=>some (a++r)
   |none=>none
  |none=>none
def EG (P:Program):Nat->TypeId->Option (List Nat)
 |0,_=>none
 |d+1,t=>match P.underlying t,(P.info? t).map (·.size) with
  |some (.int _),some 1=>some [0]
  |some .bool,some 1=>some [1]
  |some .string,some 1=>some [2]
  |some (.struct b),some n=>if P.stoodInHeld t then none else match adr (EG P d) 0 b.toList with
   |some a=>if a.length=n then some a else none
   |none=>none
  |some (.array k e),some n=>match EG P d e with
   |some a=>if n=k*a.length then some ((δ k a).flatten) else none
   |none=>none
  |_,_=>none
def AQ (P:Program) (t:TypeId):Option Bool:=
 match P.underlying t with
 |some (.struct _)|some (.array _ _)=>some true
 |some _=>some false
 |none=>none
def sizeT (P:Program) (t:TypeId):Option Nat:=(P.info? t).map (·.size)
def agX (P:Program) (t:TypeId):Option Nat:=(P.info? t).map (·.bytes)
def abR (P:Program) (t:TypeId):Option (Option Nat):=
 match AQ P t,sizeT P t with
 |some true,some n=>some (some n)
 |some false,some _=>some none
 |_,_=>none
def YP (P:Program) (t:TypeId):Option (List Value):=
 match(P.info? t).bind (·.zero),sizeT P t with
 |some z,some n=>if z.cells.toList.all (·.oneCell')&&z.cells.size==n then some z.cells.toList else none
 |_,_=>none
def aiI (P:Program) (t:TypeId) (g:Bool):Bool:=
 match(P.info? t).bind (·.zero) with
 |some (.agg _)=>g
 |some _=>!g
 |none=>false
def ads {d c:Type} (f:d->Option c):List d->Option (List c)
 |[]=>some []
 |a::l=>match f a,ads f l with
  |some b,some r=>some (b::r)
  |_,_=>none
def FG (P:Program) (f:FuncId):Bool:=(P.funcs[f]?).any fun a=>a.body.isSome&&!(a.name== "runtime.NumGoroutine")
def asB (P:Program) (a:Array Field):Option (List (Nat×Nat)):=a.toList.mapM λf=>(P.info? f.type).map λi=>(f.offset,i.size)
def asC (a:List (Nat×Nat)) (p:Nat×Operand):Option (Nat×Nat×Operand):=(a[p.1]?).map λq=>(q.1,q.2,p.2)
def aci (P:Program) (fl:Bool) (o:Oper):Option lh:=
 match o.op with
 | .move x| .assign x=>some (.mov x)
 | .pick c a b=>some (.pick c a b)
 | .alloc e=>(YP P e).map λz=> .alloc z e fl
 | .box e x=>some (.box e x)
 | .build t h=>match YP P t,P.underlying t with
  |some z,some (.struct r)=>match asB P r with
   |some q=>(ads (asC q) h.toList).map λJ=> .build z J
   |none=>none
  |some z,some (.array _ e)=>(sizeT P e).map λn=> .build z (h.toList.map λp=>(p.1*n,n,p.2))
  |_,_=>none
 | .buildSlice t j h=>match P.underlying t with
  |some (.slice e)=>match YP P e with
   |some z=>if j*z.length<=16777216/\0<z.length then some (if fl then .aeF z j (h.toList.map λp=>(p.1*z.length,p.2)) e z.length else .ace z j (h.toList.map λp=>(p.1*z.length,p.2)) e z.length) else none
   |none=>none
  |_=>none
 | .load t a=>(abR P t).map λn=> .load n a
 | .store t a x=>(sizeT P t).map λn=> .store n a x
 | .nilCheck x=>some (.afC x)
 | .binOp A t x y _=>match A with
  | .eql| .neq=>match P.underlying t with
   |some (.struct _)|some (.array _ _)=>if 20<=P.depth then(EG P 20 t).map λw=> .eqf (A matches .neq) w x y else none
   |some .bool=>some (.beq (A matches .neq) x y)
   |some (.int _)|some .string=>some (.bin A x y)
   |_=>none
  |_=>some (.bin A x y)
 | .unOp A _ x=>some (.un A x)
 | .convert s d x=>match P.underlying s,P.underlying d with
  |some _,some (.int k)=>some (.conv k x)
  |_,_=>none
 | .fieldAddr s x f=>match P.underlying s with
  |some (.struct F)=>match F[f]? with
   |some g=>match sizeT P g.type with
    |some n=>if n=0 then none else some (.afD g.offset x)
    |none=>none
   |none=>none
  |_=>none
 | .field t x f=>match P.underlying t with
  |some (.struct F)=>match F[f]? with
   |some g=>(abR P g.type).map λn=> .field g.offset n x
   |none=>none
  |_=>none
 | .indexAddr t x i=>match P.underlying t with
  |some (.array j e)=>(sizeT P e).map λn=> .afE j n x i
  |some (.slice e)=>match sizeT P e with
   |some n=>if n=0 then none else some (.adY n x i)
   |none=>none
  |_=>none
 | .index t x i=>match P.underlying t with
  |some (.array j e)=>match sizeT P e,abR P e with
   |some s,some n=>some (.idx j s n x i)
   |_,_=>none
  |some .string=>some (.agS x i)
  |_=>none
 | .makeSlice t l c=>match P.underlying t with
  |some (.slice e)=>match YP P e,agX P e with
   |some z,some b=>if 0<z.length then some (.acJ z e z.length b l c fl) else none
   |_,_=>none
  |_=>none
 | .slice t x D C none=>match P.underlying t with
  |some (.slice e)=>match sizeT P e with
   |some n=>if n=0 then none else some (.slice n x D C)
   |none=>none
  |some .string=>some (.afF x D C)
  |_=>none
 | .slice t x D (some C) (some G)=>match P.underlying t with
  |some (.slice e)=>match sizeT P e with
   |some n=>if n=0 then none else some (.slice3 n x D C G)
   |none=>none
  |_=>none
 | .call c=>match c.callee with
  | .value (.func f)=>if FG P f then some (.call f c.args.toList fl) else none
  | .value v=>some (.QU v c.args.toList fl)
  | .builtin .append=>match c.args.toList,c.argTypes.toList with
   |[s,x],[t,H]=>if t=H then match P.underlying t with
     |some (.slice e)=>match YP P e,agX P e with
      |some z,some b=>if 0<z.length then some (.append e z.length b s x fl) else none
      |_,_=>none
     |_=>none
    else none
   |_,_=>none
  | .builtin .len=>match c.args.toList,c.argTypes.toList with
   |[x],[t]=>match P.underlying t with
    |some (.slice _)=>some (.len 0 x)
    |some .string=>some (.len 1 x)
    |some (.map _ _)=>some (.len 2 x)
    |some (.array n _)=>some (.afG n)
    |_=>none
   |_,_=>none
  | .builtin .min=>match c.args.toList with
   |[x,y]=>some (.mm false x y)
   |_=>none
  | .builtin .max=>match c.args.toList with
   |[x,y]=>some (.mm true x y)
   |_=>none
  |_=>none
 | .extract x i=>some (.extract x i)
 | .makeFunc f a b=>match f with
  | .func g=>some (.aeG (.func g) a.toList b.toList)
  |_=>none
 | .makeMap t none=>match P.underlying t with
  |some (.map u _)=>match EG P 20 u,AQ P u with
    |some w,some B=>some (.acK (w,B) fl)
    |_,_=>none
  |_=>none
 | .lookup t x k I=>match P.underlying t with
  |some (.map u E)=>match EG P 20 u,AQ P u,YP P E,AQ P E with
    |some w,some B,some z,some g=>if aiI P E g then some (.lookup z g w B x k I) else none
    |_,_,_,_=>none
  |_=>none
 | .mapUpdate t m k v| .insert t m k v=>match P.underlying t with
  |some (.map u _)=>match EG P 20 u,AQ P u with
    |some w,some B=>some (.adi w B m k v)
    |_,_=>none
  |_=>none
 |_=>none
def akE (a:Nat):Option Nat->Bool
 |none=>true
 |some d=>decide (d<a)
def adt (P:Program) (c:Nat) (fl:List Nat) (a:Array Oper) (dp i:Nat):Option oQ:=
 match a[i]? with
 |none=>none
 |some o=>if akE c o.dst then(aci P (fl.contains i) o).map λb=>⟨i,dp,o.dst,b,o.guard.map λg=>(((a[g.1]?).bind (·.dst)),g.2)⟩ else none
def afJ (P:Program) (b:Nat) (fl:List Nat) (a:Array Oper):Nat->List Nat->Option (List oQ×Nat)
 |k,[]=>some ([],k)
 |k,i::r=>match adt P b fl a k i with
  |none=>none
  |some x=>match afJ P b fl a (if x.op.makes then k+1 else k) r with
   |none=>none
   |some (l,n)=>some (x::l,n)
def akF (acc:List Nat) (s:Nat) (e:Edge):Nat:=if Region.binds .any e then s |||(2^e.on |||acc.getD e.on 0) else s
def abS (b:Array Oper):List Nat:=
 b.toList.foldl (λa o=>a++[o.after.toList.foldl (akF a) 0]) []
def adu (c:List Nat):List oQ->List (Nat×Nat)
 |[]=>[]
 |a::r=>(r.filterMap λb=>if(c.getD b.idx 0).testBit a.idx||agV a b then none else some (a.idx,b.idx))++adu c r
def agY (c:List Nat):List oQ->Bool
 |[]=>true
 |a::r=>r.all (λb=>(c.getD b.idx 0).testBit a.idx||(aiH a b&&(agV a b||akD a b)))&&agY c r
def nodupB:List Nat->Bool
 |[]=>true
 |a::r=>!r.contains a&&nodupB r
def agZ (P:Program) (d:Nat) (H:List RH) (id:Nat) (a:Array Oper) (c:Bool):Option IR:=
 match H.find? (·.id==id) with
 |none=>none
 |some h=>
  if c then
   let b:=if h.perm.isEmpty then Φ a.size else h.perm
   match afJ P d h.flags a 0 b with
   |some (l,k)=>if P.follows .mixedOrders&&b.length==a.size&&nodupB b&&agY (abS a) l&&agW 0 a.toList&&(Φ a.size).all b.contains then some (.region id true k l (adu (abS a) l) h.live h.pre h.post) else none
   |none=>none
  else(afJ P d h.flags a 0 (Φ a.size)).map λ(l,k)=> .region id false k l [] h.live h.pre h.post
def akG:Code->Bool
 | .seq a b| .cond _ a b=>akG a||akG b
 | .block _ b| .loop b| .scope b=>akG b
 | .goto _=>true
 |_=>false
def akH:Code->Option Nat
 | .seq (.label l) c=>if akG c then some l else none
 |_=>none
def asD (H:List RH):Operand->Bool
 | .tmp t=>match H.find? (·.id==999999) with
  |some h=>h.live.contains t
  |none=>false
 |_=>false
def comp (P:Program) (nt:Nat) (H:List RH):Code->Option IR
 | .skip=>some .skip
 | .region id ops draw=>agZ P nt H id ops draw
 | .seq a b=>match comp P nt H a,comp P nt H b with
  |some x,some y=>some (.seq x y)
  |_,_=>none
 | .cond c a b=>match comp P nt H a,comp P nt H b with
  |some x,some y=>some (if asD H c then .abN c x y else .cond c x y)
  |_,_=>none
 | .block id b=>(comp P nt H b).map (.block id)
 | .loop b=>(comp P nt H b).map .loop
 | .exit id=>some (.exit id)
 | .ret=>some .ret
 | .label _=>some .skip
 | .goto l=>some (.goto l)
 | .scope b=>(comp P nt H b).map λx=> .turns (akH b) x
 |_=>none
def akI (h:Array Oper):Option (FuncId×List Operand×Nat):=match h.toList with
 |[f,e]=>match f.dst,f.op,f.guard,e.op,e.dst,e.guard with
  |some d,.makeFunc (.func g) a b,none,.defer c,none,none=>match c.callee with
   | .value (.tmp i)=>if i=d/\a.toList=[]/\c.args.toList=[] then some (g,b.toList,d) else none
   |_=>none
  |_,_,_,_,_,_=>none
 |_=>none
def afK (P:Program) (f:Nat) (H:List RH):Code->Option (IR×(FuncId×List Operand×Nat)×IR)
 | .seq (.region g e d) c=>match akI e,d with
  |some x,false=>if x.2.2<f/\FG P x.1=true then(comp P f H c).map λb=>(.skip,x,b) else none
  |_,_=>match agZ P f H g e d,afK P f H c with
   |some r,some (a,x,b)=>some (.seq r a,x,b)
   |_,_=>none
 |_=>none
def anB (P:Program) (a:Nat) (H:List RH) (c:Code):Option IR:=match comp P a H c with
 |some b=>some b
 |none=>(afK P a H c).map λx=> .dfr x.2.1.1 x.2.1.2.1 x.2.1.2.2 x.1 x.2.2
def ad4 (P:Program):ResultVar->Option aaN
 | .tmp t=>some ⟨t,none⟩
 | .cell a t=>(abR P t).map λn=>⟨a,some n⟩
def akJ (P:Program) (H:List RH) (a:Func):Option zr:=
 match a.body with
 |none=>none
 |some c=>match anB P a.ntmps H c,ads (ad4 P) a.results.toList with
  |some b,some d=>if a.ntmps<a.params.size+a.nfree then none else some ⟨a.params.size+a.nfree,a.ntmps,b,d⟩
  |_,_=>none
end Go.Vi
