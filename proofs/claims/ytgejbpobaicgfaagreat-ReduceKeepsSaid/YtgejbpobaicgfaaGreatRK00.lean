/-
  The abstract interpreter: its values, its small code, and its run. Plain definitions: no proof stands here.
  Conditions: none.
-/
import Derived.Orders
import Derived.RowKit3
set_option maxRecDepth 100000
set_option maxHeartbeats 4000000
set_option linter.all false
namespace Go.Vi
inductive AV where
 |ud
 |sc (v:Value)
 |agg (cs:List AV)
 |eW (cs:List AV)
 |sl (n:Nat) (cs:List AV)
 |ep (cs:List AV) (off:Nat)
 |ptr (id off tot:Nat)
 |os (id off len tot:Nat)
 |mp (id:Nat)
 |fn (f:Fn) (first captured:List AV)
 deriving Inhabited
inductive fZ where
 |dead
 |cells (cs:List AV) (e:TypeId) (sz:Nat) (pu:Bool)
 |map (es:List (Value×AV)) (kt:List Nat×Bool) (pu:Bool)
 deriving Inhabited
def aic:Value:=.slice none 0 0
def AV.qn:AV->AV
 | .sc (.slice none 0 0)=> .sl 0 []
 |v=>v
def sy (pu:Bool) (cs:List AV):List AV:=if pu then cs.map .qn else cs
def AV.cellsOf:AV->List AV
 | .agg cs=>cs
 |v=>[v]
def AV.one:AV->Bool
 | .agg _| .eW _| .ud=>false
 | .sc v=>v.oneCell'
 |_=>true
mutual
def AV.pure:AV->Bool
 | .sc _=>true
 | .sl _ cs=>pZ cs
 |_=>false
def pZ:List AV->Bool
 |[]=>true
 |c::cs=>c.pure&&pZ cs
end
mutual
def AV.ig (k:Nat):AV->Bool
 | .ud=>true
 | .sc _=>true
 | .agg cs=>sf k cs
 | .eW cs=>sf k cs
 | .sl _ _=>true
 | .ep _ _=>true
 | .ptr id _ _=>decide (id<k)
 | .os id _ _ _=>decide (id<k)
 | .mp id=>decide (id<k)
 | .fn _ a b=>sf k a&&sf k b
def sf (k:Nat):List AV->Bool
 |[]=>true
 |c::cs=>c.ig k&&sf k cs
end
def fZ.ig (k:Nat):fZ->Bool
 | .dead=>true
 | .cells cs _ _ pu=>pu||sf k cs
 | .map es _ pu=>pu||sf k (es.map (·.2))
abbrev Store:=List fZ
def fZ.aaB:fZ->Bool
 | .dead=>true
 |_=>false
def SU (ei:Nat) (x:fZ) (o:Store):Option Store:=
 match o[ei]? with
 |some .dead=>some (o.set ei x)
 |_=>none
abbrev Ku:=List (Nat×AV)
def pI:Ku->Nat->AV
 |[],_=> .ud
 |p::r,s=>bif Nat.beq p.1 s then p.2 else pI r s
def abx (env:Ku) (dst:Option Nat) (v:AV):Ku:=
 match dst with
 |none=>env
 |some d=>(d,v)::env
def AV.aff:Value->AV
 | .agg cs=>if cs.toList.all (·.oneCell') then .agg (cs.toList.map .sc) else .ud
 | .tuple _=> .ud
 |v=> .sc v
def s4 (env:Ku):Operand->AV
 | .tmp t=>pI env t
 | .const v=> .aff v
 | .global _=> .ud
 | .func f=> .fn (.func f) [] []
inductive kh where
 |mov (x:Operand)
 |pick (c a b:Operand)
 |alloc (z:List Value) (e:TypeId) (pu:Bool)
 |box (e:TypeId) (x:Operand)
 |build (z:List Value) (parts:List (Nat×Nat×Operand))
 |abZ (z:List Value) (len:Nat) (parts:List (Nat×Operand)) (e:TypeId) (sz:Nat)
 |aes (z:List Value) (len:Nat) (parts:List (Nat×Operand)) (e:TypeId) (sz:Nat)
 |load (n:Option Nat) (a:Operand)
 |store (n:Nat) (a x:Operand)
 |afh (x:Operand)
 |bin (op:BinOp) (x y:Operand)
 |beq (neg:Bool) (x y:Operand)
 |eqf (neg:Bool) (ks:List Nat) (x y:Operand)
 |un (op:UnOp) (x:Operand)
 |conv (k:IntKind) (x:Operand)
 |afi (off:Nat) (x:Operand)
 |field (off:Nat) (n:Option Nat) (x:Operand)
 |afj (len sz:Nat) (x i:Operand)
 |adT (sz:Nat) (x i:Operand)
 |idx (len sz:Nat) (n:Option Nat) (x i:Operand)
 |agv (x i:Operand)
 |acC (z:List Value) (e:TypeId) (sz bytes:Nat) (l c:Operand) (pu:Bool)
 |slice (sz:Nat) (x:Operand) (lo hi:Option Operand)
 |slice3 (sz:Nat) (x:Operand) (lo:Option Operand) (hi mx:Operand)
 |afk (x:Operand) (lo hi:Option Operand)
 |append (e:TypeId) (sz bytes:Nat) (s x:Operand) (pu:Bool)
 |len (k:Nat) (x:Operand)
 |afl (n:Nat)
 |mm (mx:Bool) (x y:Operand)
 |call (f:FuncId) (args:List Operand) (own:Bool)
 |MC (f:Operand) (args:List Operand) (own:Bool)
 |extract (x:Operand) (i:Nat)
 |aeu (f:Fn) (first captured:List Operand)
 |acD (kt:List Nat×Bool) (pu:Bool)
 |lookup (z:List Value) (agg:Bool) (ks:List Nat) (ka:Bool) (x k:Operand) (ok:Bool)
 |ac4 (ks:List Nat) (ka:Bool) (x k v:Operand)
structure og where
 idx:Nat
 ei:Nat
 dst:Option Nat
 op:kh
 guard:Option (Option Nat×Bool)
structure Sm where
 own:Bool
 slot:Nat
 off:Option Nat
 e:TypeId
 sz:Nat
 pu:Bool
inductive IR where
 |skip
 |region (id:Nat) (draw:Bool) (k:Nat) (ops:List og) (Sr:List (Nat×Nat)) (live:List Nat) (pre post:List Sm)
 |seq (a b:IR)
 |cond (c:Operand) (a b:IR)
 |block (id:Nat) (c:IR)
 |loop (c:IR)
 |exit (id:Nat)
 |ret
 |goto (l:Nat)
 |turns (l:Option Nat) (b:IR)
 |aby (c:Operand) (a b:IR)
 |dfr (g:FuncId) (caps:List Operand) (d:Nat) (a b:IR)
structure St where
 env:Ku
 o:Store
def behind (o:Store):AV->Option (List AV×Nat)
 | .ptr id off tot=>match o[id]? with
  |some (.cells cs _ _ _)=>if cs.length=tot then some (cs,off) else none
  |_=>none
 | .ep cs off=>some (cs,off)
 |_=>none
def AX (cs:List AV) (off:Nat):Option Nat->Option AV
 |none=>cs[off]?
 |some n=>if off+n<=cs.length then some (.agg ((cs.drop off).take n)) else none
def Ai (cs:List AV) (off:Nat):List AV->List AV
 |[]=>cs
 |v::vs=>Ai (cs.set off v) (off+1) vs
def s5 (l:List AV):Bool:=l.all (·.one)
def um (k:IntKind) (n:Int):Int:=
 match k with
 | .i64=>if decide (-9223372036854775808<=n)&&decide (n<=9223372036854775807) then n else IntKind.wrap .i64 n
 | .u32=>if decide (0<=n)&&decide (n<=4294967295) then n else IntKind.wrap .u32 n
 | .u64=>if decide (0<=n)&&decide (n<=18446744073709551615) then n else IntKind.wrap .u64 n
 |k=>k.wrap n
def akd (n:Nat):Int:=Int.ofNat (Nat.pow 2 n)
def W2 (op:BinOp) (k:IntKind) (a b:Int):Option Value:=
 match op with
 | .add=>some (.int k (um k (a+b)))
 | .sub=>some (.int k (um k (a - b)))
 | .mul=>some (.int k (um k (a*b)))
 | .quo=>if b=0 then none else some (.int k (um k (a.tdiv b)))
 | .rem=>if b=0 then none else some (.int k (a.tmod b))
 | .and=>some (.int k (um k (BitVec.ofInt k.bits a &&&BitVec.ofInt k.bits b).toNat))
 | .or=>some (.int k (um k (BitVec.ofInt k.bits a |||BitVec.ofInt k.bits b).toNat))
 | .xor=>some (.int k (um k (BitVec.ofInt k.bits a ^^^BitVec.ofInt k.bits b).toNat))
 | .andNot=>some (.int k (um k (BitVec.ofInt k.bits a &&&~~~(BitVec.ofInt k.bits b)).toNat))
 | .eql=>some (.bool (a==b))
 | .neq=>some (.bool (a !=b))
 | .lss=>some (.bool (decide (a<b)))
 | .leq=>some (.bool (decide (a<=b)))
 | .gtr=>some (.bool (decide (b<a)))
 | .geq=>some (.bool (decide (b<=a)))
 |_=>none
def BJ (op:BinOp):Value->Value->Option Value
 | .int k a,.int k' b=>
  match op with
  | .shl=>if b<0 then none else some (.int k (um k (a*akd (min b.toNat k.bits))))
  | .shr=>if b<0 then none else some (.int k (a.fdiv (akd (min b.toNat k.bits))))
  |_=>if k=k' then W2 op k a b else none
 | .string a,.string b=>match op with
  | .eql=>some (.bool (a.toList==b.toList))
  | .neq=>some (.bool (!(a.toList==b.toList)))
  | .add=>if a.size+b.size<=1000000000 then some (.string (a++b)) else none
  |_=>none
 |_,_=>none
def seq1:Value->Value->Option Bool
 | .int k a,.int k' b=>if k=k' then some (a==b) else none
 | .bool a,.bool b=>some (a==b)
 | .string a,.string b=>some (a.toList==b.toList)
 |_,_=>none
def A0:List Value->List Value->Option Bool
 |[],[]=>some true
 |x::xs,y::ys=>match seq1 x y,A0 xs ys with
  |some a,some b=>some (a&&b)
  |_,_=>none
 |_,_=>none
def sV:List Nat->List Value->Bool
 |[],[]=>true
 |0::ks,.int _ _::vs=>sV ks vs
 |1::ks,.bool _::vs=>sV ks vs
 |2::ks,.string _::vs=>sV ks vs
 |_,_=>false
def scs:List AV->Option (List Value)
 |[]=>some []
 | .sc v::r=>(scs r).map (v::·)
 |_=>none
def feq (ks:List Nat) (a b:List AV):Option Bool:=
 match scs a,scs b with
 |some x,some y=>if sV ks x&&sV ks y then A0 x y else none
 |_,_=>none
def unA (op:UnOp):AV->Option AV
 | .sc (.bool b)=>match op with| .not=>some (.sc (.bool !b))|_=>none
 | .sc (.int k n)=>match op with| .neg=>some (.sc (.int k (um k (0 - n))))|_=>none
 |_=>none
def DW:AV->Option Int
 | .sc (.int _ n)=>some n
 |_=>none
def abz (d:Nat):AV->Option AV
 | .ptr id off tot=>some (.ptr id (off+d) tot)
 | .ep cs off=>some (.ep cs (off+d))
 |_=>none
def aaC (o:Store) (sz:Nat):AV->Option (Nat×List AV)
 | .sl n cs=>if cs.length=n*sz then some (n,cs) else none
 | .os id off len tot=>match o[id]? with
  |some (.cells cs _ sz' _)=>if cs.length=tot/\sz'=sz/\off+len*sz<=tot then some (len,(cs.drop off).take (len*sz)) else none
  |_=>none
 | .sc (.slice none 0 0)=>some (0,[])
 |_=>none
def adV (off tot sz:Nat):Nat:=if Nat.ble off tot then off else off - tot - sz
def acE (o:Store) (sz:Nat) (x:AV) (i:Int):Option AV:=
 match x with
 | .sl n cs=>if 0<=i/\i<n/\cs.length=n*sz then some (.ep cs (i.toNat*sz)) else none
 | .os id off len tot=>match o[id]? with
  |some (.cells cs _ sz' _)=>if cs.length=tot/\sz'=sz/\0<=i/\i<len/\adV off tot sz+len*sz<=tot then some (.ptr id (adV off tot sz+i.toNat*sz) tot) else none
  |_=>none
 |_=>none
def W7 (o:Store):Nat->AV->Option Nat
 |0,.sl n _=>some n
 |0,.os _ _ len _=>some len
 |0,.sc (.slice _ n _)=>some n
 |1,.sc (.string s)=>some s.size
 |2,.mp id=>match o[id]? with
  |some (.map es _ _)=>some es.length
  |_=>none
 |_,_=>none
def acF (e:TypeId) (sz a:Nat) (pu:Bool) (s x:AV) (o:Store) (ei:Nat):Option (AV×Store):=
 match aaC o sz x with
 |none=>none
 |some (m,b)=>
  if s5 b=false then none else
  match s with
  | .sc (.slice none 0 0)=>
   if m=0 then some (.sc aic,o)
   else if m*a<=140737488355328/\m<=1000000000000/\(pu=false\/pZ b=true) then(SU ei (.cells b e sz pu) o).map fun k=>(.os ei 0 m (m*sz),k) else none
  | .os h 0 c d=>match o[h]? with
   |some (.cells g j i f)=>
    if g.length=d/\j=e/\i=sz/\c*sz=d/\(c+m)*a<=140737488355328/\c+m<=1000000000000/\(f=false\/pZ b=true)
    then some (.os h 0 (c+m) (d+m*sz),o.set h (.cells (g++b) e sz f)) else none
   |_=>none
  | .sl n g=>if m=0 then some (.sl n g,o) else none
  |_=>none
def DX (d:Nat):Option AV->Option Nat
 |none=>some d
 |some (.sc (.int _ n))=>if 0<=n then some n.toNat else none
 |_=>none
def acG (o:Store) (sz:Nat) (x:AV) (lo hi:Option AV):Option AV:=
 match x with
 | .sl n cs=>match DX 0 lo,DX n hi with
  |some l,some h=>if l<=h/\h<=n/\cs.length=n*sz then some (.sl (h - l) ((cs.drop (l*sz)).take ((h - l)*sz))) else none
  |_,_=>none
 | .os id off len tot=>match DX 0 lo,DX len hi with
  |some l,some h=>match o[id]? with
   |some (.cells cs _ sz' _)=>if l<=h/\h<=len/\cs.length=tot/\sz'=sz then some (.os id (off+l*sz) (h - l) tot) else none
   |_=>none
  |_,_=>none
 | .sc (.slice none 0 0)=>match DX 0 lo,DX 0 hi with
  |some 0,some 0=>some (.sc aic)
  |_,_=>none
 |_=>none
def adW (o:Store) (sz:Nat) (x:AV) (lo:Option AV) (hi mx:AV):Option AV:=
 match x with
 | .sl n cs=>match DX 0 lo,DX n (some hi),DX n (some mx) with
  |some l,some h,some m=>if l<=h/\h<=m/\m<=n/\cs.length=n*sz then some (.sl (h - l) ((cs.drop (l*sz)).take ((h - l)*sz))) else none
  |_,_,_=>none
 | .os id off len tot=>match DX 0 lo,DX len (some hi),DX len (some mx) with
  |some l,some h,some m=>match o[id]? with
   |some (.cells cs _ sz' _)=>if l<=h/\h<=m/\m<=len/\cs.length=tot/\sz'=sz/\off+len*sz<=tot/\0<sz then some (.os id (off+l*sz+(tot+sz)) (h - l) tot) else none
   |_=>none
  |_,_,_=>none
 |_=>none
def Xh (ks:List Nat) (ka:Bool):AV->Option Value
 | .sc v=>if !ka&&sV ks [v] then some v else none
 | .agg cs=>match scs cs with
  |some vs=>if ka&&sV ks vs then some (.agg vs.toArray) else none
  |none=>none
 |_=>none
def keq:Value->Value->Option Bool
 | .agg a,.agg b=>A0 a.toList b.toList
 | .agg _,_=>none
 |_,.agg _=>none
 |a,b=>seq1 a b
def aa7 (k:Value):List (Value×AV)->Nat->Option (Option (Nat×AV))
 |[],_=>some none
 |e::es,i=>match keq k e.1 with
  |some true=>some (some (i,e.2))
  |some false=>aa7 k es (i+1)
  |none=>none
def ac5 (z:List Value) (agg:Bool):Option AV:=
 if agg then some (.agg (z.map .sc)) else match z with
  |[v]=>some (.sc v)
  |_=>none
def freeze (o:Store):Nat->AV->Option AV
 |_,.ud=>some .ud
 |_,.sc v=>match v with
  | .slice none 0 0=>some (.sl 0 [])
  |v=>some (.sc v)
 |_,.sl n cs=>some (.sl n cs)
 |d+1,.agg cs=>(cs.mapM (freeze o d)).map .agg
 |d+1,.eW cs=>(cs.mapM (freeze o d)).map .eW
 |d+1,.fn f a b=>match a.mapM (freeze o d),b.mapM (freeze o d) with
  |some a',some b'=>some (.fn f a' b')
  |_,_=>none
 |d+1,.os id off len tot=>match o[id]? with
  |some (.cells cs _ sz pu)=>
   if cs.length=tot/\off+len*sz<=tot then
    if pu then some (.sl len ((cs.drop off).take (len*sz)))
    else match((cs.drop off).take (len*sz)).mapM (freeze o d) with
     |some cs'=>if pZ cs' then some (.sl len cs') else none
     |none=>none
   else none
  |_=>none
 |_,_=>none
mutual
def AV.ren (m:Nat->Option Nat):AV->Option AV
 | .ud=>some .ud
 | .sc v=>some (.sc v)
 | .sl n cs=>some (.sl n cs)
 | .ep cs off=>some (.ep cs off)
 | .agg cs=>(J1 m cs).map .agg
 | .eW cs=>(J1 m cs).map .eW
 | .ptr id off tot=>(m id).map fun i=> .ptr i off tot
 | .os id off len tot=>(m id).map fun i=> .os i off len tot
 | .mp id=>(m id).map .mp
 | .fn f a b=>match J1 m a,J1 m b with
  |some a',some b'=>some (.fn f a' b')
  |_,_=>none
def J1 (m:Nat->Option Nat):List AV->Option (List AV)
 |[]=>some []
 |c::cs=>match c.ren m,J1 m cs with
  |some c',some cs'=>some (c'::cs')
  |_,_=>none
end
def abA (m:Nat->Option Nat):List (Value×AV)->Option (List (Value×AV))
 |[]=>some []
 |e::es=>match e.2.ren m,abA m es with
  |some v,some es'=>some ((e.1,v)::es')
  |_,_=>none
def fZ.ren (m:Nat->Option Nat):fZ->Option fZ
 | .dead=>some .dead
 | .cells cs e sz pu=>if pu then some (.cells cs e sz pu) else(J1 m cs).map fun cs'=> .cells cs' e sz pu
 | .map es kt pu=>if pu then some (.map es kt pu) else(abA m es).map fun es'=> .map es' kt pu
def idxOf (ids:List Nat) (i:Nat) (k:Nat:=0):Option Nat:=
 match ids with
 |[]=>none
 |j::r=>if j==i then some k else idxOf r i (k+1)
def kD (o:Store):Nat->List AV->List Nat->List Nat
 |0,_,acc=>acc
 |_,[],acc=>acc
 |d+1,v::vs,acc=>
  let visit (id:Nat) (acc:List Nat):List Nat:=
   if acc.contains id then acc else
   match o[id]? with
   |some (.cells cs _ _ pu)=>if pu then acc++[id] else kD o d cs (acc++[id])
   |some (.map es _ pu)=>if pu then acc++[id] else kD o d (es.map (·.2)) (acc++[id])
   |_=>acc++[id]
  let acc':=match v with
   | .agg cs| .eW cs=>kD o d cs acc
   | .ptr id _ _| .os id _ _ _| .mp id=>visit id acc
   | .fn _ a b=>kD o d b (kD o d a acc)
   |_=>acc
  kD o d vs acc'
def zd:Nat:=400
def S0 (o:Store) (ids:List Nat):List Nat->Option Store
 |[]=>some []
 |i::r=>match o[i]?,S0 o ids r with
  |some x,some l=>(x.ren (fun j=>idxOf ids j)).map (·::l)
  |_,_=>none
def abB (ids:List Nat) (n i:Nat):Option Nat:=
 match ids[i]? with
 |some j=>some j
 |none=>some (n+(i - ids.length))
def adX (m:Nat->Option Nat):Store->Option Store
 |[]=>some []
 |x::r=>match x.ren m,adX m r with
  |some y,some l=>some (y::l)
  |_,_=>none
def XL (o:Store):List Nat->Store->Store
 |[],_=>o
 |_,[]=>o
 |i::r,x::l=>XL (o.set i x) r l
abbrev lU:=FuncId->List AV->Store->Bool->Option (AV×Store)
def Hh (call:lU) (f:FuncId) (args:List AV) (o:Store):Option (AV×Store):=
 let ids:=kD o zd args []
 match J1 (fun j=>idxOf ids j) args,S0 o ids ids with
 |some args',some small=>match call f args' small true with
  |some (r,arN)=>
   if arN.length<ids.length\/ab0 ids=false then none else
   match r.ren (abB ids o.length),adX (abB ids o.length) arN with
   |some r',some big=>some (r',XL o ids (big.take ids.length)++big.drop ids.length)
   |_,_=>none
  |none=>none
 |_,_=>none
where ab0:List Nat->Bool
 |[]=>true
 |a::r=>!r.contains a&&ab0 r
mutual
def AV.S1:AV->Bool
 | .ud| .sc _=>true
 | .agg cs| .eW cs=>afm cs
 | .sl _ cs=>cs.isEmpty
 |_=>false
def afm:List AV->Bool
 |[]=>true
 |c::cs=>c.S1&&afm cs
end
def x7 (o:Store):Nat->AV->List Nat
 |d+1,.agg cs=>cs.flatMap (x7 o d)
 |d+1,.eW cs=>cs.flatMap (x7 o d)
 |d+1,.fn _ a b=>a.flatMap (x7 o d)++b.flatMap (x7 o d)
 |d+1,.os id off len _=>id::(match o[id]? with
  |some (.cells cs _ sz pu)=>if pu then[] else((cs.drop off).take (len*sz)).flatMap (x7 o d)
  |_=>[])
 |_,_=>[]
def Gj (call:lU) (f:FuncId) (args:List AV) (o:Store) (own:Bool):Option (AV×Store):=
 if own then Hh call f args o
 else match args.mapM (freeze o 6) with
  |none=>none
  |some args'=>match call f args' [] false with
   |some (r,[])=>if(args.flatMap (x7 o 6)).isEmpty||r.S1 then some (r,o) else none
   |_=>none
def Xm (parts:List (Nat×Nat×AV)) (cs:List AV):Option (List AV):=
 match parts with
 |[]=>some cs
 |(off,n,v)::rest=>
  if v.cellsOf.length=n/\s5 v.cellsOf=true/\off+n<=cs.length then Xm rest (Ai cs off v.cellsOf) else none
def fi (call:lU) (P:kh) (ρ:Operand->AV) (o:Store) (ei:Nat):Option (AV×Store):=
 match P with
 | .mov x=>some (ρ x,o)
 | .pick c a b=>match ρ c with
  | .sc (.bool true)=>some (ρ a,o)
  | .sc (.bool false)=>some (ρ b,o)
  |_=>none
 | .alloc z e A=>(SU ei (.cells (z.map .sc) e z.length A) o).map fun E=>(.ptr ei 0 z.length,E)
 | .box e x=>if s5 (ρ x).cellsOf then(SU ei (.cells (ρ x).cellsOf e (ρ x).cellsOf.length false) o).map fun E=>(.ptr ei 0 (ρ x).cellsOf.length,E) else none
 | .build z j=>(Xm (j.map fun p=>(p.1,p.2.1,ρ p.2.2)) (z.map .sc)).map fun u=>(.agg u,o)
 | .abZ z t j e q=>
  match Xm (j.map fun p=>(p.1,q,ρ p.2)) ((List.replicate t (z.map AV.sc)).flatten) with
  |some u=>(SU ei (.cells (sy (pZ u) u) e q (pZ u)) o).map fun E=>(.os ei 0 t (t*q),E)
  |none=>none
 | .aes z t j _ q=>
  match Xm (j.map fun p=>(p.1,q,ρ p.2)) ((List.replicate t (z.map AV.sc)).flatten) with
  |some u=>if pZ u=true then some (.sl t (sy true u),o) else none
  |none=>none
 | .load n a=>match behind o (ρ a) with
  |some (u,w)=>(AX u w n).map (·,o)
  |none=>none
 | .store n a x=>match ρ a with
  | .ptr F w Q=>match o[F]? with
   |some (.cells u e q A)=>
    let v:=(ρ x).cellsOf
    if u.length=Q/\v.length=n/\s5 v=true/\w+n<=u.length/\(A=false\/pZ v=true) then some (.ud,o.set F (.cells (Ai u w (sy A v)) e q A)) else none
   |_=>none
  |_=>none
 | .afh x=>match ρ x with
  | .ptr a b c=>some (.ptr a b c,o)
  | .ep a b=>some (.ep a b,o)
  |_=>none
 | .bin P x y=>match ρ x,ρ y with
  | .sc a,.sc b=>(BJ P a b).map fun v=>(.sc v,o)
  |_,_=>none
 | .beq H x y=>match ρ x,ρ y with
  | .sc (.bool a),.sc (.bool b)=>some (.sc (.bool (if H then !(a==b) else a==b)),o)
  |_,_=>none
 | .eqf H G x y=>match ρ x,ρ y with
  | .agg a,.agg b=>(feq G a b).map fun r=>(.sc (.bool (if H then !r else r)),o)
  |_,_=>none
 | .un P x=>(unA P (ρ x)).map (·,o)
 | .conv k x=>match ρ x with
  | .sc (.int _ n)=>some (.sc (.int k (um k n)),o)
  |_=>none
 | .afi w x=>(abz w (ρ x)).map (·,o)
 | .field w n x=>match ρ x with
  | .agg u=>(AX u w n).map (·,o)
  |_=>none
 | .afj t q x i=>match DW (ρ i) with
  |some n=>if 0<=n/\n<t then(abz (n.toNat*q) (ρ x)).map (·,o) else none
  |none=>none
 | .adT q x i=>match DW (ρ i) with
  |some n=>(acE o q (ρ x) n).map (·,o)
  |none=>none
 | .idx t q n x i=>match DW (ρ i),ρ x with
  |some k,.agg u=>if 0<=k/\k<t then(AX u (k.toNat*q) n).map (·,o) else none
  |_,_=>none
 | .agv x i=>match DW (ρ i),ρ x with
  |some k,.sc (.string s)=>if 0<=k then(s[k.toNat]?).map fun b=>(.sc (.int .u8 b.toNat),o) else none
  |_,_=>none
 | .acC z e q B l c A=>match DW (ρ l),DW (ρ c) with
  |some n,some m=>if 0<=n/\n<=m/\m*B<=140737488355328/\m<=1000000000000 then
    (SU ei (.cells ((List.replicate n.toNat (sy A (z.map AV.sc))).flatten) e q A) o).map fun E=>(.os ei 0 n.toNat (n.toNat*q),E) else none
  |_,_=>none
 | .slice q x O L=>(acG o q (ρ x) (O.map ρ) (L.map ρ)).map (·,o)
 | .slice3 q x O L R=>(adW o q (ρ x) (O.map ρ) (ρ L) (ρ R)).map (·,o)
 | .afk x O L=>match ρ x with
  | .sc (.string s)=>match DX 0 (O.map ρ),DX s.size (L.map ρ) with
   |some l,some h=>if l<=h/\h<=s.size then some (.sc (.string (s.extract l h)),o) else none
   |_,_=>none
  |_=>none
 | .append e q B s x A=>acF e q B A (ρ s) (ρ x) o ei
 | .len k x=>(W7 o k (ρ x)).map fun(n:Nat)=>(.sc (.int .i64 n),o)
 | .afl n=>some (.sc (.int .i64 n),o)
 | .mm R x y=>match ρ x,ρ y with
  | .sc (.int k a),.sc (.int V b)=>if k=V then some (.sc (.int k (if R then(if b>a then b else a) else(if b<a then b else a))),o) else none
  |_,_=>none
 | .call f D J=>Gj call f (D.map ρ) o J
 | .MC f D J=>match ρ f with
  | .fn (.func g) C d=>Gj call g (C++D.map ρ++d) o J
  |_=>none
 | .extract x i=>match ρ x with
  | .eW U=>(U[i]?).map (·,o)
  |_=>none
 | .aeu f C d=>some (.fn f (C.map ρ) (d.map ρ),o)
 | .acD I A=>(SU ei (.map [] I A) o).map fun E=>(.mp ei,E)
 | .lookup z S G N x k T=>match ρ x,Xh G N (ρ k) with
  | .mp F,some M=>match o[F]? with
   |some (.map K I _)=>if I=(G,N) then match aa7 M K 0,ac5 z S with
    |some (some (_,v)),_=>some (if T then .eW [v,.sc (.bool true)] else v,o)
    |some none,some v=>some (if T then .eW [v,.sc (.bool false)] else v,o)
    |_,_=>none
    else none
   |_=>none
  |_,_=>none
 | .ac4 G N x k v=>match ρ x,Xh G N (ρ k) with
  | .mp F,some M=>match o[F]? with
   |some (.map K I A)=>
    if(A=true/\(ρ v).pure=false)\/I≠(G,N) then none else
    match aa7 M K 0 with
    |some (some (i,_))=>some (.ud,o.set F (.map (K.modify i fun _=>(M,ρ v)) I A))
    |some none=>some (.ud,o.set F (.map (K++[(M,ρ v)]) I A))
    |none=>none
   |_=>none
  |_,_=>none
def ayv (x:Operand) (_call:lU) (ρ:Operand->AV) (o:Store) (_nid:Nat):Option (AV×Store):=some (ρ x,o)
def ayw (c:Operand) (a:Operand) (b:Operand) (_call:lU) (ρ:Operand->AV) (o:Store) (_nid:Nat):Option (AV×Store):=match ρ c with
  | .sc (.bool true)=>some (ρ a,o)
  | .sc (.bool false)=>some (ρ b,o)
  |_=>none
def ayx (z:List Value) (e:TypeId) (pu:Bool) (_call:lU) (_ρ:Operand->AV) (o:Store) (ei:Nat):Option (AV×Store):=(SU ei (.cells (z.map .sc) e z.length pu) o).map fun o'=>(.ptr ei 0 z.length,o')
def ayy (e:TypeId) (x:Operand) (_call:lU) (ρ:Operand->AV) (o:Store) (ei:Nat):Option (AV×Store):=if s5 (ρ x).cellsOf then(SU ei (.cells (ρ x).cellsOf e (ρ x).cellsOf.length false) o).map fun o'=>(.ptr ei 0 (ρ x).cellsOf.length,o') else none
def ayz (z:List Value) (parts:List (Nat×Nat×Operand)) (_call:lU) (ρ:Operand->AV) (o:Store) (_nid:Nat):Option (AV×Store):=(Xm (parts.map fun p=>(p.1,p.2.1,ρ p.2.2)) (z.map .sc)).map fun cs=>(.agg cs,o)
def ayA (z:List Value) (len:Nat) (parts:List (Nat×Operand)) (e:TypeId) (sz:Nat) (_call:lU) (ρ:Operand->AV) (o:Store) (ei:Nat):Option (AV×Store):=
  match Xm (parts.map fun p=>(p.1,sz,ρ p.2)) ((List.replicate len (z.map AV.sc)).flatten) with
  |some cs=>(SU ei (.cells (sy (pZ cs) cs) e sz (pZ cs)) o).map fun o'=>(.os ei 0 len (len*sz),o')
  |none=>none
def ayB (z:List Value) (len:Nat) (parts:List (Nat×Operand)) (_a3:TypeId) (sz:Nat) (_call:lU) (ρ:Operand->AV) (o:Store) (_nid:Nat):Option (AV×Store):=
  match Xm (parts.map fun p=>(p.1,sz,ρ p.2)) ((List.replicate len (z.map AV.sc)).flatten) with
  |some cs=>if pZ cs=true then some (.sl len (sy true cs),o) else none
  |none=>none
def ayC (n:Option Nat) (a:Operand) (_call:lU) (ρ:Operand->AV) (o:Store) (_nid:Nat):Option (AV×Store):=match behind o (ρ a) with
  |some (cs,off)=>(AX cs off n).map (·,o)
  |none=>none
def ayD (n:Nat) (a:Operand) (x:Operand) (_call:lU) (ρ:Operand->AV) (o:Store) (_nid:Nat):Option (AV×Store):=match ρ a with
  | .ptr id off tot=>match o[id]? with
   |some (.cells cs e sz pu)=>
    let v:=(ρ x).cellsOf
    if cs.length=tot/\v.length=n/\s5 v=true/\off+n<=cs.length/\(pu=false\/pZ v=true) then some (.ud,o.set id (.cells (Ai cs off (sy pu v)) e sz pu)) else none
   |_=>none
  |_=>none
def ayE (x:Operand) (_call:lU) (ρ:Operand->AV) (o:Store) (_nid:Nat):Option (AV×Store):=match ρ x with
  | .ptr a b c=>some (.ptr a b c,o)
  | .ep a b=>some (.ep a b,o)
  |_=>none
def ayF (op:BinOp) (x:Operand) (y:Operand) (_call:lU) (ρ:Operand->AV) (o:Store) (_nid:Nat):Option (AV×Store):=match ρ x,ρ y with
  | .sc a,.sc b=>(BJ op a b).map fun v=>(.sc v,o)
  |_,_=>none
def ayG (neg:Bool) (x:Operand) (y:Operand) (_call:lU) (ρ:Operand->AV) (o:Store) (_nid:Nat):Option (AV×Store):=match ρ x,ρ y with
  | .sc (.bool a),.sc (.bool b)=>some (.sc (.bool (if neg then !(a==b) else a==b)),o)
  |_,_=>none
def ayH (neg:Bool) (ks:List Nat) (x:Operand) (y:Operand) (_call:lU) (ρ:Operand->AV) (o:Store) (_nid:Nat):Option (AV×Store):=match ρ x,ρ y with
  | .agg a,.agg b=>(feq ks a b).map fun r=>(.sc (.bool (if neg then !r else r)),o)
  |_,_=>none
def ayI (op:UnOp) (x:Operand) (_call:lU) (ρ:Operand->AV) (o:Store) (_nid:Nat):Option (AV×Store):=(unA op (ρ x)).map (·,o)
def ayJ (k:IntKind) (x:Operand) (_call:lU) (ρ:Operand->AV) (o:Store) (_nid:Nat):Option (AV×Store):=match ρ x with
  | .sc (.int _ n)=>some (.sc (.int k (um k n)),o)
  |_=>none
def ayK (off:Nat) (x:Operand) (_call:lU) (ρ:Operand->AV) (o:Store) (_nid:Nat):Option (AV×Store):=(abz off (ρ x)).map (·,o)
def ayL (off:Nat) (n:Option Nat) (x:Operand) (_call:lU) (ρ:Operand->AV) (o:Store) (_nid:Nat):Option (AV×Store):=match ρ x with
  | .agg cs=>(AX cs off n).map (·,o)
  |_=>none
def ayM (len:Nat) (sz:Nat) (x:Operand) (i:Operand) (_call:lU) (ρ:Operand->AV) (o:Store) (_nid:Nat):Option (AV×Store):=match DW (ρ i) with
  |some n=>if 0<=n/\n<len then(abz (n.toNat*sz) (ρ x)).map (·,o) else none
  |none=>none
def ayN (sz:Nat) (x:Operand) (i:Operand) (_call:lU) (ρ:Operand->AV) (o:Store) (_nid:Nat):Option (AV×Store):=match DW (ρ i) with
  |some n=>(acE o sz (ρ x) n).map (·,o)
  |none=>none
def ayO (len:Nat) (sz:Nat) (n:Option Nat) (x:Operand) (i:Operand) (_call:lU) (ρ:Operand->AV) (o:Store) (_nid:Nat):Option (AV×Store):=match DW (ρ i),ρ x with
  |some k,.agg cs=>if 0<=k/\k<len then(AX cs (k.toNat*sz) n).map (·,o) else none
  |_,_=>none
def ayP (x:Operand) (i:Operand) (_call:lU) (ρ:Operand->AV) (o:Store) (_nid:Nat):Option (AV×Store):=match DW (ρ i),ρ x with
  |some k,.sc (.string s)=>if 0<=k then(s[k.toNat]?).map fun b=>(.sc (.int .u8 b.toNat),o) else none
  |_,_=>none
def ayQ (z:List Value) (e:TypeId) (sz:Nat) (a:Nat) (l:Operand) (c:Operand) (pu:Bool) (b:lU) (ρ:Operand->AV) (o:Store) (ei:Nat):Option (AV×Store):=match DW (ρ l),DW (ρ c) with
  |some n,some m=>if 0<=n/\n<=m/\m*a<=140737488355328/\m<=1000000000000 then
    (SU ei (.cells ((List.replicate n.toNat (sy pu (z.map AV.sc))).flatten) e sz pu) o).map fun d=>(.os ei 0 n.toNat (n.toNat*sz),d) else none
  |_,_=>none
def ayR (sz:Nat) (x:Operand) (lo:Option Operand) (hi:Option Operand) (_call:lU) (ρ:Operand->AV) (o:Store) (_nid:Nat):Option (AV×Store):=(acG o sz (ρ x) (lo.map ρ) (hi.map ρ)).map (·,o)
def ayS (sz:Nat) (x:Operand) (lo:Option Operand) (hi:Operand) (mx:Operand) (_call:lU) (ρ:Operand->AV) (o:Store) (_nid:Nat):Option (AV×Store):=(adW o sz (ρ x) (lo.map ρ) (ρ hi) (ρ mx)).map (·,o)
def ayT (x:Operand) (lo:Option Operand) (hi:Option Operand) (_call:lU) (ρ:Operand->AV) (o:Store) (_nid:Nat):Option (AV×Store):=match ρ x with
  | .sc (.string s)=>match DX 0 (lo.map ρ),DX s.size (hi.map ρ) with
   |some l,some h=>if l<=h/\h<=s.size then some (.sc (.string (s.extract l h)),o) else none
   |_,_=>none
  |_=>none
def ayU (e:TypeId) (sz:Nat) (a:Nat) (s:Operand) (x:Operand) (pu:Bool) (b:lU) (ρ:Operand->AV) (o:Store) (ei:Nat):Option (AV×Store):=acF e sz a pu (ρ s) (ρ x) o ei
def ayV (k:Nat) (x:Operand) (_call:lU) (ρ:Operand->AV) (o:Store) (_nid:Nat):Option (AV×Store):=(W7 o k (ρ x)).map fun(n:Nat)=>(.sc (.int .i64 n),o)
def ayW (n:Nat) (_call:lU) (_ρ:Operand->AV) (o:Store) (_nid:Nat):Option (AV×Store):=some (.sc (.int .i64 n),o)
def ayX (mx:Bool) (x:Operand) (y:Operand) (_call:lU) (ρ:Operand->AV) (o:Store) (_nid:Nat):Option (AV×Store):=match ρ x,ρ y with
  | .sc (.int k a),.sc (.int k' b)=>if k=k' then some (.sc (.int k (if mx then(if b>a then b else a) else(if b<a then b else a))),o) else none
  |_,_=>none
def ayY (f:FuncId) (args:List Operand) (own:Bool) (call:lU) (ρ:Operand->AV) (o:Store) (_nid:Nat):Option (AV×Store):=Gj call f (args.map ρ) o own
def arO (f:Operand) (args:List Operand) (own:Bool) (call:lU) (ρ:Operand->AV) (o:Store) (_nid:Nat):Option (AV×Store):=match ρ f with
  | .fn (.func g) first captured=>Gj call g (first++args.map ρ++captured) o own
  |_=>none
def ayZ (x:Operand) (i:Nat) (_call:lU) (ρ:Operand->AV) (o:Store) (_nid:Nat):Option (AV×Store):=match ρ x with
  | .eW vs=>(vs[i]?).map (·,o)
  |_=>none
def ay0 (f:Fn) (first:List Operand) (captured:List Operand) (_call:lU) (ρ:Operand->AV) (o:Store) (_nid:Nat):Option (AV×Store):=some (.fn f (first.map ρ) (captured.map ρ),o)
def ay1 (kt:List Nat×Bool) (pu:Bool) (_call:lU) (_ρ:Operand->AV) (o:Store) (ei:Nat):Option (AV×Store):=(SU ei (.map [] kt pu) o).map fun o'=>(.mp ei,o')
def ay2 (z:List Value) (agg:Bool) (ks:List Nat) (ka:Bool) (x:Operand) (k:Operand) (ok:Bool) (_call:lU) (ρ:Operand->AV) (o:Store) (_nid:Nat):Option (AV×Store):=match ρ x,Xh ks ka (ρ k) with
  | .mp id,some kv=>match o[id]? with
   |some (.map es kt _)=>if kt=(ks,ka) then match aa7 kv es 0,ac5 z agg with
    |some (some (_,v)),_=>some (if ok then .eW [v,.sc (.bool true)] else v,o)
    |some none,some v=>some (if ok then .eW [v,.sc (.bool false)] else v,o)
    |_,_=>none
    else none
   |_=>none
  |_,_=>none
def ay3 (ks:List Nat) (ka:Bool) (x:Operand) (k:Operand) (v:Operand) (_call:lU) (ρ:Operand->AV) (o:Store) (_nid:Nat):Option (AV×Store):=match ρ x,Xh ks ka (ρ k) with
  | .mp id,some kv=>match o[id]? with
   |some (.map es kt pu)=>
    if(pu=true/\(ρ v).pure=false)\/kt≠(ks,ka) then none else
    match aa7 kv es 0 with
    |some (some (i,_))=>some (.ud,o.set id (.map (es.modify i fun _=>(kv,ρ v)) kt pu))
    |some none=>some (.ud,o.set id (.map (es++[(kv,ρ v)]) kt pu))
    |none=>none
   |_=>none
  |_,_=>none
def arP (A:kh):lU->(Operand->AV)->Store->Nat->Option (AV×Store):=
 match A with
 | .mov x=>ayv x
 | .pick c a b=>ayw c a b
 | .alloc z e p=>ayx z e p
 | .box e x=>ayy e x
 | .build z d=>ayz z d
 | .abZ z h d e g=>ayA z h d e g
 | .aes z h d I g=>ayB z h d I g
 | .load n a=>ayC n a
 | .store n a x=>ayD n a x
 | .afh x=>ayE x
 | .bin A x y=>ayF A x y
 | .beq r x y=>ayG r x y
 | .eqf r w x y=>ayH r w x y
 | .un A x=>ayI A x
 | .conv k x=>ayJ k x
 | .afi u x=>ayK u x
 | .field u n x=>ayL u n x
 | .afj h g x i=>ayM h g x i
 | .adT g x i=>ayN g x i
 | .idx h g n x i=>ayO h g n x i
 | .agv x i=>ayP x i
 | .acC z e g j l c p=>ayQ z e g j l c p
 | .slice g x B C=>ayR g x B C
 | .slice3 g x B C F=>ayS g x B C F
 | .afk x B C=>ayT x B C
 | .append e g j s x p=>ayU e g j s x p
 | .len k x=>ayV k x
 | .afl n=>ayW n
 | .mm F x y=>ayX F x y
 | .call f o q=>ayY f o q
 | .MC f o q=>arO f o q
 | .extract x i=>ayZ x i
 | .aeu f t m=>ay0 f t m
 | .acD G p=>ay1 G p
 | .lookup z D w E x k H=>ay2 z D w E x k H
 | .ac4 w E x k v=>ay3 w E x k v
def eff (call:lU) (op:kh) (ρ:Operand->AV) (o:Store) (ei:Nat):Option (AV×Store):=arP op call ρ o ei
theorem aif (call:lU) (a:kh) (ρ:Operand->AV) (o:Store) (ei:Nat):eff call a ρ o ei=fi call a ρ o ei:=by
 cases a<;>rfl
def Zo (env:Ku) (g:Option (Option Nat×Bool)):Option Bool:=
 match g with
 |none=>some true
 |some (none,_)=>none
 |some (some s,b)=>match pI env s with
  | .sc (.bool c)=>some (c==b)
  | .eW []=>some false
  |_=>none
def EE (call:lU) (base:Nat) (i:og) (st:St):Option St:=
 match Zo st.env i.guard with
 |none=>none
 |some false=>some ⟨abx st.env i.dst (.eW []),st.o⟩
 |some true=>match eff call i.op (s4 st.env) st.o (base+i.ei) with
  |some (v,o')=>some ⟨abx st.env i.dst v,o'⟩
  |none=>none
def An (call:lU) (base:Nat):List og->St->Option St
 |[],st=>some st
 |i::r,st=>match EE call base i st with
  |some st'=>An call base r st'
  |none=>none
def vx:AV->List Nat
 | .ptr id _ _=>[id]
 | .os id _ _ _=>[id]
 | .mp id=>[id]
 |_=>[]
def qq (op:kh) (ρ:Operand->AV) (o:Store) (ei:Nat):List Nat:=
 match op with
 | .load _ a=>vx (ρ a)
 | .adT _ x _=>vx (ρ x)
 | .slice _ x _ _=>vx (ρ x)
 | .slice3 _ x _ _ _=>vx (ρ x)
 | .len _ x=>vx (ρ x)
 | .lookup _ _ _ _ x _ _=>vx (ρ x)
 | .call _ args false=>(args.map ρ).flatMap (x7 o 6)
 | .MC f args false=>match ρ f with
  | .fn _ first captured=>(first++args.map ρ++captured).flatMap (x7 o 6)
  |_=>[]
 | .call _ args true=>kD o zd (args.map ρ) []
 | .MC f args true=>match ρ f with
  | .fn _ first captured=>kD o zd (first++args.map ρ++captured) []
  |_=>[]
 | .alloc .. | .box .. | .abZ .. | .acC .. | .acD .. =>[ei]
 | .store _ a _=>vx (ρ a)
 | .append _ _ _ s x _=>ei::(vx (ρ s)++vx (ρ x))
 | .ac4 _ _ x _ _=>vx (ρ x)
 |_=>[]
def wrt (op:kh) (ρ:Operand->AV) (o:Store) (ei:Nat):List Nat:=
 match op with
 | .alloc .. | .box .. | .abZ .. | .acC .. | .acD .. =>[ei]
 | .store _ a _=>vx (ρ a)
 | .append _ _ _ s _ _=>ei::vx (ρ s)
 | .call _ args true=>kD o zd (args.map ρ) []
 | .MC f args true=>match ρ f with
  | .fn _ first captured=>kD o zd (first++args.map ρ++captured) []
  |_=>[]
 | .ac4 _ _ x _ _=>vx (ρ x)
 |_=>[]
open Classical in
noncomputable def sX (call:lU) (op:kh) (ρ:Operand->AV) (o:Store) (ei:Nat):List Nat:=
 match op with
 | .call f args true=>match Hh call f (args.map ρ) o with
  |some (_,o')=>(kD o zd (args.map ρ) []).filter fun j=>decide (o'[j]?≠o[j]?)
  |none=>[]
 |op=>wrt op ρ o ei
abbrev Trace:=List (Nat×List Nat×List Nat)
noncomputable def Zp (call:lU) (base:Nat):List og->St->Trace
 |[],_=>[]
 |i::r,st=>(match Zo st.env i.guard with
   |some true=>(i.idx,qq i.op (s4 st.env) st.o (base+i.ei),sX call i.op (s4 st.env) st.o (base+i.ei))
   |_=>(i.idx,[],[]))::match EE call base i st with
  |some st'=>Zp call base r st'
  |none=>[]
def agx (a b:List Nat):Bool:=a.all fun x=>!b.contains x
def acH (tr:Trace) (i:Nat):List Nat×List Nat:=
 match tr with
 |[]=>([],[])
 |(j,x)::r=>if j==i then x else acH r i
def aew (n:Nat) (tr:Trace) (Sr:List (Nat×Nat)):Bool:=
 Sr.all fun p=>let a:=acH tr p.1;let b:=acH tr p.2;agx a.2 b.1&&agx b.2 a.1&&a.1.all (fun i=>decide (i<n))&&b.1.all (fun i=>decide (i<n))
def Ao (k:Nat):Store:=List.replicate k .dead
def ac7 (base:Nat) (o:Store):Store:=if(o.drop base).all (·.aaB) then o.take base else o
noncomputable def ab1 (call:lU) (k:Nat) (ops:List og) (Sr:List (Nat×Nat)) (st:St):Option St:=
 let st0:St:=⟨st.env,st.o++Ao k⟩
 match An call st.o.length ops st0 with
 |some st'=>if Sr.isEmpty||aew st0.o.length (Zp call st.o.length ops st0) Sr then some ⟨st'.env,if k=0 then st'.o else ac7 st.o.length st'.o⟩ else none
 |none=>none
mutual
def AV.gy (o:Store) (p:Nat->Bool):AV->Option AV
 | .os id off len tot=>if p id then match o[id]? with
   |some (.cells cs _ sz pu)=>if pu then(if cs.length=tot/\off+len*sz<=tot then some (.sl len ((cs.drop off).take (len*sz))) else none) else some (.os id off len tot)
   |_=>some (.os id off len tot)
  else some (.os id off len tot)
 | .ptr id off tot=>if p id then match o[id]? with
   |some (.cells _ _ _ pu)=>if pu then none else some (.ptr id off tot)
   |_=>some (.ptr id off tot)
  else some (.ptr id off tot)
 | .agg cs=>(BK o p cs).map .agg
 | .eW cs=>(BK o p cs).map .eW
 | .fn f a b=>match BK o p a,BK o p b with
  |some a',some b'=>some (.fn f a' b')
  |_,_=>none
 |v=>some v
def BK (o:Store) (p:Nat->Bool):List AV->Option (List AV)
 |[]=>some []
 |c::cs=>match c.gy o p,BK o p cs with
  |some c',some cs'=>some (c'::cs')
  |_,_=>none
end
def acI (o:Store) (p:Nat->Bool):List (Value×AV)->Option (List (Value×AV))
 |[]=>some []
 |e::es=>match e.2.gy o p,acI o p es with
  |some v,some es'=>some ((e.1,v)::es')
  |_,_=>none
def fZ.gy (o:Store) (p:Nat->Bool):fZ->Option fZ
 | .dead=>some .dead
 | .cells cs e sz pu=>if pu then some (.cells cs e sz pu) else(BK o p cs).map fun cs'=> .cells cs' e sz pu
 | .map es kt pu=>if pu then some (.map es kt pu) else(acI o p es).map fun es'=> .map es' kt pu
def Kv (o:Store) (p:Nat->Bool):Store->Option Store
 |[]=>some []
 |x::r=>match x.gy o p,Kv o p r with
  |some y,some l=>some (y::l)
  |_,_=>none
def zl (p:Nat->Bool):Nat->Store->Store
 |_,[]=>[]
 |i,x::r=>(match x with
  | .cells cs e sz true=>if p i then .dead else .cells cs e sz true
  |x=>x)::zl p (i+1) r
def afn (o:Store) (p:Nat->Bool):Ku->Option Ku
 |[]=>some []
 |(k,v)::r=>match v.gy o p,afn o p r with
  |some v',some r'=>some ((k,v')::r')
  |_,_=>none
def ake (h:Sm) (st:St):Option AV:=
 match h.off with
 |none=>some (pI st.env h.slot)
 |some k=>match behind st.o (pI st.env h.slot) with
  |some (cs,off)=>cs[off+k]?
  |none=>none
def akf (id:Nat) (st:St):St:=
 match st.o[id]? with
 |some (.cells cs e sz true)=>⟨st.env,st.o.set id (.cells cs e sz false)⟩
 |_=>st
def akg (h:Sm) (st:St):St:=
 match h.off with
 |none=>match pI st.env h.slot with
  | .sc (.slice none 0 0)=>⟨(h.slot,.os st.o.length 0 0 0)::st.env,st.o++[.cells [] h.e h.sz h.pu]⟩
  | .os id _ _ _=>if h.sz=0 then akf id st else st
  |_=>st
 |some k=>match pI st.env h.slot with
  | .ptr id off tot=>match st.o[id]? with
   |some (.cells cs e sz pu)=>match cs[off+k]? with
    |some (.sc (.slice none 0 0))=>
     if cs.length=tot/\pu=false then⟨st.env,(st.o.set id (.cells (cs.set (off+k) (.os st.o.length 0 0 0)) e sz pu))++[.cells [] h.e h.sz h.pu]⟩ else st
    |_=>st
   |_=>st
  |_=>st
def akh (id:Nat) (st:St):St:=
 let p:Nat->Bool:=fun i=>i==id
 match afn st.o p st.env,Kv st.o p st.o with
 |some env,some o=>⟨env,zl p 0 o⟩
 |_,_=>st
def aii (id:Nat) (st:St):St:=
 match st.o[id]? with
 |some (.cells cs e sz false)=>if pZ cs then⟨st.env,st.o.set id (.cells cs e sz true)⟩ else st
 |_=>st
def QJ (lo:Nat) (h:Sm) (st:St):St:=
 if h.own then akg h st
 else match ake h st with
  |some (.os id _ _ _)=>if Nat.ble lo id then akh id (aii id st) else st
  |_=>st
def prune (live:List Nat) (env:Ku):Ku:=live.map fun s=>(s,pI env s)
inductive Out where
 |norm
 |exit (id:Nat)
 |ret
 |goto (l:Nat)
 deriving DecidableEq
def trim (k:Nat) (st:St):St:=
 if st.o.length<=k then st
 else if(st.env.all fun p=>p.2.ig k)&&((st.o.take k).all fun x=>x.ig k) then⟨st.env,st.o.take k⟩ else st
structure aaD where
 slot:Nat
 cell:Option (Option Nat)
structure uC where
 params:Nat
 ntmps:Nat
 body:IR
 res:List aaD
def ac8 (st:St) (r:aaD):Option AV:=
 match r.cell with
 |none=>some (pI st.env r.slot)
 |some n=>match behind st.o (pI st.env r.slot) with
  |some (cs,off)=>AX cs off n
  |none=>none
def aa8 (st:St) (rs:List aaD):Option AV:=
 match rs.mapM (ac8 st) with
 |some [v]=>some v
 |some vs=>some (.eW vs)
 |none=>none
def XP (k:Nat) (r:AV) (o:Store):Option (AV×Store):=
 match r.gy o (fun i=>decide (k<=i)),Kv o (fun i=>decide (k<=i)) o with
 |some r1,some o1=>
  let o2:=zl (fun i=>decide (k<=i)) 0 o1
  let ids:=kD o2 zd (r1::(o2.take k).flatMap fZ.avs) (List.range k)
  if Hh.ab0 ids then
   match r1.ren (fun j=>idxOf ids j),S0 o2 ids ids with
   |some r2,some s2=>some (r2,s2)
   |_,_=>none
  else none
 |_,_=>none
where fZ.avs:fZ->List AV
 | .cells cs _ _ pu=>if pu then[] else cs
 | .map es _ pu=>if pu then[] else es.map (·.2)
 | .dead=>[]
def finish (own:Bool) (k:Nat) (r:AV) (o:Store):Option (AV×Store):=
 if own then XP k r o
 else match k with
  |0=>match freeze o 6 r with
   |some r'=>some (r',[])
   |none=>none
  |_+1=>none
def EF:Nat->List AV->Ku
 |_,[]=>[]
 |i,v::vs=>(i,v)::EF (i+1) vs
structure Tab where
 fn:FuncId->Option uC
 K:lU
def ac9 (ex:IR->St->Option (Out×St)):IR->St->Option St
 | .skip,st=>some st
 | .seq x y,st=>match ex x st with
  |some (.norm,st')=>ac9 ex y st'
  |_=>none
 |_,_=>none
def ada:Out->Bool
 | .norm| .ret=>true
 |_=>false
def amW (ex:Nat->IR->St->Option (Out×St)) (F:Option uC) (cs:List AV) (s:St):Option (Out×St):=match F with
 |some F=>if cs.length=F.params/\F.res.isEmpty=true then match ex s.o.length F.body ⟨EF 0 cs,s.o⟩ with
  |some (out,s3)=>if ada out=true then some (.ret,⟨s.env,s3.o⟩) else none
  |none=>none else none
 |none=>none
def aex (T:Tab) (ex:Nat->IR->St->Option (Out×St)) (lo:Nat) (c:IR) (st:St):Option (Out×St):=match c with
 | .dfr g caps d a b=>match ac9 (ex lo) a st with
  |some s0=>match ex s0.o.length b ⟨(d,.ud)::s0.env,s0.o⟩ with
   |some (out,s2)=>if ada out=true then amW ex (T.fn g) (caps.map (s4 s0.env)) s2 else none
   |none=>none
  |none=>none
 |c=>ex lo c st
def acJ (T:Tab) (ex:Nat->IR->St->Option (Out×St)):lU:=fun f args o own=>
 match T.K f args o own with
 |some r=>some r
 |none=>match T.fn f with
  |none=>none
  |some F=>if args.length=F.params then
    match aex T ex o.length F.body ⟨EF 0 args,o⟩ with
    |some (.norm,st)|some (.ret,st)=>match aa8 st F.res with
     |some r=>finish own o.length r st.o
     |none=>none
    |_=>none
   else none
def adb (t:Nat):Ku->Ku
 |[]=>[]
 |p::r=>bif Nat.beq p.1 t then adb t r else p::adb t r
def ab2 (x:Operand) (env:Ku):Ku:=
 match x with
 | .tmp t=>adb t env
 |_=>env
inductive Md where
 |plain
noncomputable def amX (_:Md) (_:Bool) (call:lU) (k:Nat) (ops:List og) (Sr:List (Nat×Nat)) (st:St):Option St:=ab1 call k ops Sr st
noncomputable def exec (T:Tab):Md->Nat->Nat->IR->St->Option (Out×St)
 |_,0,_,_,_=>none
 |md,n+1,lo,c,st=>
  match c with
  | .skip=>some (.norm,st)
  | .region _ draw k ops Sr live pre post=>match amX md draw (acJ T (exec T .plain n)) k ops Sr (pre.foldl (fun s h=>QJ lo h s) st) with
   |some st'=>some (.norm,post.foldl (fun s h=>QJ lo h s) ⟨prune live st'.env,st'.o⟩)
   |none=>none
  | .seq a b=>match exec T md n lo a st with
   |some (.norm,st')=>exec T md n lo b st'
   |r=>r
  | .cond x a b=>match s4 st.env x with
   | .sc (.bool true)=>exec T md n lo a ⟨ab2 x st.env,st.o⟩
   | .sc (.bool false)=>exec T md n lo b ⟨ab2 x st.env,st.o⟩
   |_=>none
  | .block id b=>match exec T md n lo b st with
   |some (.exit id',st')=>if id'=id then some (.norm,st') else some (.exit id',st')
   |r=>r
  | .loop b=>match exec T md n lo b st with
   |some (.norm,st')=>exec T md n lo (.loop b) (trim st.o.length st')
   |r=>r
  | .exit id=>some (.exit id,st)
  | .ret=>some (.ret,st)
  | .goto l=>some (.goto l,st)
  | .aby x a b=>match s4 st.env x with
   | .sc (.bool true)=>exec T md n lo a st
   | .sc (.bool false)=>exec T md n lo b st
   |_=>none
  | .turns l b=>match exec T md n lo b st with
   |some (.goto l',st')=>if l=some l' then exec T md n lo (.turns l b) (trim st.o.length st') else none
   |r=>r
  | .dfr .. =>none
def kh.TR:kh->List Operand
 | .mov x| .box _ x| .load _ x| .afh x| .un _ x| .conv _ x| .afi _ x| .field _ _ x| .len _ x| .extract x _=>[x]
 | .pick c a b=>[c,a,b]
 | .alloc .. | .afl _| .acD .. =>[]
 | .build _ e=>e.map (·.2.2)
 | .abZ _ _ e _ _| .aes _ _ e _ _=>e.map (·.2)
 | .store _ a x=>[a,x]
 | .bin _ x y| .beq _ x y| .eqf _ _ x y| .mm _ x y=>[x,y]
 | .afj _ _ x i| .adT _ x i| .idx _ _ _ x i| .agv x i=>[x,i]
 | .acC _ _ _ _ l c _=>[l,c]
 | .slice _ x h g| .afk x h g=>x::(h.toList++g.toList)
 | .slice3 _ x h g j=>x::g::j::h.toList
 | .append _ _ _ s x _=>[s,x]
 | .call _ d _=>d
 | .MC f d _=>f::d
 | .aeu _ a b=>a++b
 | .lookup _ _ _ _ x k _=>[x,k]
 | .ac4 _ _ x k v=>[x,k,v]
def kh.cls:kh->Nat
 | .mov _| .pick .. | .build .. | .aes .. | .afh _| .bin .. | .beq .. | .eqf .. | .un .. | .conv .. | .afi .. | .field .. | .afj .. | .idx .. | .agv .. | .afk .. | .afl _
 | .mm .. | .extract .. | .aeu .. =>0
 | .load .. | .adT .. | .slice .. | .slice3 .. | .len .. | .lookup .. | .call _ _ false| .MC _ _ false=>1
 | .alloc .. | .box .. | .abZ .. | .acC .. | .acD .. | .store .. | .append .. | .ac4 .. =>2
 | .call _ _ true| .MC _ _ true=>3
def kh.makes:kh->Bool
 | .alloc .. | .box .. | .abZ .. | .acC .. | .acD .. | .append .. =>true
 |_=>false
def tmpsOf (l:List Operand):List Nat:=l.filterMap fun| .tmp t=>some t|_=>none
def og.reads (i:og):List Nat:=
 tmpsOf i.op.TR++(match i.guard with|some (some s,_)=>[s]|_=>[])
def amY (d:Option Nat) (l:List Nat):Bool:=match d with|none=>true|some d=>!l.contains d
def aik (a b:og):Bool:=
 amY a.dst b.reads&&amY b.dst a.reads&&(match a.dst,b.dst with|some x,some y=>x !=y|_,_=>true)
def agy (a b:og):Bool:=a.op.cls==0||b.op.cls==0||(a.op.cls==1&&b.op.cls==1)
def aki (a b:og):Bool:=a.op.cls !=3||b.op.cls !=3
def agz:Nat->List Oper->Bool
 |_,[]=>true
 |i,o::r=>o.after.toList.all (fun e=>!Region.binds .any e||decide (e.on<i))&&agz (i+1) r
structure RH where
 id:Nat
 live:List Nat
 perm:List Nat:=[]
 flags:List Nat:=[]
 pre:List Sm:=[]
 post:List Sm:=[]
def ade (c:TypeId->Option (List Nat)):Nat->List Field->Option (List Nat)
 |_,[]=>some []
 |b,f::d=>if f.name= "_" ∨f.offset≠b then none else match c f.type with
  |some a=>match ade c (b+a.length) d with
   |some r=>some (a++r)
   |none=>none
  |none=>none
def A1 (P:Program):Nat->TypeId->Option (List Nat)
 |0,_=>none
 |d+1,t=>match P.underlying t,(P.info? t).map (·.size) with
  |some (.int _),some 1=>some [0]
  |some .bool,some 1=>some [1]
  |some .string,some 1=>some [2]
  |some (.struct b),some n=>if P.stoodInHeld t then none else match ade (A1 P d) 0 b.toList with
   |some a=>if a.length=n then some a else none
   |none=>none
  |some (.array k e),some n=>match A1 P d e with
   |some a=>if n=k*a.length then some ((List.replicate k a).flatten) else none
   |none=>none
  |_,_=>none
def yf (P:Program) (t:TypeId):Option Bool:=
 match P.underlying t with
 |some (.struct _)|some (.array _ _)=>some true
 |some _=>some false
 |none=>none
def sizeT (P:Program) (t:TypeId):Option Nat:=(P.info? t).map (·.size)
def agA (P:Program) (t:TypeId):Option Nat:=(P.info? t).map (·.bytes)
def abC (P:Program) (t:TypeId):Option (Option Nat):=
 match yf P t,sizeT P t with
 |some true,some n=>some (some n)
 |some false,some _=>some none
 |_,_=>none
def XQ (P:Program) (t:TypeId):Option (List Value):=
 match(P.info? t).bind (·.zero),sizeT P t with
 |some z,some n=>if z.cells.toList.all (·.oneCell')&&z.cells.size==n then some z.cells.toList else none
 |_,_=>none
def ail (P:Program) (t:TypeId) (g:Bool):Bool:=
 match(P.info? t).bind (·.zero) with
 |some (.agg _)=>g
 |some _=>!g
 |none=>false
def adf {d c:Type} (f:d->Option c):List d->Option (List c)
 |[]=>some []
 |a::l=>match f a,adf f l with
  |some b,some r=>some (b::r)
  |_,_=>none
def By (P:Program) (f:FuncId):Bool:=(P.funcs[f]?).any fun a=>a.body.isSome&&!(a.name== "runtime.NumGoroutine")
def arQ (P:Program) (a:Array Field):Option (List (Nat×Nat)):=a.toList.mapM fun f=>(P.info? f.type).map fun i=>(f.offset,i.size)
def arR (a:List (Nat×Nat)) (p:Nat×Operand):Option (Nat×Nat×Operand):=(a[p.1]?).map fun q=>(q.1,q.2,p.2)
def ab3 (P:Program) (fl:Bool) (o:Oper):Option kh:=
 match o.op with
 | .move x| .assign x=>some (.mov x)
 | .pick c a b=>some (.pick c a b)
 | .alloc e=>(XQ P e).map fun z=> .alloc z e fl
 | .box e x=>some (.box e x)
 | .build t h=>match XQ P t,P.underlying t with
  |some z,some (.struct r)=>match arQ P r with
   |some q=>(adf (arR q) h.toList).map fun J=> .build z J
   |none=>none
  |some z,some (.array _ e)=>(sizeT P e).map fun n=> .build z (h.toList.map fun p=>(p.1*n,n,p.2))
  |_,_=>none
 | .buildSlice t j h=>match P.underlying t with
  |some (.slice e)=>match XQ P e with
   |some z=>if j*z.length<=16777216/\0<z.length then some (if fl then .aes z j (h.toList.map fun p=>(p.1*z.length,p.2)) e z.length else .abZ z j (h.toList.map fun p=>(p.1*z.length,p.2)) e z.length) else none
   |none=>none
  |_=>none
 | .load t a=>(abC P t).map fun n=> .load n a
 | .store t a x=>(sizeT P t).map fun n=> .store n a x
 | .nilCheck x=>some (.afh x)
 | .binOp A t x y _=>match A with
  | .eql| .neq=>match P.underlying t with
   |some (.struct _)|some (.array _ _)=>if 20<=P.depth then(A1 P 20 t).map fun w=> .eqf (A matches .neq) w x y else none
   |some .bool=>some (.beq (A matches .neq) x y)
   |some (.int _)|some .string=>some (.bin A x y)
   |_=>none
  |_=>some (.bin A x y)
 | .unOp A _ x=>some (.un A x)
 | .convert s d x=>match P.underlying s,P.underlying d with
  |some _,some (.int k)=>some (.conv k x)
  |_,_=>none
 | .fieldAddr s x f=>match P.underlying s with
  |some (.struct F)=>match F[f]? with
   |some g=>match sizeT P g.type with
    |some n=>if n=0 then none else some (.afi g.offset x)
    |none=>none
   |none=>none
  |_=>none
 | .field t x f=>match P.underlying t with
  |some (.struct F)=>match F[f]? with
   |some g=>(abC P g.type).map fun n=> .field g.offset n x
   |none=>none
  |_=>none
 | .indexAddr t x i=>match P.underlying t with
  |some (.array j e)=>(sizeT P e).map fun n=> .afj j n x i
  |some (.slice e)=>match sizeT P e with
   |some n=>if n=0 then none else some (.adT n x i)
   |none=>none
  |_=>none
 | .index t x i=>match P.underlying t with
  |some (.array j e)=>match sizeT P e,abC P e with
   |some s,some n=>some (.idx j s n x i)
   |_,_=>none
  |some .string=>some (.agv x i)
  |_=>none
 | .makeSlice t l c=>match P.underlying t with
  |some (.slice e)=>match XQ P e,agA P e with
   |some z,some b=>if 0<z.length then some (.acC z e z.length b l c fl) else none
   |_,_=>none
  |_=>none
 | .slice t x D C none=>match P.underlying t with
  |some (.slice e)=>match sizeT P e with
   |some n=>if n=0 then none else some (.slice n x D C)
   |none=>none
  |some .string=>some (.afk x D C)
  |_=>none
 | .slice t x D (some C) (some G)=>match P.underlying t with
  |some (.slice e)=>match sizeT P e with
   |some n=>if n=0 then none else some (.slice3 n x D C G)
   |none=>none
  |_=>none
 | .call c=>match c.callee with
  | .value (.func f)=>if By P f then some (.call f c.args.toList fl) else none
  | .value v=>some (.MC v c.args.toList fl)
  | .builtin .append=>match c.args.toList,c.argTypes.toList with
   |[s,x],[t,H]=>if t=H then match P.underlying t with
     |some (.slice e)=>match XQ P e,agA P e with
      |some z,some b=>if 0<z.length then some (.append e z.length b s x fl) else none
      |_,_=>none
     |_=>none
    else none
   |_,_=>none
  | .builtin .len=>match c.args.toList,c.argTypes.toList with
   |[x],[t]=>match P.underlying t with
    |some (.slice _)=>some (.len 0 x)
    |some .string=>some (.len 1 x)
    |some (.map _ _)=>some (.len 2 x)
    |some (.array n _)=>some (.afl n)
    |_=>none
   |_,_=>none
  | .builtin .min=>match c.args.toList with
   |[x,y]=>some (.mm false x y)
   |_=>none
  | .builtin .max=>match c.args.toList with
   |[x,y]=>some (.mm true x y)
   |_=>none
  |_=>none
 | .extract x i=>some (.extract x i)
 | .makeFunc f a b=>match f with
  | .func g=>some (.aeu (.func g) a.toList b.toList)
  |_=>none
 | .makeMap t none=>match P.underlying t with
  |some (.map u _)=>match A1 P 20 u,yf P u with
    |some w,some B=>some (.acD (w,B) fl)
    |_,_=>none
  |_=>none
 | .lookup t x k I=>match P.underlying t with
  |some (.map u E)=>match A1 P 20 u,yf P u,XQ P E,yf P E with
    |some w,some B,some z,some g=>if ail P E g then some (.lookup z g w B x k I) else none
    |_,_,_,_=>none
  |_=>none
 | .mapUpdate t m k v| .insert t m k v=>match P.underlying t with
  |some (.map u _)=>match A1 P 20 u,yf P u with
    |some w,some B=>some (.ac4 w B m k v)
    |_,_=>none
  |_=>none
 |_=>none
def akj (a:Nat):Option Nat->Bool
 |none=>true
 |some d=>decide (d<a)
def adg (P:Program) (c:Nat) (fl:List Nat) (a:Array Oper) (ei i:Nat):Option og:=
 match a[i]? with
 |none=>none
 |some o=>if akj c o.dst then(ab3 P (fl.contains i) o).map fun b=>⟨i,ei,o.dst,b,o.guard.map fun g=>(((a[g.1]?).bind (·.dst)),g.2)⟩ else none
def afo (P:Program) (b:Nat) (fl:List Nat) (a:Array Oper):Nat->List Nat->Option (List og×Nat)
 |k,[]=>some ([],k)
 |k,i::r=>match adg P b fl a k i with
  |none=>none
  |some x=>match afo P b fl a (if x.op.makes then k+1 else k) r with
   |none=>none
   |some (l,n)=>some (x::l,n)
def akk (acc:List Nat) (s:Nat) (e:Edge):Nat:=if Region.binds .any e then s |||(2^e.on |||acc.getD e.on 0) else s
def abD (b:Array Oper):List Nat:=
 b.toList.foldl (fun a o=>a++[o.after.toList.foldl (akk a) 0]) []
def adh (c:List Nat):List og->List (Nat×Nat)
 |[]=>[]
 |a::r=>(r.filterMap fun b=>if(c.getD b.idx 0).testBit a.idx||agy a b then none else some (a.idx,b.idx))++adh c r
def agB (c:List Nat):List og->Bool
 |[]=>true
 |a::r=>r.all (fun b=>(c.getD b.idx 0).testBit a.idx||(aik a b&&(agy a b||aki a b)))&&agB c r
def nodupB:List Nat->Bool
 |[]=>true
 |a::r=>!r.contains a&&nodupB r
def agC (P:Program) (d:Nat) (H:List RH) (id:Nat) (a:Array Oper) (c:Bool):Option IR:=
 match H.find? (·.id==id) with
 |none=>none
 |some h=>
  if c then
   let b:=if h.perm.isEmpty then List.range a.size else h.perm
   match afo P d h.flags a 0 b with
   |some (l,k)=>if P.follows .mixedOrders&&b.length==a.size&&nodupB b&&agB (abD a) l&&agz 0 a.toList&&(List.range a.size).all b.contains then some (.region id true k l (adh (abD a) l) h.live h.pre h.post) else none
   |none=>none
  else(afo P d h.flags a 0 (List.range a.size)).map fun(l,k)=> .region id false k l [] h.live h.pre h.post
def akl:Code->Bool
 | .seq a b| .cond _ a b=>akl a||akl b
 | .block _ b| .loop b| .scope b=>akl b
 | .goto _=>true
 |_=>false
def akm:Code->Option Nat
 | .seq (.label l) c=>if akl c then some l else none
 |_=>none
def arS (H:List RH):Operand->Bool
 | .tmp t=>match H.find? (·.id==999999) with
  |some h=>h.live.contains t
  |none=>false
 |_=>false
def comp (P:Program) (nt:Nat) (H:List RH):Code->Option IR
 | .skip=>some .skip
 | .region id ops draw=>agC P nt H id ops draw
 | .seq a b=>match comp P nt H a,comp P nt H b with
  |some x,some y=>some (.seq x y)
  |_,_=>none
 | .cond c a b=>match comp P nt H a,comp P nt H b with
  |some x,some y=>some (if arS H c then .aby c x y else .cond c x y)
  |_,_=>none
 | .block id b=>(comp P nt H b).map (.block id)
 | .loop b=>(comp P nt H b).map .loop
 | .exit id=>some (.exit id)
 | .ret=>some .ret
 | .label _=>some .skip
 | .goto l=>some (.goto l)
 | .scope b=>(comp P nt H b).map fun x=> .turns (akm b) x
 |_=>none
def akn (h:Array Oper):Option (FuncId×List Operand×Nat):=match h.toList with
 |[f,e]=>match f.dst,f.op,f.guard,e.op,e.dst,e.guard with
  |some d,.makeFunc (.func g) a b,none,.defer c,none,none=>match c.callee with
   | .value (.tmp i)=>if i=d/\a.toList=[]/\c.args.toList=[] then some (g,b.toList,d) else none
   |_=>none
  |_,_,_,_,_,_=>none
 |_=>none
def afp (P:Program) (f:Nat) (H:List RH):Code->Option (IR×(FuncId×List Operand×Nat)×IR)
 | .seq (.region g e d) c=>match akn e,d with
  |some x,false=>if x.2.2<f/\By P x.1=true then(comp P f H c).map fun b=>(.skip,x,b) else none
  |_,_=>match agC P f H g e d,afp P f H c with
   |some r,some (a,x,b)=>some (.seq r a,x,b)
   |_,_=>none
 |_=>none
def amZ (P:Program) (a:Nat) (H:List RH) (c:Code):Option IR:=match comp P a H c with
 |some b=>some b
 |none=>(afp P a H c).map fun x=> .dfr x.2.1.1 x.2.1.2.1 x.2.1.2.2 x.1 x.2.2
def adY (P:Program):ResultVar->Option aaD
 | .tmp t=>some ⟨t,none⟩
 | .cell a t=>(abC P t).map fun n=>⟨a,some n⟩
def ako (P:Program) (H:List RH) (a:Func):Option uC:=
 match a.body with
 |none=>none
 |some c=>match amZ P a.ntmps H c,adf (adY P) a.results.toList with
  |some b,some d=>if a.ntmps<a.params.size+a.nfree then none else some ⟨a.params.size+a.nfree,a.ntmps,b,d⟩
  |_,_=>none
end Go.Vi
