/-
  The symbolic run: its operations, and what must hold for a piece of code to come to a post. Plain definitions: no proof stands here.
  Conditions: none.
-/
import Derived.Test.YtgejbpobaicgfaaGreatRX04
set_option maxRecDepth 100000
set_option maxHeartbeats 4000000
set_option linter.unusedSimpArgs false
set_option linter.unusedVariables false
namespace Go.Vi
abbrev cG:=List (Nat×SV)
abbrev a8:=List af
structure aN where
 env:cG
 o:a8
def fo:cG→Nat→SV
 |[],_=> .ud
 |p::r,s=>bif Nat.beq p.1 s then p.2 else fo r s
def iU (env:cG) (dst:Option Nat) (v:SV):cG:=
 match dst with
 |none=>env
 |some d=>(d,v)::env
def SV.jO:Value→SV
 | .int k n=> .il k n
 | .bool b=> .bl b
 |v=> .sc v
def SV.l9:Value→SV
 | .agg cs=>if cs.toList.all (·.oneCell') then .agg (cs.toList.map .jO) else .ud
 | .tuple _=> .ud
 | .int k n=> .il k n
 | .bool b=> .bl b
 |v=> .sc v
def eX (env:cG):Operand→SV
 | .tmp t=>fo env t
 | .const v=> .l9 v
 | .global _=> .ud
 | .func f=> .fn (.func f) [] []
def SV.cellsOf:SV→List SV
 | .agg cs=>cs
 |v=>[v]
def SV.one:SV→Bool
 | .agg _| .aD _| .ud=>false
 | .sc v=>v.oneCell'
 |_=>true
def pB (l:List SV):Bool:=l.all (·.one)
mutual
def SV.pure:SV→Bool
 | .sc _| .il .. | .si .. | .bl _| .sb _| .row .. =>true
 |_=>false
def yv:List SV→Bool
 |[]=>true
 |c::cs=>c.pure&&yv cs
end
mutual
def SV.a6 (k:Nat):SV→Bool
 | .ud| .sc _| .il .. | .si .. | .bl _| .sb _| .row .. | .ep .. =>true
 | .agg cs| .aD cs=>mD k cs
 | .ptr id .. | .ap id .. | .rp id .. | .ow id .. | .os id .. | .oc id .. | .mp id=>decide (id<k)
 | .fn _ a b=>mD k a&&mD k b
def mD (k:Nat):List SV→Bool
 |[]=>true
 |c::cs=>c.a6 k&&mD k cs
end
def af.a6 (k:Nat):af→Bool
 | .cells cs _ _ pu=>pu||mD k cs
 | .iT _ _ _ t=>mD k t
 |_=>true
mutual
def SV.fW:SV→Bool
 | .ud| .sc _| .il .. | .si .. | .bl _| .sb _=>true
 | .agg cs| .aD cs=>yw cs
 |_=>false
def yw:List SV→Bool
 |[]=>true
 |c::cs=>c.fW&&yw cs
end
def aC (k:IntKind) (n:Int):Prop:=
 match k with
 | .i64=> -9223372036854775808≤n∧n≤9223372036854775807
 |k=>k.wrap n=n
def pC (k:IntKind) (n:Int) (K:Int→Prop):Prop:=
 match k with
 | .u32=>K (n % 4294967296)
 | .u64=>K (n % 18446744073709551616)
 |k=>aC k n∧K n
structure H9 where
 pure:FuncId→List SV→(SV→Prop)→Prop
 own:FuncId→List SV→a8→(SV→a8→Prop)→Prop
structure dY where
 C:H9
 ty:TypeId→Option ai
 mt:List Nat×Bool→Option (ai×ai)
 sp:Nat→Option (Nat×Nat×Nat):=fun _=>none
 it:FuncId→Option aT:=fun _=>none
 ro:FuncId→Bool:=fun _=>false
def mE (cs:List SV) (off:Nat):Option Nat→Option SV
 |none=>cs[off]?
 |some n=>if off+n≤cs.length then some (.agg ((cs.drop off).take n)) else none
def nH (cs:List SV) (off:Nat):List SV→List SV
 |[]=>cs
 |v::vs=>nH (cs.set off v) (off+1) vs
def eH {α:Type} (x:Option α) (K:α→Prop):Prop:=match x with|some a=>K a|none=>False
def pD {α:Type} (f:SV→(α→Prop)→Prop):List SV→(List α→Prop)→Prop
 |[],K=>K []
 |v::vs,K=>f v fun a=>pD f vs fun az=>K (a::az)
def mG (o:a8):Nat→SV→(SV→Prop)→Prop
 |_,.ud,K=>K .ud
 |_,.sc v,K=>match v with
  | .slice none 0 0=>K (.row (.i .i64) [])
  |v=>K (.sc v)
 |_,.il k n,K=>K (.il k n)
 |_,.si k n,K=>K (.si k n)
 |_,.bl b,K=>K (.bl b)
 |_,.sb b,K=>K (.sb b)
 |_,.row s l,K=>K (.row s l)
 |d+1,.agg cs,K=>pD (mG o d) cs fun cs'=>K (.agg cs')
 |d+1,.aD cs,K=>pD (mG o d) cs fun cs'=>K (.aD cs')
 |d+1,.fn f a b,K=>pD (mG o d) a fun a'=>pD (mG o d) b fun b'=>K (.fn f a' b')
 |_+1,.ow id n sz,K=>match o[id]? with
  |some (.row s l _ _)=>if sz=s.sz then n=l.length∧K (.row s l) else False
  |_=>False
 |_+1,.os id off len n sz,K=>match o[id]? with
  |some (.row s l _ _)=>if sz=s.sz then n=l.length∧off+len≤n∧K (.row s ((l.drop off).take len)) else False
  |_=>False
 |_,_,_=>False
def iE (o:a8) (a:SV) (n:Option Nat) (K:SV→Prop):Prop:=
 match a with
 | .ptr id off tot=>match o[id]? with
  |some (.cells cs _ _ _)=>if cs.length=tot then eH (mE cs off n) K else False
  |_=>False
 | .ap id base sz len tot i=>match o[id]? with
  |some (.cells cs _ _ _)=>if cs.length=tot∧base+sz*len≤tot then i<len∧tp ((cs.drop base).take (sz*len)) sz i n K else False
  |_=>False
 | .ep s l i off=>i<l.length∧eH (mE (encS s (ae l i s.dflt)) off n) K
 | .rp id i off m sz=>match o[id]? with
  |some (.row s l _ _)=>if sz=s.sz then m=l.length∧i<l.length∧eH (mE (encS s (ae l i s.dflt)) off n) K else False
  |_=>False
 |_=>False
where
 tp (cs:List SV) (sz i:Nat) (n:Option Nat) (K:SV→Prop):Prop:=
  match n,sz with
  |none,1=>match ints cs with
   |some l=>K (.si .i64 (ae l i 0))
   |none=>match rowsOff cs with
    |some l=>K (.row .off (ae l i []))
    |none=>False
  |_,_=>False
 rowsOff:List SV→Option (List (List Off))
  |[]=>some []
  | .row .off l::cs=>(rowsOff cs).map (l::·)
  |_=>none
def mkK (am:Nat) (x:af) (o:a8) (K:a8→Prop):Prop:=
 match o[am]? with
 |some .dead=>K (o.set am x)
 |_=>False
def mH (parts:List (Nat×Nat×SV)) (cs:List SV):Option (List SV):=
 match parts with
 |[]=>some cs
 |(off,n,v)::rest=>
  if v.cellsOf.length=n∧pB v.cellsOf=true∧off+n≤cs.length then mH rest (nH cs off v.cellsOf) else none
def nI (s:ai):Nat→List SV→Option (List s.T)
 |0,[]=>some []
 |n+1,cs=>match fj s (cs.take s.sz),nI s n (cs.drop s.sz) with
  |some x,some l=>some (x::l)
  |_,_=>none
 |_,_=>none
def pE (o:a8) (s:ai) (x:SV) (K:List s.T→Prop):Prop:=
 match x with
 | .row s' l=>eH (gh s' s l) K
 | .ow id n sz=>match o[id]? with
  |some (.row s' l _ _)=>if sz=s'.sz then n=l.length∧eH (gh s' s l) K else False
  |_=>False
 | .os id off len n sz=>match o[id]? with
  |some (.row s' l _ _)=>if sz=s'.sz then n=l.length∧off+len≤n∧eH (gh s' s ((l.drop off).take len)) K else False
  |_=>False
 | .sc (.slice none 0 0)=>K []
 |_=>False
def Ia (o:a8):SV→Option (List SV)
 | .ow j 1 sz=>match o[j]? with
  |some (.iT s [] _ t)=>if s.sz=sz then some t else none
  |_=>none
 |_=>none
def SV.Ib:SV→Bool
 | .ow .. =>true
 |_=>false
def tq:SV→Option Int
 | .si _ n=>some n
 | .il _ n=>some n
 |_=>none
def isNil:SV→Bool
 | .sc (.slice none 0 0)=>true
 |_=>false
def dZ (op:BinOp) (x y:SV) (K:SV→Prop):Prop:=
 match x,y with
 | .il k a,.il k' b=>match dO op (.int k a) (.int k' b) with
  |some (.int k n)=>K (.il k n)
  |some (.bool c)=>K (.bl c)
  |_=>False
 | .si k a,.si k' b=>go k a k' b
 | .il k a,.si k' b=>go k a k' b
 | .si k a,.il k' b=>go k a k' b
 | .sc (.string a),.sc (.string b)=>match op with
  | .eql=>K (.sb (a.toList==b.toList))
  | .neq=>K (.sb (!(a.toList==b.toList)))
  |_=>False
 |_,_=>False
where
 go (k:IntKind) (a:Int) (k':IntKind) (b:Int):Prop:=
  match op with
  | .shl=>0≤b∧b≤k.bits∧pC k (a*2^b.toNat) fun n=>K (.si k n)
  | .shr=>0≤b∧b≤k.bits∧K (.si k (a / 2^b.toNat))
  | .add=>if k=k' then pC k (a+b) fun n=>K (.si k n) else False
  | .sub=>if k=k' then pC k (a - b) fun n=>K (.si k n) else False
  | .mul=>if k=k' then pC k (a*b) fun n=>K (.si k n) else False
  | .quo=>if k=k' then b≠0∧aC k (a.tdiv b)∧K (.si k (a.tdiv b)) else False
  | .rem=>if k=k' then b≠0∧K (.si k (a.tmod b)) else False
  | .and=>if k=k' then K (.si k (pF k a b)) else False
  | .or=>if k=k' then K (.si k (ju k a b)) else False
  | .xor=>if k=k' then K (.si k (BJ k a b)) else False
  | .andNot=>if k=k' then K (.si k (BK k a b)) else False
  | .eql=>if k=k' then K (.sb (decide (a=b))) else False
  | .neq=>if k=k' then K (.sb (decide (a≠b))) else False
  | .lss=>if k=k' then K (.sb (decide (a<b))) else False
  | .leq=>if k=k' then K (.sb (decide (a≤b))) else False
  | .gtr=>if k=k' then K (.sb (decide (b<a))) else False
  | .geq=>if k=k' then K (.sb (decide (b≤a))) else False
 pF (k:IntKind) (a b:Int):Int:=cO k (BitVec.ofInt k.bits a &&&BitVec.ofInt k.bits b).toNat
 ju (k:IntKind) (a b:Int):Int:=cO k (BitVec.ofInt k.bits a |||BitVec.ofInt k.bits b).toNat
 BJ (k:IntKind) (a b:Int):Int:=cO k (BitVec.ofInt k.bits a ^^^BitVec.ofInt k.bits b).toNat
 BK (k:IntKind) (a b:Int):Int:=cO k (BitVec.ofInt k.bits a &&&~~~(BitVec.ofInt k.bits b)).toNat
def BL:SV→SV→Option Bool
 | .si k a,y=>(y.int k).map fun b=>decide (a=b)
 | .il k a,y=>(y.int k).map fun b=>decide (a=b)
 | .sb a,y=>y.boo.map fun b=>a==b
 | .bl a,y=>y.boo.map fun b=>a==b
 |_,_=>none
def nJ:List SV→List SV→Option Bool
 |[],[]=>some true
 |x::xs,y::ys=>match BL x y,nJ xs ys with
  |some a,some b=>some (a&&b)
  |_,_=>none
 |_,_=>none
def gG:List Nat→List SV→Bool
 |[],[]=>true
 |0::ks,.si _ _::vs=>gG ks vs
 |0::ks,.il _ _::vs=>gG ks vs
 |1::ks,.sb _::vs=>gG ks vs
 |1::ks,.bl _::vs=>gG ks vs
 |_,_=>false
def jv (sk sv:ai) (x:sk.T) (es:List (sk.T×sv.T)):Option sv.T:=(es.find? fun p=>decide (p.1=x)).map (·.2)
def mI (sk sv:ai) (x:sk.T) (v:sv.T):List (sk.T×sv.T)→List (sk.T×sv.T)
 |[]=>[(x,v)]
 |p::r=>if p.1=x then(x,v)::r else p::mI sk sv x v r
def pG (ka:Bool):SV→Bool
 | .agg _=>ka
 |_=>!ka
def ai.keyed:ai→Bool
 | .key| .sit| .i _=>true
 |_=>false
def jw (d:Nat):Option SV→(Nat→Prop)→Prop
 |none,K=>K d
 |some (.il _ n),K=>if 0≤n then K n.toNat else False
 |some (.si _ n),K=>0≤n∧K n.toNat
 |_,_=>False
def nK:List Int→Nat→Int→Nat→List Int
 |[],_,_,_=>[]
 |a::l,i,v,j=>(if i=j then v else a)::nK l i v (j+1)
def cM (p:dY) (op:bk) (ρ:Operand→SV) (o:a8) (am:Nat) (K:SV→a8→Prop):Prop:=
 match op with
 | .oG x=>K (ρ x) o
 | .pick c a b=>match ρ c with
  | .bl true=>K (ρ a) o
  | .bl false=>K (ρ b) o
  | .sb c=>(c=true→K (ρ a) o)∧(c=false→K (ρ b) o)
  |_=>False
 | .alloc z e pu=>mkK am (.cells (z.map .jO) e z.length pu) o fun o'=>K (.ptr am 0 z.length) o'
 | .box e x=>if pB (ρ x).cellsOf then mkK am (.cells (ρ x).cellsOf e (ρ x).cellsOf.length false) o fun o'=>K (.ptr am 0 (ρ x).cellsOf.length) o' else False
 | .build z parts=>eH (mH (parts.map fun q=>(q.1,q.2.1,ρ q.2.2)) (z.map .jO)) fun cs=>K (.agg cs) o
 | .kg z len parts e sz=>match p.ty e,mH (parts.map fun q=>(q.1,sz,ρ q.2)) ((List.replicate len (z.map SV.jO)).flatten) with
  |some s,some cs=>if s.sz=sz then(if cs.any SV.Ib then(if cs.length=len*sz then mkK am (.iT s [] e cs) o fun o'=>K (.ow am len sz) o' else False) else eH (nI s len (cs.map SV.qn)) fun l=>mkK am (.row s l e true) o fun o'=>K (.ow am len sz) o') else False
  |_,_=>False
 | .ng z len parts e sz=>match p.ty e,mH (parts.map fun q=>(q.1,sz,ρ q.2)) ((List.replicate len (z.map SV.jO)).flatten) with
  |some s,some cs=>if s.sz=sz then eH (nI s len (cs.map SV.qn)) fun l=>K (.row s l) o else False
  |_,_=>False
 | .load n a=>iE o (ρ a) n fun v=>K v o
 | .store n a x=>match ρ a with
  | .ptr id off tot=>match o[id]? with
   |some (.cells cs e sz pu)=>
    if cs.length=tot∧(ρ x).cellsOf.length=n∧pB (ρ x).cellsOf=true∧off+n≤cs.length∧(pu=false∨yv (ρ x).cellsOf=true) then K .ud (o.set id (.cells (nH cs off (if pu then(ρ x).cellsOf.map SV.qn else(ρ x).cellsOf)) e sz pu)) else False
   |_=>False
  | .rp id i off m sz=>match o[id]? with
   |some (.row s l e pu)=>
    if sz=s.sz∧(ρ x).cellsOf.length=n∧off+n≤s.sz then m=l.length∧i<l.length∧eH (fj s (nH (encS s (ae l i s.dflt)) off (if pu then(ρ x).cellsOf.map SV.qn else(ρ x).cellsOf))) fun v=>K .ud (o.set id (.row s (l.set i v) e pu)) else False
   |_=>False
  | .ap id base sz len tot i=>match o[id]? with
   |some (.cells cs e sz' pu)=>match n,sz,(ρ x).int .i64 with
    |1,1,some v=>match ints ((cs.drop base).take len) with
     |some l=>if cs.length=tot∧base+len≤tot then i<len∧K .ud (o.set id (.cells (nH cs base ((nK l i v 0).map (SV.si .i64))) e sz' pu)) else False
     |none=>False
    |_,_,_=>False
   |_=>False
  |_=>False
 | .oH x=>match ρ x with
  | .ptr a b c=>K (.ptr a b c) o
  | .rp a b c d e=>K (.rp a b c d e) o
  | .ep s l i f=>K (.ep s l i f) o
  |_=>False
 | .bin op x y=>dZ op (ρ x) (ρ y) fun v=>K v o
 | .beq neg x y=>match(ρ x).boo,(ρ y).boo with
  |some a,some b=>K (.sb (if neg then !(a==b) else a==b)) o
  |_,_=>False
 | .mb neg ks x y=>match ρ x,ρ y with
  | .agg a,.agg b=>if gG ks a&&gG ks b then eH (nJ a b) fun r=>K (.sb (if neg then !r else r)) o else False
  |_,_=>False
 | .un op x=>match op,ρ x with
  | .not,.sb b=>K (.sb !b) o
  | .not,.bl b=>K (.bl !b) o
  | .neg,.si k n=>aC k (-n)∧K (.si k (-n)) o
  | .neg,.il k n=>K (.il k (cO k (0 - n))) o
  |_,_=>False
 | .conv k x=>match ρ x with
  | .il _ n=>K (.il k (cO k n)) o
  | .si .i64 n=>aC k n∧K (.si k n) o
  | .si _ n=>pC k n fun m=>K (.si k m) o
  |_=>False
 | .oJ off x=>match ρ x with
  | .ptr id b tot=>K (.ptr id (b+off) tot) o
  | .ep s l i b=>K (.ep s l i (b+off)) o
  | .rp id i b m sz=>K (.rp id i (b+off) m sz) o
  |_=>False
 | .field off n x=>match ρ x with
  | .agg cs=>eH (mE cs off n) fun v=>K v o
  |_=>False
 | .oK len sz x i=>match ρ i with
  | .il _ n=>if 0≤n∧n<len then(match ρ x with
   | .ptr id b tot=>K (.ptr id (b+n.toNat*sz) tot) o
   | .ep s l j b=>K (.ep s l j (b+n.toNat*sz)) o
   | .rp id j b m sz'=>K (.rp id j (b+n.toNat*sz) m sz') o
   |_=>False) else False
  | .si _ n=>match ρ x with
   | .ptr id b tot=>0≤n∧n<len∧K (.ap id b sz len tot n.toNat) o
   |_=>False
  |_=>False
 | .me sz x i=>match tq (ρ i) with
  |some n=>match ρ x with
   | .row s l=>if sz=s.sz then 0≤n∧n<l.length∧K (.ep s l n.toNat 0) o else False
   | .ow id m sz'=>match o[id]? with
    |some (.row s l _ _)=>if sz=s.sz∧sz'=s.sz then m=l.length∧0≤n∧n<l.length∧K (.rp id n.toNat 0 m sz) o else False
    |_=>False
   | .os id off len m sz'=>match o[id]? with
    |some (.row s l _ _)=>if sz=s.sz∧sz'=s.sz then m=l.length∧0≤n∧n<len∧off+len≤m∧K (.rp id (off+n.toNat) 0 m sz) o else False
    |_=>False
   | .oc id off len m sz'=>match o[id]? with
    |some (.row s l _ _)=>if sz=s.sz∧sz'=s.sz then m=l.length∧0≤n∧n<len∧off+len≤m∧K (.rp id (off+n.toNat) 0 m sz) o else False
    |_=>False
   |_=>False
  |none=>False
 | .idx len sz n x i=>match ρ i,ρ x with
  | .il _ k,.agg cs=>if 0≤k∧k<len then eH (mE cs (k.toNat*sz) n) fun v=>K v o else False
  | .si _ k,.agg cs=>match n,sz,ints cs with
   |none,1,some l=>if l.length=len then 0≤k∧k<len∧K (.si .i64 (ae l k.toNat 0)) o else False
   |_,_,_=>False
  |_,_=>False
 | .kJ z e sz bytes l c pu=>match tq (ρ l),tq (ρ c),p.ty e with
  |some n,some m,some s=>if s.sz=sz then eH (fj s (if pu then(z.map SV.jO).map SV.qn else z.map .jO)) fun x=>0≤n∧n≤m∧m*bytes≤140737488355328∧m≤1000000000000∧
    mkK am (.row s (List.replicate n.toNat x) e pu) o fun o'=>K (.ow am n.toNat sz) o' else False
  |_,_,_=>False
 | .slice sz x lo hi=>match ρ x with
  | .row s l=>if sz=s.sz then jw 0 (lo.map ρ) fun a=>jw l.length (hi.map ρ) fun b=>a≤b∧b≤l.length∧K (.row s ((l.drop a).take (b - a))) o else False
  | .ow id m sz'=>match o[id]? with
   |some (.row s l _ _)=>if sz=s.sz∧sz'=s.sz then m=l.length∧jw 0 (lo.map ρ) fun a=>jw m (hi.map ρ) fun b=>a≤b∧b≤m∧K (.os id a (b - a) m sz) o else False
   |_=>False
  | .os id off len m sz'=>match o[id]? with
   |some (.row s l _ _)=>if sz=s.sz∧sz'=s.sz then m=l.length∧jw 0 (lo.map ρ) fun a=>jw len (hi.map ρ) fun b=>a≤b∧b≤len∧K (.os id (off+a) (b - a) m sz) o else False
   |_=>False
  |_=>False
 | .slice3 sz x lo hi mx=>match ρ x with
  | .row s l=>if sz=s.sz then jw 0 (lo.map ρ) fun a=>jw l.length (some (ρ hi)) fun b=>jw l.length (some (ρ mx)) fun m=>a≤b∧b≤m∧m≤l.length∧K (.row s ((l.drop a).take (b - a))) o else False
  | .ow id n sz'=>match o[id]? with
   |some (.row s l _ _)=>if sz=s.sz∧sz'=s.sz then n=l.length∧jw 0 (lo.map ρ) fun a=>jw n (some (ρ hi)) fun b=>jw n (some (ρ mx)) fun m=>a≤b∧b≤m∧m≤n∧K (.oc id a (b - a) n sz) o else False
   |_=>False
  |_=>False
 | .append e sz bytes s x pu=>match p.ty e,Ia o (ρ x) with
  |some t,some tl=>match ρ s,ρ x with
   | .ow id n sz',.ow _ _ lF=>match o[id]? with
    |some (.row t' l e' dV)=>if e'=e∧t'.sz=sz∧sz'=sz∧lF=sz∧t.sz=sz∧dV=false∧tl.length=sz∧pB tl=true then n=l.length∧(l.length+1)*bytes≤140737488355328∧l.length+1≤1000000000000∧
      K (.ow id (l.length+1) sz) (o.set id (.iT t' l e tl)) else False
    |_=>False
   |_,_=>False
  |some t,none=>if t.sz=sz then pE o t (ρ x) fun new=>match ρ s with
    | .sc (.slice none 0 0)=>(new.length=0→K (.sc sN) o)∧(new.length≠0→new.length*bytes≤140737488355328∧new.length≤1000000000000∧mkK am (.row t new e pu) o fun o'=>K (.ow am new.length sz) o')
    | .ow id n sz'=>match o[id]? with
     |some (.row t' l e' dV)=>if e'=e∧t'.sz=sz∧sz'=sz then n=l.length∧(l.length+new.length)*bytes≤140737488355328∧l.length+new.length≤1000000000000∧
       eH (gh t' t l) fun l'=>K (.ow id (l'++new).length sz) (o.set id (.row t (l'++new) e dV)) else False
     |_=>False
    | .row t' l=>new.length=0∧K (.row t' l) o
    |_=>False
   else False
  |none,_=>False
 | .len k x=>match k,ρ x with
  |0,.row _ l=>K (.si .i64 l.length) o
  |0,.ow _ n _=>K (.si .i64 n) o
  |0,.os _ _ len _ _=>K (.si .i64 len) o
  |0,.oc _ _ len _ _=>K (.si .i64 len) o
  |0,.sc (.slice none 0 0)=>K (.il .i64 0) o
  |1,.sc (.string s)=>K (.si .i64 s.size) o
  |2,.mp id=>match o[id]? with
   |some (.map _ _ _ es _ _)=>K (.si .i64 es.length) o
   |_=>False
  |_,_=>False
 | .oM n=>K (.il .i64 n) o
 | .mm mx x y=>match ρ x,ρ y with
  | .il k a,.il k' b=>if k=k' then K (.il k (if mx then(if b>a then b else a) else(if b<a then b else a))) o else False
  | .si k a,y=>eH (y.int k) fun b=>K (.si k (if mx then max a b else min a b)) o
  | .il k a,y=>eH (y.int k) fun b=>K (.si k (if mx then max a b else min a b)) o
  |_,_=>False
 | .call f args own=>yx p f (args.map ρ) o own K
 | .eF f args own=>match ρ f with
  | .fn (.func g) first captured=>yx p g (first++args.map ρ++captured) o own K
  |_=>False
 | .extract x i=>match ρ x with
  | .aD vs=>eH vs[i]? fun v=>K v o
  |_=>False
 | .nh f first captured=>K (.fn f (first.map ρ) (captured.map ρ)) o
 | .kK kt pu=>match p.mt kt with
  |some (sk,sv)=>mkK am (.map sk sv kt.2 [] kt pu) o fun o'=>K (.mp am) o'
  |none=>False
 | .lookup z agg ks ka x k ok=>match ρ x with
  | .mp id=>match o[id]? with
   |some (.map sk sv ri es kt _)=>
    if kt=(ks,ka)∧ri=ka∧sk.keyed=true∧sv.rh=true∧agg=false∧(ka=false→sk.sz=1)∧gG ks (ρ k).cellsOf=true∧pG ka (ρ k)=true then
     eH (fj sk (ρ k).cellsOf) fun kv=>eH (fj sv (z.map .jO)) fun zv=>
      let r:=(encS sv ((jv sk sv kv es).getD zv)).headD .ud
      K (if ok then .aD [r,.sb (jv sk sv kv es).isSome] else r) o
    else False
   |_=>False
  |_=>False
 | .lv ks ka x k v=>match ρ x with
  | .mp id=>match o[id]? with
   |some (.map sk sv ri es kt pu)=>
    if kt=(ks,ka)∧ri=ka∧sk.keyed=true∧sv.rh=true∧(ka=false→sk.sz=1)∧gG ks (ρ k).cellsOf=true∧pG ka (ρ k)=true∧pG false (ρ v)=true then
     eH (fj sk (ρ k).cellsOf) fun kv=>eH (fj sv (ρ v).cellsOf) fun vv=>K .ud (o.set id (.map sk sv ri (mI sk sv kv vv es) kt pu))
    else False
   |_=>False
  |_=>False
 |_=>False
where
 yx (p:dY) (f:FuncId) (args:List SV) (o:a8) (own:Bool) (K:SV→a8→Prop):Prop:=
  if own then p.C.own f args o K
  else pD (mG o 6) args fun args'=>p.C.pure f args' fun r=>if(args.flatMap (fun v=>cY (o.map af.g) 6 v.g)).isEmpty||r.fW then K r o else False
def rj:cG→Nat→SV→cG
 |[],_,_=>[]
 |p::r,s,v=>bif Nat.beq p.1 s then(p.1,v)::r else p::rj r s v
def yy (env:cG) (g:Option (Option Nat×Bool)) (K:cG→Bool→Prop):Prop:=
 match g with
 |none=>K env true
 |some (none,_)=>False
 |some (some s,b)=>match fo env s with
  | .bl c=>K env (c==b)
  | .sb c=>(c=true→K (rj env s (.bl true)) (true==b))∧(c=false→K (rj env s (.bl false)) (false==b))
  | .aD []=>K env false
  |_=>False
def SV.same (v w:SV):Prop:=v.g=w.g
def af.same (x y:af):Prop:=x.g=y.g
def iF:a8→a8→Prop
 |[],[]=>True
 |x::o,y::o'=>x.same y∧iF o o'
 |_,_=>False
def Ic (p:dY) (op:bk) (o o':a8) (K:Bool→Prop):Prop:=
 match op with
 | .call f _ true=>if p.ro f=true then iF o o'∧K true else K false
 |_=>K false
def rk (p:dY) (base:Nat):List bA→aN→Trace→(aN→Trace→Prop)→Prop
 |[],st,tr,K=>K st tr
 |i::r,st,tr,K=>yy st.env i.guard fun env w=>
   if w then cM p i.op (eX env) st.o (base+i.am) fun v o'=>Ic p i.op st.o o' fun ro=>rk p base r ⟨iU env i.dst v,o'⟩ ((i.idx,bV i.op (fun x=>(eX env x).g) (st.o.map af.g) (base+i.am),if ro then[] else wrt i.op (fun x=>(eX env x).g) (st.o.map af.g) (base+i.am))::tr) K
   else rk p base r ⟨iU env i.dst (.aD []),st.o⟩ ((i.idx,[],[])::tr) K
def af.iK:af→Bool
 | .dead=>true
 |_=>false
def yz (base:Nat) (o:a8):a8:=if(o.drop base).all (·.iK) then o.take base else o
def tt (p:dY) (k:Nat) (ops:List bA) (b6:List (Nat×Nat)) (st:aN) (K:aN→Prop):Prop:=
 rk p st.o.length ops ⟨st.env,st.o++List.replicate k .dead⟩ [] fun st' tr=>
  if b6.isEmpty||nj (st.o.length+k) tr.reverse b6 then K ⟨st'.env,if k=0 then st'.o else yz st.o.length st'.o⟩ else False
mutual
def fw (id:Nat) (s:ai) (l:List s.T):SV→(SV→Prop)→Prop
 | .ow j n sz,K=>if j=id then(if sz=s.sz then n=l.length∧K (.row s l) else False) else K (.ow j n sz)
 | .os j off len n sz,K=>if j=id then(if sz=s.sz then n=l.length∧off+len≤n∧K (.row s ((l.drop off).take len)) else False) else K (.os j off len n sz)
 | .oc j off len n sz,K=>if j=id then False else K (.oc j off len n sz)
 | .rp j i f n sz,K=>if j=id then False else K (.rp j i f n sz)
 | .ptr j f t,K=>if j=id then False else K (.ptr j f t)
 | .ap j a b c d e,K=>if j=id then False else K (.ap j a b c d e)
 | .agg cs,K=>lI id s l cs fun cs'=>K (.agg cs')
 | .aD cs,K=>lI id s l cs fun cs'=>K (.aD cs')
 | .fn f a b,K=>lI id s l a fun a'=>lI id s l b fun b'=>K (.fn f a' b')
 |v,K=>K v
def lI (id:Nat) (s:ai) (l:List s.T):List SV→(List SV→Prop)→Prop
 |[],K=>K []
 |c::cs,K=>fw id s l c fun c'=>lI id s l cs fun cs'=>K (c'::cs')
end
def tu (id:Nat) (s:ai) (l:List s.T):cG→(cG→Prop)→Prop
 |[],K=>K []
 |(k,v)::r,K=>fw id s l v fun v'=>tu id s l r fun r'=>K ((k,v')::r')
def jy (id:Nat) (s:ai) (l:List s.T):Nat→a8→(a8→Prop)→Prop
 |_,[],K=>K []
 |i,x::r,K=>match x with
  | .cells cs e sz pu=>if pu then(if i=id then False else jy id s l (i+1) r fun r'=>K (.cells cs e sz pu::r')) else lI id s l cs fun cs'=>jy id s l (i+1) r fun r'=>K (.cells cs' e sz pu::r')
  | .iT s' l' e t=>if i=id then False else lI id s l t fun t'=>match nI s' 1 t' with
   |some m=>jy id s l (i+1) r fun r'=>K (.row s' (l'++m) e false::r')
   |none=>False
  | .row s' l' e pu=>if i=id then(if pu then jy id s l (i+1) r fun r'=>K (.dead::r') else False) else jy id s l (i+1) r fun r'=>K (.row s' l' e pu::r')
  |x=>jy id s l (i+1) r fun r'=>K (x::r')
def nL (p:dY) (lo:Nat) (h:gq) (st:aN) (K:aN→Prop):Prop:=
 if h.own then match h.off with
  |none=>if isNil (fo st.env h.slot) then(match p.ty h.e with
    |some s=>if s.sz=h.sz then K ⟨(h.slot,.ow st.o.length 0 h.sz)::st.env,st.o++[.row s [] h.e h.pu]⟩ else False
    |none=>False) else if h.sz=0 then(match fo st.env h.slot with
     | .ow id _ _=>match st.o[id]? with
      |some (.row s l e true)=>K ⟨st.env,st.o.set id (.row s l e false)⟩
      |_=>False
     |_=>False) else K st
  |some k=>match fo st.env h.slot with
   | .ptr id off tot=>match st.o[id]? with
    |some (.cells cs e sz pu)=>if(cs[off+k]?).any isNil then(if cs.length=tot∧pu=false then(match p.ty h.e with
      |some s=>if s.sz=h.sz then K ⟨st.env,(st.o.set id (.cells (cs.set (off+k) (.ow st.o.length 0 h.sz)) e sz pu))++[.row s [] h.e h.pu]⟩ else False
      |none=>False) else False) else K st
    |_=>False
   |_=>False
 else match Ie h st with
  |some (some id)=>if Nat.ble lo id then(match st.o[id]? with
   |some (.row s l e pu)=>tu id s l st.env fun env=>jy id s l 0 (if pu then st.o else st.o.set id (.row s l e true)) fun o=>K ⟨env,o⟩
   |_=>False) else K st
  |some none=>K st
  |none=>False
where
 rl:SV→Option Nat
  | .ow id .. =>some id
  | .os id .. =>some id
  | .oc id .. =>some id
  |_=>none
 Ie (h:gq) (st:aN):Option (Option Nat):=
  match h.off with
  |none=>some (rl (fo st.env h.slot))
  |some k=>match fo st.env h.slot with
   | .ptr id off tot=>match st.o[id]? with
    |some (.cells cs _ _ _)=>if cs.length=tot then(cs[off+k]?).map rl else none
    |_=>none
   |_=>none
def rm (p:dY) (lo:Nat):List gq→aN→(aN→Prop)→Prop
 |[],st,K=>K st
 |h::hs,st,K=>nL p lo h st fun st'=>rm p lo hs st' K
def yA (live:List Nat) (env:cG):cG:=live.map fun s=>(s,fo env s)
def trimS (k:Nat) (st:aN):aN:=
 if st.o.length≤k then st
 else if(st.env.all fun p=>p.2.a6 k)&&((st.o.take k).all fun x=>x.a6 k) then⟨st.env,st.o.take k⟩ else st
def rq:cG→cG→Prop
 |[],[]=>True
 |(k,v)::e,(k',v')::e'=>if k=k' then v.same v'∧rq e e' else False
 |_,_=>False
def tB (s t:aN):Prop:=rq s.env t.env∧iF s.o t.o
def iS (s:aN) (k:Nat):Int:=match fo s.env k with
 | .si _ n=>n
 | .il _ n=>n
 |_=>0
def rS (t:ai) (s:aN) (k:Nat):List t.T:=match fo s.env k with
 | .row t' l=>match gh t' t l with
  |some l=>l
  |none=>[]
 |_=>[]
def oS (t:ai) (s:aN) (id:Nat):List t.T:=match s.o[id]? with
 |some (.row t' l _ _)=>match gh t' t l with
  |some l=>l
  |none=>[]
 |_=>[]
def splitN (v:Int) (n:Nat) (K:Nat→Prop):Nat→Prop
 |0=>0≤v∧v<n
 |j+1=>(v=(n - (j+1):Nat)→K (n - (j+1)))∧splitN v n K j
def splitK (x:Option (Nat×Nat×Nat)) (st:aN) (K:aN→Prop):Prop:=
 match x with
 |none=>K st
 |some (id,off,n)=>match st.o[id]? with
  |some (.cells cs e sz pu)=>match cs[off]? with
   |some (.si k v)=>splitN v n (fun j=>K ⟨st.env,st.o.set id (.cells (cs.set off (.il k j)) e sz pu)⟩) n
   |_=>False
  |_=>False
inductive bz where
 |mJ (n:Nat)
 |look
 |inv (X:Type) (shape:X→aN) (next:aN→X) (J:X→Prop) (m:X→Nat) (inner:X→Nat→bz)
def Look (_:aN):Prop:=False
def pH:IR→Nat
 | .region id .. =>id
 | .seq .skip b=>pH b
 | .seq a _=>pH a
 | .block _ b=>pH b
 | .loop b=>pH b
 | .turns _ b=>pH b
 |_=>0
def BM (W:aN→(Out→aN→Prop)→Prop) (Q:Out→aN→Prop):Nat→aN→Prop
 |0,_=>False
 |n+1,st=>W st fun out s=>match out with
  | .norm=>BM W Q n (trimS st.o.length s)
  |o=>Q o s
def tC (t:Nat):cG→cG
 |[]=>[]
 |p::r=>bif Nat.beq p.1 t then tC t r else p::tC t r
def ry (x:Operand) (env:cG):cG:=
 match x with
 | .tmp t=>tC t env
 |_=>env
def yB (env:cG) (x:Operand) (v:SV):cG:=
 match x with
 | .tmp t=>rj env t v
 |_=>env
abbrev YS:=List SV→a8→(SV→a8→Prop)→Prop
mutual
def SV.bL:SV→Bool
 | .agg cs| .aD cs=>nM cs
 | .fn (.yield _) _ _=>false
 | .fn _ a b=>nM a&&nM b
 |_=>true
def nM:List SV→Bool
 |[]=>true
 |c::cs=>c.bL&&nM cs
end
def af.bL:af→Bool
 | .cells cs _ _ pu=>pu||nM cs
 | .iT _ _ _ t=>nM t
 |_=>true
def BN (op:bk) (ρ:Operand→SV):Option (List SV):=
 match op with
 | .eF x args _=>match ρ x with
  | .fn (.yield _) [] []=>some (args.map ρ)
  |_=>none
 |_=>none
def rA (p:dY) (Y:YS) (base:Nat):List bA→aN→(aN→Prop)→Prop
 |[],st,K=>K st
 |i::r,st,K=>yy st.env i.guard fun env w=>
   if w then match BN i.op (eX env) with
    |some vs=>Y vs st.o fun v o'=>rA p Y base r ⟨iU env i.dst v,o'⟩ K
    |none=>cM p i.op (eX env) st.o (base+i.am) fun v o'=>rA p Y base r ⟨iU env i.dst v,o'⟩ K
   else rA p Y base r ⟨iU env i.dst (.aD []),st.o⟩ K
def BO (p:dY) (Y:YS) (k:Nat) (ops:List bA) (st:aN) (K:aN→Prop):Prop:=
 rA p Y st.o.length ops ⟨st.env,st.o++List.replicate k .dead⟩ fun st'=>K ⟨st'.env,if k=0 then st'.o else yz st.o.length st'.o⟩
def If (p:dY) (Y:Option YS) (draw:Bool) (k:Nat) (ops:List bA) (b6:List (Nat×Nat)) (st:aN) (K:aN→Prop):Prop:=
 match Y,draw with
 |none,_=>tt p k ops b6 st K
 |some _,true=>tt p k ops b6 st K
 |some y,false=>BO p y k ops st K
def d6 (p:dY) (E:Operand→List Nat→IR→IR→(Nat→bz)→aN→(Out→aN→Prop)→Prop) (Y:Option YS) (lo:Nat):IR→(Nat→bz)→aN→(Out→aN→Prop)→Prop
 | .skip,_,st,Q=>Q .norm st
 | .region id draw k ops b6 live pre post,_,st,Q=>splitK (p.sp id) st fun st0=>rm p lo pre st0 fun st1=>If p Y draw k ops b6 st1 fun st2=>rm p lo post ⟨yA live st2.env,st2.o⟩ fun pI=>Q .norm pI
 | .seq a b,Λ,st,Q=>d6 p E Y lo a Λ st fun out s=>match out with
  | .norm=>d6 p E Y lo b Λ s Q
  |o=>Q o s
 | .cond x a b,Λ,st,Q=>match eX st.env x with
  | .bl true=>d6 p E Y lo a Λ ⟨ry x st.env,st.o⟩ Q
  | .bl false=>d6 p E Y lo b Λ ⟨ry x st.env,st.o⟩ Q
  | .sb c=>(c=true→d6 p E Y lo a Λ ⟨ry x st.env,st.o⟩ Q)∧(c=false→d6 p E Y lo b Λ ⟨ry x st.env,st.o⟩ Q)
  |_=>False
 | .block id b,Λ,st,Q=>d6 p E Y lo b Λ st fun out s=>Q (out.inBlock id) s
 | .loop b,Λ,st,Q=>match Λ (pH b) with
  | .mJ n=>BM (d6 p E Y lo b Λ) Q n st
  | .look=>Look st
  | .inv _ shape next J m inner=>(tB st (shape (next st))∧J (next st))∧∀x,J x→d6 p E Y lo b (inner x) (shape x) fun out s=>match out with
   | .norm=>tB (trimS (shape x).o.length s) (shape (next (trimS (shape x).o.length s)))∧J (next (trimS (shape x).o.length s))∧m (next (trimS (shape x).o.length s))<m x
   |o=>Q o s
 | .exit id,_,st,Q=>Q (.exit id) st
 | .ret,_,st,Q=>Q .ret st
 | .goto l,_,st,Q=>Q (.goto l) st
 | .jE x a b,Λ,st,Q=>match eX st.env x with
  | .bl true=>d6 p E Y lo a Λ st Q
  | .bl false=>d6 p E Y lo b Λ st Q
  | .sb c=>(c=true→d6 p E Y lo a Λ ⟨yB st.env x (.bl true),st.o⟩ Q)∧(c=false→d6 p E Y lo b Λ ⟨yB st.env x (.bl false),st.o⟩ Q)
  |_=>False
 | .turns none b,Λ,st,Q=>d6 p E Y lo b Λ st fun out s=>match out with
  | .goto _=>False
  |o=>Q o s
 | .turns (some l) b,Λ,st,Q=>match Λ (pH b) with
  | .inv _ shape next J m inner=>(tB st (shape (next st))∧J (next st))∧∀x,J x→d6 p E Y lo b (inner x) (shape x) fun out s=>match out with
   | .goto l'=>l'=l∧tB (trimS (shape x).o.length s) (shape (next (trimS (shape x).o.length s)))∧J (next (trimS (shape x).o.length s))∧m (next (trimS (shape x).o.length s))<m x
   |o=>Q o s
  |_=>Look st
 | .each x ps az bd,Λ,st,Q=>E x ps az bd Λ st Q
 | .qt ..,_,_,_=>False
def BP:Operand→List Nat→IR→IR→(Nat→bz)→aN→(Out→aN→Prop)→Prop:=fun _ _ _ _ _ _ _=>False
def jP:Nat→List SV→cG
 |_,[]=>[]
 |i,v::vs=>(i,v)::jP (i+1) vs
def yC:List Nat→List SV→cG→cG
 |p::ps,v::vs,env=>yC ps vs ((p,v)::env)
 |_,_,env=>env
def iV (st:aN) (rs:List iN) (K:SV→Prop):Prop:=
 goK rs fun l=>match l with
  |[v]=>K v
  |l=>K (.aD l)
where
 goK:List iN→(List SV→Prop)→Prop
  |[],K=>K []
  |r::rs,K=>Ig r fun v=>goK rs fun l=>K (v::l)
 Ig (r:iN) (K:SV→Prop):Prop:=match r.cell with
  |none=>K (fo st.env r.slot)
  |some n=>iE st.o (fo st.env r.slot) n K
def yD (p:dY) (ps:List Nat) (az bd:IR) (Λ:Nat→bz) (env:cG):YS:=fun vs o K=>
 if vs.length=ps.length then d6 p BP none o.length az Λ ⟨yC ps vs env,o⟩ fun out s1=>match out with
  | .norm=>d6 p BP none s1.o.length bd Λ s1 fun out s2=>match out with
   | .norm=>K (.bl true) (trimS o.length ⟨[],s2.o⟩).o
   |_=>False
  |_=>False
 else False
def BQ (p:dY) (x:Operand) (ps:List Nat) (az bd:IR) (Λ:Nat→bz) (st:aN) (Q:Out→aN→Prop):Prop:=
 match eX st.env x with
 | .fn (.func f) first captured=>match p.it f with
  |some F=>if first.length+1+captured.length=F.params∧st.env.all (fun p=>p.2.bL)=true∧st.o.all af.bL=true then
    d6 p BP (some (yD p ps az bd Λ st.env)) st.o.length F.body (fun n=>Λ (1000+n)) ⟨jP 0 (first++[.fn (.yield 0) [] []]++captured),st.o⟩ fun out s=>match out with
     | .exit _=>False
     | .goto _=>False
     |_=>iV s F.res fun r=>if r.a6 st.o.length&&s.o.all (fun x=>x.a6 st.o.length)&&decide (st.o.length≤s.o.length)&&(s.o.take st.o.length).all af.bL then Q .norm ⟨st.env,s.o.take st.o.length⟩ else False
   else False
  |none=>False
 |_=>False
def wpS (p:dY) (lo:Nat):IR→(Nat→bz)→aN→(Out→aN→Prop)→Prop:=d6 p (BQ p) none lo
def rB (p:dY) (Λ:Nat→bz) (F:aT) (args:List SV) (Q:SV→Prop):Prop:=
 wpS p 0 F.body Λ ⟨jP 0 args,[]⟩ fun out st=>match out with
  | .exit _=>False
  | .goto _=>False
  |_=>iV st F.res fun r=>mG st.o 6 r Q
def yE (p:dY) (Λ:Nat→bz) (F:aT) (args:List SV) (o:a8) (Q:SV→a8→Prop):Prop:=
 wpS p o.length F.body Λ ⟨jP 0 args,o⟩ fun out st=>match out with
  | .exit _=>False
  | .goto _=>False
  |_=>iV st F.res fun r=>if r.a6 o.length&&st.o.all (fun x=>x.a6 o.length)&&decide (o.length≤st.o.length) then Q r (st.o.take o.length) else False
def gE (env:cG):dI:=env.map fun p=>(p.1,p.2.g)
def gO (o:a8):Store:=o.map af.g
def aN.g (st:aN):St:=⟨gE st.env,gO st.o⟩
theorem iW:∀(env:cG) (s:Nat),bE (gE env) s=(fo env s).g
 |[],_=>by simp[gE,bE,fo,SV.g]
 |p::r,s=>by
  have:=iW r s
  simp only[gE,List.map_cons,bE,fo] at this ⊢
  rw[this]
  cases Nat.beq p.1 s<;>rfl
theorem rC (env:cG) (d:Option Nat) (v:SV):gE (iU env d v)=jl (gE env) d v.g:=by
 cases d<;>simp[iU,jl,gE]
theorem Ih (v:Value):(SV.jO v).g= .sc v:=by cases v<;>simp[SV.jO,SV.g]
theorem BR (l:List Value):(l.map SV.jO).map SV.g=l.map .sc:=by simp[Ih]
theorem pJ (env:cG) (x:Operand):b8 (gE env) x=(eX env x).g:=by
 cases x with
 |tmp t=>simp[b8,eX,iW]
 |const v=>
  cases v<;>simp[b8,eX,AV.l9,SV.l9,SV.g]
  split<;>simp[SV.g,dj,Ih]
 |global g=>simp[b8,eX,SV.g]
 |func f=>simp[b8,eX,SV.g,gL]
theorem BS (env:cG):b8 (gE env)=fun x=>(eX env x).g:=funext fun x=>pJ env x
theorem yF (v:SV):v.g.cellsOf=gL v.cellsOf:=by
 cases v<;>simp[SV.g,AV.cellsOf,SV.cellsOf,gL]
theorem TA (v:SV):v.g.one=v.one:=by
 cases v<;>simp[SV.g,AV.one,SV.one,Value.oneCell']
theorem yG (l:List SV):cz (gL l)=pB l:=by
 induction l with
 |nil=>simp[gL,cz,pB]
 |cons v l ih=>simp only[cz,pB,gL,List.all_cons,TA] at ih ⊢;rw[ih]
theorem Ii:∀(l:List SV),yv l=true→bJ (gL l)=true
 |[],_=>by simp[gL,bJ]
 |v::l,h=>by
  simp only[yv,Bool.and_eq_true] at h
  simp only[gL,bJ,Ii l h.2,Bool.and_true]
  have h1:=h.1
  cases v<;>simp[SV.pure] at h1<;>simp[SV.g,AV.pure,nG]
mutual
theorem tG (k:Nat):∀(v:SV),v.g.a6 k=v.a6 k
 | .agg cs=>by simp only[SV.g,AV.a6,SV.a6];exact pK k cs
 | .aD cs=>by simp only[SV.g,AV.a6,SV.a6];exact pK k cs
 | .fn _ a b=>by simp only[SV.g,AV.a6,SV.a6,pK k a,pK k b]
 | .ud| .sc _| .il .. | .si .. | .bl _| .sb _| .row .. | .ep .. | .ptr .. | .ap .. | .rp .. | .ow .. | .os .. | .oc .. | .mp _=>by simp[SV.g,AV.a6,SV.a6]
theorem pK (k:Nat):∀(l:List SV),b7 k (gL l)=mD k l
 |[]=>by simp[gL,b7,mD]
 |v::l=>by simp only[gL,b7,mD,tG k v,pK k l]
end
theorem TB (k:Nat) {sk sv:ai} (ka:Bool) (es:List (sk.T×sv.T)):b7 k ((es.map fun p=>(kw sk ka p.1,iD sv p.2)).map (·.2))=true:=
 BG fun a h=>by
  simp only[List.map_map,List.mem_map,Function.comp] at h
  obtain⟨p,_,rfl⟩:=h
  simp[iD,AV.a6]
theorem yH (k:Nat) (x:af):x.g.a6 k=x.a6 k:=by
 cases x with
 |dead=>rfl
 |cells cs e sz pu=>simp[af.g,aP.a6,af.a6,pK]
 |row s l e pu=>simp[af.g,aP.a6,af.a6,H7]
 |iT s l e t=>
  have happ:∀a b:List AV,b7 k (a++b)=(b7 k a&&b7 k b):=fun a b=>by
   induction a with
   |nil=>simp[b7]
   |cons c a ih=>simp only[List.cons_append,b7,ih,Bool.and_assoc]
  simp only[af.g,aP.a6,af.a6,happ,H7,pK,Bool.true_and,Bool.false_or]
 |map sk sv ka es kt pu=>simp only[af.g,aP.a6,af.a6,TB,Bool.or_true]
mutual
theorem Ij:∀(v:SV),v.fW=true→v.g.fW=true
 | .agg cs,h=>by simp only[SV.fW] at h;simp only[SV.g,AV.fW];exact BU cs h
 | .aD cs,h=>by simp only[SV.fW] at h;simp only[SV.g,AV.fW];exact BU cs h
 | .ud,_| .sc _,_| .il ..,_| .si ..,_| .bl _,_| .sb _,_=>by simp[SV.g,AV.fW]
 | .row ..,h| .ep ..,h| .ptr ..,h| .ap ..,h| .rp ..,h| .ow ..,h| .os ..,h| .oc ..,h| .mp _,h| .fn ..,h=>by simp[SV.fW] at h
theorem BU:∀(l:List SV),yw l=true→oN (gL l)=true
 |[],_=>by simp[gL,oN]
 |v::l,h=>by
  simp only[yw,Bool.and_eq_true] at h
  simp only[gL,oN,Ij v h.1,BU l h.2,Bool.and_true]
end
theorem eY (l:List SV):(gL l).length=l.length:=by simp[dj]
theorem nN (l:List SV) (i:Nat):(gL l)[i]?=(l[i]?).map SV.g:=by simp[dj]
theorem Ik (a b:List SV):gL (a++b)=gL a++gL b:=by simp[dj]
theorem yI {cs:List SV} {off:Nat} {n:Option Nat} {v:SV} (h:mE cs off n=some v):dJ (gL cs) off n=some v.g:=by
 cases n with
 |none=>simp only[mE] at h;simp[dJ,nN,h]
 |some m=>
  simp only[mE] at h
  split at h
  ·rename_i hl
   simp only[Option.some.injEq] at h;subst h
   simp only[dJ]
   rw[if_pos (by rw[eY];exact hl)]
   simp only[SV.g,dj,List.map_take,List.map_drop]
  ·cases h
theorem tH:∀(vs cs:List SV) (off:Nat),gL (nH cs off vs)=dE (gL cs) off (gL vs)
 |[],cs,off=>by simp[nH,gL,dE]
 |v::vs,cs,off=>by
  simp only[nH,gL,dE]
  rw[tH vs]
  congr 1
  simp[dj]
theorem BV (cs:List SV):gL (cs.map SV.qn)=(gL cs).map AV.qn:=by
 rw[dj,dj,List.map_map,List.map_map]
 exact List.map_congr_left fun v _=>Tu v
theorem BW (pu:Bool) (cs:List SV):gL (if pu then cs.map SV.qn else cs)=cp pu (gL cs):=by
 unfold cp
 split
 ·exact BV cs
 ·rfl
theorem TC {c:AV} (h:Plain c.qn):c.one=true∧c.pure=true:=by
 by_cases hc:c.qn=c
 ·rw[hc] at h
  exact⟨h.one,h.pure⟩
 ·unfold AV.qn at hc
  split at hc
  ·exact⟨rfl,rfl⟩
  ·exact absurd rfl hc
theorem BX {pu:Bool} {cs:List AV} (h:∀c∈cp pu cs,Plain c):cz cs=true∧bJ cs=true:=by
 have key:∀c∈cs,c.one=true∧c.pure=true:=by
  intro c hc
  unfold cp at h
  split at h
  ·exact TC (h _ (List.mem_map_of_mem hc))
  ·exact⟨(h c hc).one,(h c hc).pure⟩
 exact⟨by simp only[cz,List.all_eq_true];exact fun c hc=>(key c hc).1,yu fun c hc=>(key c hc).2⟩
theorem BY:∀(vs a b c:List AV) (off:Nat),off+vs.length≤b.length→dE (a++b++c) (a.length+off) vs=a++dE b off vs++c
 |[],a,b,c,off,_=>rfl
 |v::vs,a,b,c,off,h=>by
  simp only[List.length_cons] at h
  simp only[dE]
  have h1:(a++b++c).set (a.length+off) v=a++b.set off v++c:=by
   rw[List.append_assoc,List.set_append_right _ _ (by omega),Nat.add_sub_cancel_left,List.set_append_left _ _ (by omega),List.append_assoc]
  rw[h1,Nat.add_assoc,BY vs a (b.set off v) c (off+1) (by simp;omega)]
theorem Il {s:ai} {l:List s.T} {i:Nat} (h:i<l.length):bn s l=bn s (l.take i)++bP s (ae l i s.dflt)++bn s (l.drop (i+1)):=by
 have h1:l=l.take i++l[i]::l.drop (i+1):=by simp
 rw[bF h]
 conv=>lhs;rw[h1]
 rw[BH]
 simp only[bn,List.flatMap_cons,List.append_assoc]
theorem take_len {α:Type} {l:List α} {i:Nat} (h:i<l.length):(l.take i).length=i:=by simp;omega
theorem TD {s:ai} {l:List s.T} {i off:Nat} {v:s.T} {vs:List AV} (h:i<l.length) (ho:off+vs.length≤s.sz) (hw:dE (bP s (ae l i s.dflt)) off vs=bP s v):
  dE (bn s l) (i*s.sz+off) vs=bn s (l.set i v):=by
 have hl:(bn s (l.take i)).length=i*s.sz:=by rw[dD,take_len h]
 rw[Il h,←hl,BY _ _ _ _ _ (by rw[gC];exact ho),hw]
 have h2:i<(l.set i v).length:=by simpa using h
 rw[Il h2,bF h2]
 simp[List.take_set_of_le,List.drop_set_of_lt]
theorem Im {s:ai} {l:List s.T} {i off:Nat} {n:Option Nat} {v:SV} (h:i<l.length) (hp:mE (encS s (ae l i s.dflt)) off n=some v):dJ (bn s l) (i*s.sz+off) n=some v.g:=by
 have hg:=yI hp
 rw[dj,mC] at hg
 have hd:=Tz (s:=s) h
 have hlen:(bn s l).length=i*s.sz+(s.sz+(bn s (l.drop (i+1))).length):=by
  have:=congrArg List.length hd
  simp only[List.length_drop,List.length_append,gC] at this
  have h2:=dD s l
  have h3:i*s.sz≤l.length*s.sz:=Nat.mul_le_mul_right _ (by omega)
  omega
 cases n with
 |none=>
  simp only[dJ] at hg ⊢
  rw[←List.getElem?_drop,hd,List.getElem?_append_left]
  ·exact hg
  ·exact(List.getElem?_eq_some_iff.1 hg).1
 |some m=>
  simp only[dJ,gC] at hg
  split at hg
  ·rename_i hl
   simp only[dJ]
   rw[if_pos (by omega),←List.drop_drop,hd,List.drop_append_of_le_length (by rw[gC];omega),List.take_append_of_le_length (by rw[List.length_drop,gC];omega)]
   exact hg
  ·cases hg
theorem eP {α:Type} {x:Option α} {K:α→Prop} (h:eH x K):∃a,x=some a∧K a:=by
 cases x with
 |none=>exact h.elim
 |some a=>exact⟨a,rfl,h⟩
theorem BZ (o:a8) (i:Nat):(gO o)[i]?=(o[i]?).map af.g:=by simp[gO]
theorem ic (o:a8):(gO o).length=o.length:=by simp[gO]
theorem kx (o:a8) (i:Nat) (x:af):gO (o.set i x)=(gO o).set i x.g:=by simp[gO]
theorem dA {o:a8} {i:Nat} {x:af} (h:o[i]?=some x):(gO o)[i]?=some x.g:=by rw[BZ,h];rfl
theorem Io:∀{cs:List SV} {l:List Int},ints cs=some l→cs.length=l.length∧∀i,i<l.length→(cs[i]?).map SV.g=some (.sc (.int .i64 (ae l i 0))):=by
 intro cs l h
 have h1:=yr h
 have h2:cs.length=l.length:=by simpa using congrArg List.length h1
 refine⟨h2,fun i hi=>?_⟩
 have:=congrArg (fun l=>l[i]?) h1
 simp only[List.getElem?_map] at this
 rw[this,List.getElem?_eq_getElem hi,bF hi]
 rfl
theorem Ip:∀{cs:List SV} {l:List (List Off)},iE.rowsOff cs=some l→cs.length=l.length∧∀i,i<l.length→cs[i]?=some (.row .off (ae l i []))
 |[],l,h=>by simp[iE.rowsOff] at h;subst h;simp
 |c::cs,l,h=>by
  cases c with
  |row s x=>
   cases s<;>simp only[iE.rowsOff,reduceCtorEq] at h
   obtain⟨l',h1,rfl⟩:=Option.map_eq_some_iff.1 h
   obtain⟨h2,h3⟩:=Ip h1
   refine⟨by simp[h2],fun i hi=>?_⟩
   cases i with
   |zero=>simp[ae]
   |succ i=>simp only[List.getElem?_cons_succ];rw[h3 i (by simpa using hi)];simp[ae]
  |_=>simp[iE.rowsOff] at h
theorem TE {cs:List SV} {sz i:Nat} {n:Option Nat} {K:SV→Prop} (h:iE.tp cs sz i n K) (hi:i*sz<cs.length):∃v,dJ (gL cs) (i*sz) n=some v.g∧K v:=by
 unfold iE.tp at h
 split at h
 ·rw[Nat.mul_one] at hi ⊢
  split at h
  ·rename_i l hl
   obtain⟨h1,h2⟩:=Io hl
   refine⟨_,?_,h⟩
   simp only[dJ,nN,SV.g]
   exact h2 i (by omega)
  ·split at h
   ·rename_i l hl
    obtain⟨h1,h2⟩:=Ip hl
    refine⟨_,?_,h⟩
    simp only[dJ,nN,h2 i (by omega)]
    rfl
   ·exact h.elim
 ·exact h.elim
theorem TF {cs:List AV} {base off m:Nat} {v:AV} (h:dJ ((cs.drop base).take m) off none=some v):dJ cs (base+off) none=some v:=by
 simp only[dJ,List.getElem?_take] at h ⊢
 split at h
 ·rwa [List.getElem?_drop] at h
 ·cases h
theorem Iq {o:a8} {a:SV} {n:Option Nat} {K:SV→Prop} (h:iE o a n K):∃cs off v,behind (gO o) a.g=some (cs,off)∧dJ cs off n=some v.g∧K v:=by
 cases a with
 |ptr id off tot=>
  simp only[iE] at h
  split at h
  ·rename_i cs e sz pu ho
   split at h
   ·rename_i hl
    obtain⟨v,hv,hk⟩:=eP h
    exact⟨gL cs,off,v,by simp[behind,SV.g,dA ho,af.g,eY,hl],yI hv,hk⟩
   ·exact h.elim
  ·exact h.elim
 |ap id base sz len tot i=>
  simp only[iE] at h
  split at h
  ·rename_i cs e sz' pu ho
   split at h
   ·rename_i hl
    obtain⟨h1,h2⟩:=h
    have hm:(i+1)*sz≤len*sz:=Nat.mul_le_mul_right _ h1
    rw[Nat.succ_mul] at hm
    have hc:sz*len=len*sz:=Nat.mul_comm ..
    by_cases hz:sz=0
    ·subst hz
     unfold iE.tp at h2
     split at h2
     ·rename_i hh;cases hh
     ·exact h2.elim
    ·have hlt:i*sz<((cs.drop base).take (sz*len)).length:=by simp only[List.length_take,List.length_drop];omega
     obtain⟨v,hv,hk⟩:=TE h2 hlt
     have hn:n=none:=by
      unfold iE.tp at h2
      split at h2
      ·rfl
      ·exact h2.elim
     subst hn
     refine⟨gL cs,base+i*sz,v,by simp[behind,SV.g,dA ho,af.g,eY,hl.1],?_,hk⟩
     have:gL ((cs.drop base).take (sz*len))=((gL cs).drop base).take (sz*len):=by simp[dj]
     rw[this] at hv
     exact TF hv
   ·exact h.elim
  ·exact h.elim
 |ep s l i off=>
  simp only[iE] at h
  obtain⟨hi,h2⟩:=h
  obtain⟨v,hv,hk⟩:=eP h2
  exact⟨bn s l,i*s.sz+off,v,by simp[behind,SV.g],Im hi hv,hk⟩
 |rp id i off m sz=>
  simp only[iE] at h
  split at h
  ·rename_i s l e pu ho
   split at h
   ·rename_i hsz
    subst hsz
    obtain⟨hm,hi,h2⟩:=h
    obtain⟨v,hv,hk⟩:=eP h2
    exact⟨bn s l,i*s.sz+off,v,by simp[behind,SV.g,dA ho,af.g,dD,hm],Im hi hv,hk⟩
   ·exact h.elim
  ·exact h.elim
 |_=>simp only[iE] at h
theorem B5 (o:Store) (d:Nat) {v:Value} (h:v≠ .slice none 0 0):freeze o d (.sc v)=some (.sc v):=by
 cases d<;>unfold freeze<;>split<;>simp_all
theorem Is (o:Store) (d:Nat) {a:AV} (h:Plain a):freeze o d a=some a:=by
 rcases h with⟨v,rfl,_,h⟩|⟨n,cs,rfl,_⟩
 ·exact B5 o d h
 ·cases d<;>simp[freeze]
theorem B6 {f:AV→Option AV}:∀{l:List AV},(∀a∈l,f a=some a)→l.mapM f=some l
 |[],_=>by simp
 |a::l,h=>by simp[List.mapM_cons,h a (by simp),B6 (l:=l) fun b hb=>h b (by simp[hb])]
theorem rD {o:Store} {d:Nat} {f:SV→(SV→Prop)→Prop} (hf:∀v K,f v K→∃v':SV,freeze o d v.g=some v'.g∧K v'):
  ∀{l:List SV} {K:List SV→Prop},pD f l K→∃l',(gL l).mapM (freeze o d)=some (gL l')∧K l'
 |[],K,h=>⟨[],by simp[gL],h⟩
 |v::l,K,h=>by
  obtain⟨v',h1,h2⟩:=hf v _ h
  obtain⟨l',h3,h4⟩:=rD hf h2
  exact⟨v'::l',by simp[gL,List.mapM_cons,h1,h3],h4⟩
theorem tJ {s:ai} {l:List s.T} {off len:Nat}:((bn s l).drop (off*s.sz)).take (len*s.sz)=bn s ((l.drop off).take len):=by
 rw[BI,H8]
theorem B7 {o:a8}:∀{d:Nat} {v:SV} {K:SV→Prop},mG o d v K→∃v',freeze (gO o) d v.g=some v'.g∧K v':=by
 intro d
 induction d with
 |zero=>
  intro v K h
  cases v<;>simp only[mG] at h
  case sc v=>
   split at h
   ·exact⟨_,by simp[SV.g,freeze,bn],h⟩
   ·rename_i hv
    exact⟨_,by simp only[SV.g];exact B5 _ _ hv,h⟩
  all_goals first|exact h.elim|exact⟨_,by simp[SV.g,freeze],h⟩
 |succ d ih=>
  intro v K h
  cases v<;>simp only[mG] at h
  case sc v=>
   split at h
   ·exact⟨_,by simp[SV.g,freeze,bn],h⟩
   ·rename_i hv
    exact⟨_,by simp only[SV.g];exact B5 _ _ hv,h⟩
  case agg cs=>
   obtain⟨l',h1,h2⟩:=rD (fun v K hv=>ih hv) h
   exact⟨_,by simp[SV.g,freeze,h1],h2⟩
  case aD cs=>
   obtain⟨l',h1,h2⟩:=rD (fun v K hv=>ih hv) h
   exact⟨_,by simp[SV.g,freeze,h1],h2⟩
  case fn f a b=>
   obtain⟨a',h1,h2⟩:=rD (fun v K hv=>ih hv) h
   obtain⟨b',h3,h4⟩:=rD (fun v K hv=>ih hv) h2
   exact⟨_,by simp[SV.g,freeze,h1,h3],h4⟩
  case ow id n sz=>
   split at h
   ·rename_i s l e pu ho
    split at h
    ·rename_i hsz
     obtain⟨rfl,hk⟩:=h
     subst hsz
     refine⟨_,?_,hk⟩
     have hself:(bn s l).mapM (freeze (gO o) d)=some (bn s l):=B6 fun a ha=>by
      exact Is _ _ (hZ ha)
     have htk:List.take (l.length*s.sz) (bn s l)=bn s l:=List.take_of_length_le (by rw[dD];omega)
     simp only[SV.g,freeze,dA ho,af.g,dD,Nat.zero_add,Nat.le_refl,and_self,if_true,List.drop_zero,htk,hself,nG]
     cases pu<;>simp
    ·exact h.elim
   ·exact h.elim
  case os id off len n sz=>
   split at h
   ·rename_i s l e pu ho
    split at h
    ·rename_i hsz
     obtain⟨rfl,hle,hk⟩:=h
     subst hsz
     refine⟨_,?_,hk⟩
     have hself:(bn s ((l.drop off).take len)).mapM (freeze (gO o) d)=some (bn s ((l.drop off).take len)):=B6 fun a ha=>by
      exact Is _ _ (hZ ha)
     have hm:(off+len)*s.sz≤l.length*s.sz:=Nat.mul_le_mul_right _ hle
     rw[Nat.add_mul] at hm
     have hll:((l.drop off).take len).length=len:=by simp;omega
     simp only[SV.g,freeze,dA ho,af.g,dD,hm,and_self,if_true,tJ,hself,nG,hll]
     cases pu<;>simp
    ·exact h.elim
   ·exact h.elim
  all_goals first|exact h.elim|exact⟨_,by simp[SV.g,freeze],h⟩
theorem yJ {k:IntKind} {n:Int} (h:aC k n):cO k n=n:=by
 cases k<;>simp only[aC,cO] at h ⊢
 ·exact h
 ·exact h
 ·exact h
 ·simp[h.1,h.2]
 ·exact h
 ·exact h
 ·split<;>first|rfl|exact h
 ·split<;>first|rfl|exact h
theorem iY {c:Prop} [Decidable c] {A:Prop} (h:if c then A else False):c∧A:=by
 split at h
 ·exact⟨‹_›,h⟩
 ·exact h.elim
theorem Iu {b:Int} {k:Nat} (h:b≤k):min b.toNat k=b.toNat:=by omega
theorem TG (a b:Int):(a==b)=decide (a=b):=rfl
theorem TI (a b:Int):(a !=b)=decide (a≠b):=by
 rw[Bool.eq_iff_iff]
 simp
theorem tK {k:IntKind} {n:Int} {K:Int→Prop} (h:pC k n K):K (cO k n):=by
 have hu:k= .u32→cO k n=n % 4294967296:=by
  rintro rfl
  rw[nl]
  simp[IntKind.wrap,IntKind.bits,IntKind.signed]
 have hv:k= .u64→cO k n=n % 18446744073709551616:=by
  rintro rfl
  rw[nl]
  simp[IntKind.wrap,IntKind.bits,IntKind.signed]
 unfold pC at h
 split at h
 ·rw[hu rfl];exact h
 ·rw[hv rfl];exact h
 ·rw[yJ h.1];exact h.2
theorem go_sound {op:BinOp} {k k':IntKind} {a b:Int} {K:SV→Prop} (h:dZ.go op K k a k' b):∃v v':_,dO op (.int k a) (.int k' b)=some v∧v'.g= .sc v∧K v':=by
 cases op<;>simp only[dZ.go] at h
 case shl=>
  obtain⟨h1,h2,h3⟩:=h
  refine⟨.int k (cO k (a*2^b.toNat)),.si k (cO k (a*2^b.toNat)),?_,rfl,tK h3⟩
  simp only[dO,if_neg (Int.not_lt.2 h1),Iu h2,AL]
 case shr=>
  obtain⟨h1,h2,h4⟩:=h
  refine⟨.int k (a / 2^b.toNat),_,?_,rfl,h4⟩
  have:a.fdiv (2^b.toNat)=a / 2^b.toNat:=Int.fdiv_eq_ediv_of_nonneg _ (by exact Int.le_of_lt (Int.pow_pos (by decide)))
  simp only[dO,if_neg (Int.not_lt.2 h1),Iu h2,AL,this]
 case add=>
  obtain⟨hk,hh⟩:=iY h
  subst hk
  exact⟨.int k (cO k (a+b)),.si k (cO k (a+b)),by simp only[dO,if_true,gr],rfl,tK hh⟩
 case sub=>
  obtain⟨hk,hh⟩:=iY h
  subst hk
  exact⟨.int k (cO k (a - b)),.si k (cO k (a - b)),by simp only[dO,if_true,gr],rfl,tK hh⟩
 case mul=>
  obtain⟨hk,hh⟩:=iY h
  subst hk
  exact⟨.int k (cO k (a*b)),.si k (cO k (a*b)),by simp only[dO,if_true,gr],rfl,tK hh⟩
 case quo=>
  obtain⟨hk,hh⟩:=iY h
  subst hk
  exact⟨.int k (a.tdiv b),_,by simp only[dO,if_true,gr,if_neg hh.1,yJ hh.2.1],rfl,hh.2.2⟩
 case rem=>
  obtain⟨hk,hh⟩:=iY h
  subst hk
  exact⟨.int k (a.tmod b),_,by simp only[dO,if_true,gr,if_neg hh.1],rfl,hh.2⟩
 case and=>
  obtain⟨hk,hh⟩:=iY h
  subst hk
  exact⟨.int k (dZ.pF k a b),_,by simp only[dO,if_true,gr,dZ.pF],rfl,hh⟩
 case or=>
  obtain⟨hk,hh⟩:=iY h
  subst hk
  exact⟨.int k (dZ.ju k a b),_,by simp only[dO,if_true,gr,dZ.ju],rfl,hh⟩
 case xor=>
  obtain⟨hk,hh⟩:=iY h
  subst hk
  exact⟨.int k (dZ.BJ k a b),_,by simp only[dO,if_true,gr,dZ.BJ],rfl,hh⟩
 case andNot=>
  obtain⟨hk,hh⟩:=iY h
  subst hk
  exact⟨.int k (dZ.BK k a b),_,by simp only[dO,if_true,gr,dZ.BK],rfl,hh⟩
 case eql=>
  obtain⟨hk,hh⟩:=iY h
  subst hk
  exact⟨.bool (decide (a=b)),_,by simp only[dO,if_true,gr,Option.some.injEq,Value.bool.injEq];exact TG a b,rfl,hh⟩
 case neq=>
  obtain⟨hk,hh⟩:=iY h
  subst hk
  exact⟨.bool (decide (a≠b)),_,by simp only[dO,if_true,gr,Option.some.injEq,Value.bool.injEq];exact TI a b,rfl,hh⟩
 case lss=>
  obtain⟨hk,hh⟩:=iY h
  subst hk
  exact⟨.bool (decide (a<b)),_,by simp only[dO,if_true,gr],rfl,hh⟩
 case leq=>
  obtain⟨hk,hh⟩:=iY h
  subst hk
  exact⟨.bool (decide (a≤b)),_,by simp only[dO,if_true,gr],rfl,hh⟩
 case gtr=>
  obtain⟨hk,hh⟩:=iY h
  subst hk
  exact⟨.bool (decide (b<a)),_,by simp only[dO,if_true,gr],rfl,hh⟩
 case geq=>
  obtain⟨hk,hh⟩:=iY h
  subst hk
  exact⟨.bool (decide (b≤a)),_,by simp only[dO,if_true,gr],rfl,hh⟩
theorem TJ {op:BinOp} {x y:SV} {K:SV→Prop} (h:dZ op x y K):∃a b v v',x.g= .sc a∧y.g= .sc b∧dO op a b=some v∧v'.g= .sc v∧K v':=by
 unfold dZ at h
 split at h
 ·split at h
  ·rename_i hs;exact⟨_,_,_,_,rfl,rfl,hs,rfl,h⟩
  ·rename_i hs;exact⟨_,_,_,_,rfl,rfl,hs,rfl,h⟩
  ·exact h.elim
 ·obtain⟨v,v',h1,h2,h3⟩:=go_sound h
  exact⟨_,_,v,v',rfl,rfl,h1,h2,h3⟩
 ·obtain⟨v,v',h1,h2,h3⟩:=go_sound h
  exact⟨_,_,v,v',rfl,rfl,h1,h2,h3⟩
 ·obtain⟨v,v',h1,h2,h3⟩:=go_sound h
  exact⟨_,_,v,v',rfl,rfl,h1,h2,h3⟩
 ·split at h
  ·exact⟨_,_,_,_,rfl,rfl,by simp only[dO],rfl,h⟩
  ·exact⟨_,_,_,_,rfl,rfl,by simp only[dO],rfl,h⟩
  ·exact h.elim
 ·exact h.elim
theorem tL {k:IntKind} {a b:Int}:seq1 (.int k a) (.int k b)=some (decide (a=b)):=by
 simp only[seq1,if_true,Option.some.injEq];rfl
theorem TK {x y:SV} {r:Bool} (h:BL x y=some r):∃a b,x.g= .sc a∧y.g= .sc b∧seq1 a b=some r:=by
 cases x<;>simp only[BL,reduceCtorEq] at h
 all_goals
  obtain⟨b,hb,rfl⟩:=Option.map_eq_some_iff.1 h
  first
   |exact⟨_,_,rfl,jN hb,tL⟩
   |exact⟨_,_,rfl,tj hb,by simp[seq1]⟩
theorem Iw:∀{x y:List SV} {r:Bool},nJ x y=some r→∃a b,gL x=a.map .sc∧gL y=b.map .sc∧dq a b=some r
 |[],[],r,h=>by simp[nJ] at h;subst h;exact⟨[],[],rfl,rfl,rfl⟩
 |[],_::_,r,h=>by simp[nJ] at h
 |_::_,[],r,h=>by simp[nJ] at h
 |x::xs,y::ys,r,h=>by
  simp only[nJ] at h
  split at h
  ·rename_i a b h1 h2
   simp only[Option.some.injEq] at h;subst h
   obtain⟨u,v,e1,e2,e3⟩:=TK h1
   obtain⟨us,vs,f1,f2,f3⟩:=Iw h2
   exact⟨u::us,v::vs,by simp[gL,e1,f1],by simp[gL,e2,f2],by simp[dq,e3,f3]⟩
  ·cases h
theorem B8:∀(l:List Value),mf (l.map .sc)=some l
 |[]=>rfl
 |v::l=>by simp[mf,B8 l]
theorem nO:∀{a b:List Value},a.map AV.sc=b.map AV.sc→a=b
 |[],[],_=>rfl
 |[],_::_,h=>by simp at h
 |_::_,[],h=>by simp at h
 |x::a,y::b,h=>by
  simp only[List.map_cons,List.cons.injEq,AV.sc.injEq] at h
  rw[h.1,nO h.2]
theorem pL:∀{ks:List Nat} {x:List SV} {a:List Value},gG ks x=true→gL x=a.map .sc→cq ks a=true
 |[],[],a,_,h=>by
  cases a with
  |nil=>rfl
  |cons a az=>simp[gL] at h
 |[],_::_,a,h,_=>by simp[gG] at h
 |_::_,[],a,h,_=>by simp[gG] at h
 |k::ks,x::xs,a,h,hg=>by
  cases a with
  |nil=>simp[gL] at hg
  |cons a az=>
   simp only[gL,List.map_cons,List.cons.injEq] at hg
   obtain⟨h1,h2⟩:=hg
   match k,x,h with
   |0,.si k n,h=>simp only[gG] at h;simp only[SV.g,AV.sc.injEq] at h1;subst h1;simpa[cq] using pL h h2
   |0,.il k n,h=>simp only[gG] at h;simp only[SV.g,AV.sc.injEq] at h1;subst h1;simpa[cq] using pL h h2
   |1,.sb b,h=>simp only[gG] at h;simp only[SV.g,AV.sc.injEq] at h1;subst h1;simpa[cq] using pL h h2
   |1,.bl b,h=>simp only[gG] at h;simp only[SV.g,AV.sc.injEq] at h1;subst h1;simpa[cq] using pL h h2
theorem TL {ks:List Nat} {a b:List SV} {r:Bool} (hk:(gG ks a&&gG ks b)=true) (h:nJ a b=some r):qu ks (gL a) (gL b)=some r:=by
 obtain⟨u,v,h1,h2,h3⟩:=Iw h
 simp only[Bool.and_eq_true] at hk
 rw[h1,h2]
 simp only[qu,B8,pL hk.1 h1,pL hk.2 h2,Bool.and_self,if_true,h3]
theorem TM {s s':ai} {l:List s.T} {l':List s'.T} (h:gh s s' l=some l'):s=s'∧HEq l l':=by
 unfold gh at h
 split at h
 ·rename_i hs
  subst hs
  simp only[Option.some.injEq] at h
  exact⟨rfl,heq_of_eq h⟩
 ·cases h
theorem tM {s s':ai} {l:List s.T} {l':List s'.T} (h:gh s s' l=some l'):s'=s∧bn s' l'=bn s l∧l'.length=l.length:=by
 obtain⟨rfl,h⟩:=TM h
 cases h
 exact⟨rfl,rfl,rfl⟩
theorem B9:∀{parts:List (Nat×Nat×SV)} {cs cs':List SV},mH parts cs=some cs'→gu (parts.map fun q=>(q.1,q.2.1,q.2.2.g)) (gL cs)=some (gL cs')
 |[],cs,cs',h=>by simp[mH] at h;subst h;rfl
 |(off,n,v)::r,cs,cs',h=>by
  simp only[mH] at h
  split at h
  ·rename_i hh
   obtain⟨h1,h2,h3⟩:=hh
   have:=B9 h
   simp only[List.map_cons,gu,yF,eY,yG]
   rw[if_pos ⟨h1,h2,h3⟩,←tH]
   exact this
  ·cases h
theorem yK {s:ai}:∀{n:Nat} {cs:List SV} {l:List s.T},nI s n cs=some l→gL cs=bn s l∧l.length=n
 |0,[],l,h=>by simp[nI] at h;subst h;simp[gL,bn]
 |0,_::_,l,h=>by simp[nI] at h
 |n+1,cs,l,h=>by
  simp only[nI] at h
  split at h
  ·rename_i x l' h1 h2
   simp only[Option.some.injEq] at h;subst h
   obtain⟨h3,h4⟩:=yK h2
   have h5:=js h1
   refine⟨?_,by simp[h4]⟩
   rw[dj] at h3 ⊢
   conv=>lhs;rw[←List.take_append_drop s.sz cs]
   rw[List.map_append,h5,h3]
   simp[bn]
  ·cases h
theorem TN {o:a8} {s:ai} {x:SV} {K:List s.T→Prop} (h:pE o s x K):∃l,iM (gO o) s.sz x.g=some (l.length,bn s l)∧K l:=by
 cases x with
 |row s' l=>
  simp only[pE] at h
  obtain⟨l',h1,h2⟩:=eP h
  obtain⟨rfl,h4,h5⟩:=tM h1
  exact⟨l',by simp only[SV.g,iM,dD,if_true,h4,h5],h2⟩
 |ow id n sz=>
  simp only[pE] at h
  split at h
  ·rename_i s' l e pu ho
   split at h
   ·rename_i hsz
    subst hsz
    obtain⟨rfl,h3⟩:=h
    obtain⟨l',h1,h6⟩:=eP h3
    obtain⟨rfl,h4,h5⟩:=tM h1
    refine⟨l',?_,h6⟩
    have htk:List.take (l.length*s.sz) (bn s l)=bn s l:=List.take_of_length_le (by rw[dD];omega)
    simp only[SV.g,iM,dA ho,af.g,dD,Nat.zero_add,Nat.le_refl,and_self,if_true,List.drop_zero,htk,h4,h5]
   ·exact h.elim
  ·exact h.elim
 |os id off len n sz=>
  simp only[pE] at h
  split at h
  ·rename_i s' l e pu ho
   split at h
   ·rename_i hsz
    subst hsz
    obtain⟨rfl,hle,h3⟩:=h
    obtain⟨l',h1,h6⟩:=eP h3
    obtain⟨rfl,h4,h5⟩:=tM h1
    refine⟨l',?_,h6⟩
    have hm:(off+len)*s.sz≤l.length*s.sz:=Nat.mul_le_mul_right _ hle
    rw[Nat.add_mul] at hm
    have hll:((l.drop off).take len).length=len:=by simp;omega
    simp only[SV.g,iM,dA ho,af.g,dD,hm,and_self,if_true,tJ,h4,h5,hll]
   ·exact h.elim
  ·exact h.elim
 |sc v=>
  cases v<;>simp only[pE] at h
  rename_i q a b
  cases q<;>try exact h.elim
  cases a<;>try exact h.elim
  cases b<;>try exact h.elim
  exact⟨[],by simp[SV.g,iM,bn],h⟩
 |_=>simp only[pE] at h
theorem Cb {v:SV} {n:Int} (h:tq v=some n):dU v.g=some n:=by
 cases v<;>simp[tq] at h<;>simp[SV.g,dU,h]
theorem ky {d:Nat} {x:Option SV} {K:Nat→Prop} (h:jw d x K):∃n,dP d (x.map SV.g)=some n∧K n:=by
 unfold jw at h
 split at h
 ·exact⟨_,rfl,h⟩
 ·split at h
  ·rename_i hn;exact⟨_,by simp[SV.g,dP,hn],h⟩
  ·exact h.elim
 ·exact⟨_,by simp[SV.g,dP,h.1],h.2⟩
 ·exact h.elim
theorem pM {am:Nat} {x:af} {o:a8} {K:a8→Prop} (h:mkK am x o K):∃o',fU am x.g (gO o)=some (gO o')∧K o':=by
 unfold mkK at h
 split at h
 ·rename_i ho
  exact⟨_,by simp[fU,dA ho,af.g,kx],h⟩
 ·exact h.elim
theorem TP {s:ai} (hk:s.keyed=true) (x y:s.T):dq (bN s x) (bN s y)=some (decide (x=y)):=by
 cases s<;>simp only[ai.keyed,reduceCtorEq] at hk
 ·simp only[bN,dq,tL,Bool.and_true]
 ·obtain⟨b,⟨a0,a1,a2,a3,a4,a5⟩⟩:=x
  obtain⟨b',⟨c0,c1,c2,c3,c4,c5⟩⟩:=y
  simp only[bN,iv,dq,tL,Option.some.injEq,Bool.and_true]
  rw[Bool.eq_iff_iff]
  simp[iC.mk.injEq,bp.mk.injEq]
 ·obtain⟨b,⟨a0,a1,a2,a3,a4,a5⟩,⟨d0,d1,d2,d3,d4,d5⟩⟩:=x
  obtain⟨b',⟨c0,c1,c2,c3,c4,c5⟩,⟨e0,e1,e2,e3,e4,e5⟩⟩:=y
  simp only[bN,iv,dq,tL,Option.some.injEq,Bool.and_true]
  rw[Bool.eq_iff_iff]
  simp only[Bool.and_eq_true,decide_eq_true_eq,Sit.mk.injEq,bp.mk.injEq]
  constructor<;>intro h<;>simp_all
theorem TQ {s:ai} {ka:Bool} (hk:s.keyed=true) (h1:ka=false→s.sz=1) (x y:s.T):keq (kw s ka x) (kw s ka y)=some (decide (x=y)):=by
 cases ka with
 |true=>simp[kw,keq,TP hk]
 |false=>
  have h2:=h1 rfl
  cases s<;>simp only[ai.keyed,reduceCtorEq] at hk<;>simp only[ai.sz,reduceCtorEq,Nat.reduceEqDiff] at h2
  simp only[kw,bN,List.headD_cons]
  simp only[keq,Bool.false_eq_true,if_false,tL]
theorem Cc {sk sv:ai} {ka:Bool} (hk:sk.keyed=true) (h1:ka=false→sk.sz=1) (x:sk.T):∀(es:List (sk.T×sv.T)) (i:Nat),
  ∃r,jm (kw sk ka x) (es.map fun p=>(kw sk ka p.1,iD sv p.2)) i=some r∧(match jv sk sv x es with|some v=>∃j,r=some (i+j,iD sv v)∧(∃p,es[j]?=some p∧p.1=x)∧(∀j'<j,∀p,es[j']?=some p→p.1≠x)|none=>r=none∧∀p∈es,p.1≠x)
 |[],i=>⟨none,by simp[jm],by simp[jv]⟩
 |p::es,i=>by
  simp only[List.map_cons,jm,TQ hk h1]
  by_cases hp:p.1=x
  ·refine⟨some (i,iD sv p.2),by simp[hp],?_⟩
   simp only[jv,List.find?_cons,hp,decide_true,Option.map_some]
   exact⟨0,by simp,⟨p,by simp,hp⟩,by simp⟩
  ·obtain⟨r,hr,hm⟩:=Cc hk h1 x es (i+1)
   have hp':¬x=p.1:=fun h=>hp h.symm
   refine⟨r,by simp[hp',hr],?_⟩
   have hf:jv sk sv x (p::es)=jv sk sv x es:=by simp[jv,List.find?_cons,hp]
   rw[hf]
   split at hm
   ·obtain⟨j,h2,⟨q,h3,h4⟩,h5⟩:=hm
    refine⟨j+1,by rw[h2];congr 2;omega,⟨q,by simpa using h3,h4⟩,fun j' hj q' hq=>?_⟩
    cases j' with
    |zero=>simp at hq;subst hq;exact hp
    |succ j'=>exact h5 j' (by omega) q' (by simpa using hq)
   ·refine⟨hm.1,fun q hq=>?_⟩
    rcases List.mem_cons.1 hq with rfl|hq
    ·exact hp
    ·exact hm.2 q hq
theorem Cd {sk sv:ai} {x:sk.T} {v:sv.T}:∀{es:List (sk.T×sv.T)},(∀p∈es,p.1≠x)→mI sk sv x v es=es++[(x,v)]
 |[],_=>rfl
 |p::es,h=>by
  simp only[mI,if_neg (h p (by simp)),List.cons_append]
  rw[Cd fun q hq=>h q (by simp[hq])]
theorem Ix {sk sv:ai} {x:sk.T} {v:sv.T}:∀{es:List (sk.T×sv.T)} {j:Nat},(∃p,es[j]?=some p∧p.1=x)→(∀j'<j,∀p,es[j']?=some p→p.1≠x)→mI sk sv x v es=es.modify j fun _=>(x,v)
 |[],j,⟨p,h,_⟩,_=>by simp at h
 |p::es,0,⟨q,h,hq⟩,_=>by
  simp at h;subst h
  simp[mI,hq,List.modify]
 |p::es,j+1,⟨q,h,hq⟩,h2=>by
  have hp:=h2 0 (by omega) p (by simp)
  simp only[mI,if_neg hp,List.modify_succ_cons]
  rw[Ix (j:=j) ⟨q,by simpa using h,hq⟩ fun j' hj q' hq'=>h2 (j'+1) (by omega) q' (by simpa using hq')]
theorem Iy {ks:List Nat} {ka:Bool} {s:ai} {v:SV} {x:s.T} (hko:gG ks v.cellsOf=true) (hag:pG ka v=true) (hf:s.flat=true) (hd:fj s v.cellsOf=some x):kP ks ka v.g=some (kw s ka x):=by
 have hd2:=js hd
 have hg:gL v.cellsOf=(bN s x).map .sc:=by rw[dj,hd2];exact yq s hf x
 have hk:=pL hko hg
 by_cases hv:∃cs,v= .agg cs
 ·obtain⟨cs,rfl⟩:=hv
  simp only[SV.cellsOf] at hg hk
  simp only[pG] at hag
  subst hag
  simp only[SV.g,kP,hg,B8,hk,Bool.and_self,if_true,kw]
 ·have TR:ka=false:=by
   cases v<;>simp[pG] at hag<;>first|exact hag|exact absurd ⟨_,rfl⟩ hv
  subst TR
  have hc:v.cellsOf=[v]:=by
   cases v<;>first|rfl|exact absurd ⟨_,rfl⟩ hv
  rw[hc] at hg
  simp only[gL] at hg
  cases hx:bN s x with
  |nil=>rw[hx] at hg;simp at hg
  |cons a r=>
   rw[hx] at hg hk
   simp only[List.map_cons,List.cons.injEq] at hg
   cases r with
   |cons=>simp at hg
   |nil=>rw[hg.1];simp[kP,hk,kw,hx]
theorem Iz {s:ai} (h:s.rh=true) (x:s.T):((encS s x).headD .ud).g=iD s x:=by
 cases s<;>simp[ai.rh] at h<;>simp[encS,iD,bN,SV.g]
theorem IA {s:ai} (h:s.rh=true) (x:s.T):bP s x=[iD s x]:=by
 cases s<;>simp[ai.rh] at h<;>simp[bP,iD,bN]
theorem IB {s:ai} (h:s.keyed=true):s.flat=true:=by
 cases s<;>simp[ai.keyed] at h<;>rfl
structure iZ (call:bB) (C:H9):Prop where
 pure:∀f args K,C.pure f args K→∃r:SV,call f (gL args) [] false=some (r.g,[])∧K r
 own:∀f args o K,C.own f args o K→∃(r:SV) (o':a8),eA call f (gL args) (gO o)=some (r.g,gO o')∧K r o'
section
variable {call:bB} {p:dY} {o:a8} {am:Nat} {K:SV→a8→Prop}
theorem IC (hC:iZ call p.C) {f:FuncId} {args:List SV} {own:Bool} (h:cM.yx p f args o own K):
  ∃(v:SV) (o':a8),ee call f (gL args) (gO o) own=some (v.g,gO o')∧K v o':=by
 unfold cM.yx at h
 split at h
 ·rename_i ho
  obtain⟨r,o',h1,h2⟩:=hC.own _ _ _ _ h
  exact⟨r,o',by simp only[ee,ho,if_true,h1],h2⟩
 ·rename_i ho
  have ho:own=false:=by simpa using ho
  subst ho
  obtain⟨args',h1,h2⟩:=rD (o:=gO o) (d:=6) (fun v K hv=>B7 hv) h
  obtain⟨r,h3,h4⟩:=hC.pure _ _ _ h2
  split at h4
  ·rename_i ht
   refine⟨r,o,?_,h4⟩
   simp only[ee,Bool.false_eq_true,if_false,h1,h3]
   rw[if_pos]
   simp only[Bool.or_eq_true] at ht ⊢
   rcases ht with ht|ht
   ·left
    rw[dj,List.flatMap_map]
    exact ht
   ·exact .inr (Ij r ht)
  ·exact h4.elim
theorem Ce (ρ:Operand→SV) (l:List Operand):gL (l.map ρ)=l.map fun x=>(ρ x).g:=by simp[dj]
theorem TS {parts:List (Nat×Nat×Operand)} {ρ:Operand→SV} {cs cs':List SV} (h:mH (parts.map fun q=>(q.1,q.2.1,ρ q.2.2)) cs=some cs'):
  gu (parts.map fun q=>(q.1,q.2.1,(ρ q.2.2).g)) (gL cs)=some (gL cs'):=by
 have:=B9 h
 simpa[List.map_map,Function.comp_def] using this
theorem Cf {parts:List (Nat×Operand)} {sz:Nat} {ρ:Operand→SV} {cs cs':List SV} (h:mH (parts.map fun q=>(q.1,sz,ρ q.2)) cs=some cs'):
  gu (parts.map fun q=>(q.1,sz,(ρ q.2).g)) (gL cs)=some (gL cs'):=by
 have:=B9 h
 simpa[List.map_map,Function.comp_def] using this
theorem Ci (z:List Value):gL (z.map SV.jO)=z.map .sc:=by rw[dj,BR]
theorem Cj (len:Nat) (z:List Value):gL ((List.replicate len (z.map SV.jO)).flatten)=(List.replicate len (z.map AV.sc)).flatten:=by
 rw[dj,List.map_flatten,List.map_replicate,BR]
theorem TT (s:ai) (x:s.T) (n:Nat):(List.replicate n (bP s x)).flatten=bn s (List.replicate n x):=by
 induction n with
 |zero=>simp[bn]
 |succ n ih=>simp only[List.replicate_succ,List.flatten_cons,ih,bn,List.flatMap_cons]
theorem tN {ρ:Operand→SV} (l:Option Operand):(l.map ρ).map SV.g=l.map fun x=>(ρ x).g:=by cases l<;>rfl
theorem TU:∀{l:List Int} {i:Nat} {v:Int},i<l.length→dE (l.map fun n=>AV.sc (iv n)) 0 ((l.set i v).map fun n=>AV.sc (iv n))=(l.map fun n=>AV.sc (iv n)).set i (.sc (iv v)):=by
 intro l i v hi
 have key:∀(vs a c:List AV),vs.length=c.length→dE (a++c) a.length vs=a++vs:=by
  intro vs
  induction vs with
  |nil=>intro a c h;cases c with
   |nil=>simp[dE]
   |cons=>simp at h
  |cons w vs ih=>
   intro a c h
   cases c with
   |nil=>simp at h
   |cons y c=>
    simp only[List.length_cons,Nat.add_right_cancel_iff] at h
    simp only[dE]
    have:(a++y::c).set a.length w=(a++[w])++c:=by
     rw[List.set_append_right _ _ (Nat.le_refl _)];simp
    rw[this]
    have:=ih (a++[w]) c h
    simp only[List.length_append,List.length_singleton] at this
    rw[this]
    simp
 have:=key ((l.set i v).map fun n=>AV.sc (iv n)) [] (l.map fun n=>AV.sc (iv n)) (by simp)
 simp only[List.nil_append,List.length_nil] at this
 rw[this,List.map_set]
theorem ID {α β:Type} (f:α→β) (x:α):∀(l:List α) (j:Nat),(l.modify j fun _=>x).map f=(l.map f).modify j fun _=>f x
 |[],j=>by simp
 |a::l,0=>by simp[List.modify]
 |a::l,j+1=>by simp only[List.modify_succ_cons,List.map_cons,ID f x l j]
theorem TV (v:Value):(AV.sc v).cellsOf=[.sc v]:=rfl
theorem IE:∀{l:List Int} {i j:Nat} {v:Int},nK l (i+j) v j=l.set i v
 |[],_,_,_=>rfl
 |a::l,0,j,v=>by
  have h:∀(l:List Int) (j':Nat),j<j'→nK l j v j'=l:=by
   intro l
   induction l with
   |nil=>intro _ _;rfl
   |cons b l ih=>intro j' hj;simp only[nK,if_neg (show ¬j=j' by omega),ih (j'+1) (by omega)]
  simp only[nK,Nat.zero_add,if_true,List.set_cons_zero,h l (j+1) (by omega)]
 |a::l,i+1,j,v=>by
  simp only[nK,if_neg (show ¬i+1+j=j by omega),List.set_cons_succ]
  rw[show i+1+j=i+(j+1) from by omega,IE]
theorem TW {ρ:Operand→SV} {n:Nat} {a x:Operand} (h:cM p (.store n a x) ρ o am K):
  ∃(v:SV) (o':a8),aL call (.store n a x) (fun x=>(ρ x).g) (gO o) am=some (v.g,gO o')∧K v o':=by
 simp only[cM] at h
 split at h
 ·rename_i id off tot ha
  split at h
  ·rename_i cs e sz pu ho
   split at h
   ·rename_i hh
    obtain⟨h1,h2,h3,h4,h5⟩:=hh
    refine⟨.ud,_,?_,h⟩
    simp only[aL,ha,SV.g,dA ho,af.g,yF,eY,yG]
    rw[if_pos ⟨h1,h2,h3,h4,h5.imp (fun q=>q) fun hp=>Ii _ hp⟩,kx,af.g,tH,BW]
   ·exact h.elim
  ·exact h.elim
 ·rename_i id i off m sz ha
  split at h
  ·rename_i s l e pu ho
   split at h
   ·rename_i hh
    obtain⟨rfl,h2,h3⟩:=hh
    obtain⟨rfl,hi,h4⟩:=h
    obtain⟨v,hv,h5⟩:=eP h4
    refine⟨.ud,_,?_,h5⟩
    have hd:=js hv
    rw[←dj,tH,BW] at hd
    have hen:gL (encS s (ae l i s.dflt))=bP s (ae l i s.dflt):=by rw[dj,mC]
    rw[hen] at hd
    have hmul:(i+1)*s.sz≤l.length*s.sz:=Nat.mul_le_mul_right _ hi
    rw[Nat.succ_mul] at hmul
    have hone:∀c∈cp pu (gL (ρ x).cellsOf),Plain c:=by
     intro c hc
     obtain⟨j,hj⟩:=List.mem_iff_getElem?.1 hc
     have hjl:=(List.getElem?_eq_some_iff.1 hj).1
     rw[mr,eY,h2] at hjl
     have key:(dE (bP s (ae l i s.dflt)) off (cp pu (gL (ρ x).cellsOf)))[off+j]?=some c:=by
      have gen:∀(vs cs:List AV) (off j:Nat) (c:AV),vs[j]?=some c→off+vs.length≤cs.length→(dE cs off vs)[off+j]?=some c:=by
       intro vs
       induction vs with
       |nil=>intro cs off j c h;simp at h
       |cons w vs ih=>
        intro cs off j c h hl
        simp only[List.length_cons] at hl
        simp only[dE]
        cases j with
        |zero=>
         simp only[List.getElem?_cons_zero,Option.some.injEq] at h
         subst h
         have before:∀(vs cs:List AV) (o2 k:Nat),k<o2→(dE cs o2 vs)[k]?=cs[k]?:=by
          intro vs
          induction vs with
          |nil=>intro cs o2 k _;rfl
          |cons w vs ih=>intro cs o2 k hk;simp only[dE];rw[ih _ _ _ (by omega),List.getElem?_set_ne (by omega)]
         simp only[Nat.add_zero]
         rw[before _ _ _ _ (by omega),List.getElem?_set_self (by omega)]
        |succ j=>
         have:=ih (cs.set off w) (off+1) j c (by simpa using h) (by simp;omega)
         rwa [show off+(j+1)=off+1+j from by omega]
      exact gen _ _ _ _ _ hj (by rw[mr,eY,h2,gC];exact h3)
     rw[hd] at key
     exact tn _ _ _ (List.mem_of_getElem? key)
    obtain⟨ho1,ho2⟩:=BX hone
    simp only[aL,ha,SV.g,dA ho,af.g,yF,dD,eY]
    rw[if_pos ⟨trivial,h2,ho1,by omega,.inr ho2⟩,kx,af.g,TD hi (by rw[mr,eY,h2];exact h3) hd]
   ·exact h.elim
  ·exact h.elim
 ·rename_i id base sz len tot i ha
  split at h
  ·rename_i cs e sz' pu ho
   split at h
   ·rename_i v hx
    split at h
    ·rename_i l hl
     split at h
     ·rename_i hh
      obtain⟨h1,h2⟩:=hh
      rw[show nK l i v 0=l.set i v from IE (j:=0)] at h
      obtain⟨hi,hk⟩:=h
      refine⟨.ud,_,?_,hk⟩
      have hcell:(ρ x).cellsOf=[ρ x]:=by
       cases hr:ρ x<;>rw[hr] at hx<;>simp[SV.int] at hx<;>rfl
      have hxg:(ρ x).g= .sc (iv v):=jN hx
      have hig:=yr hl
      have hll:l.length=len:=by
       have:=congrArg List.length hig
       simp only[List.length_map,List.length_take,List.length_drop] at this
       omega
      have hdt:gL cs=gL (cs.take base)++(l.map fun n=>AV.sc (iv n))++gL (cs.drop (base+len)):=by
       rw[←hig,dj,dj,dj,←List.map_append,←List.map_append]
       congr 1
       rw[←List.drop_drop,List.append_assoc,List.take_append_drop,List.take_append_drop]
      have hbl:(gL (cs.take base)).length=base:=by rw[eY];simp;omega
      have hq:cp pu [AV.sc (iv v)]=[AV.sc (iv v)]:=by unfold cp;split<;>rfl
      simp only[aL,ha,SV.g,dA ho,af.g,hxg,TV,List.length_singleton,eY,hq]
      rw[if_pos ⟨h1,trivial,by simp[cz,AV.one,iv,Value.oneCell'],by omega,.inr (by simp[bJ,AV.pure])⟩,kx,af.g,tH]
      congr 4
      have e1:gL ((l.set i v).map (SV.si .i64))=(l.set i v).map fun n=>AV.sc (iv n):=by
       rw[dj,List.map_map];rfl
      rw[e1,hdt]
      have hm:=BY ((l.set i v).map fun n=>AV.sc (iv n)) (gL (cs.take base)) (l.map fun n=>AV.sc (iv n)) (gL (cs.drop (base+len))) 0 (by simp)
      rw[hbl,Nat.add_zero] at hm
      rw[hm,TU (by omega)]
      simp only[dE,Nat.mul_one]
      rw[List.append_assoc,List.set_append_right _ _ (by omega),hbl,Nat.add_sub_cancel_left,List.set_append_left _ _ (by simp;omega),List.append_assoc]
     ·exact h.elim
    ·exact h.elim
   ·exact h.elim
  ·exact h.elim
 ·exact h.elim
theorem TX {ρ:Operand→SV} {e:TypeId} {sz bytes:Nat} {s x:Operand} {pu:Bool} (h:cM p (.append e sz bytes s x pu) ρ o am K):
  ∃(v:SV) (o':a8),aL call (.append e sz bytes s x pu) (fun x=>(ρ x).g) (gO o) am=some (v.g,gO o')∧K v o':=by
 simp only[cM] at h
 split at h
 ·rename_i t tl ht hpe
  split at h
  ·rename_i id n sz' j m lF hs hx
   split at h
   ·rename_i t' l e' dV ho
    split at h
    ·rename_i hh
     obtain⟨rfl,h3,rfl,rfl,rfl,rfl,h4,h5⟩:=hh
     obtain⟨rfl,h6,h7,h8⟩:=h
     rw[hx] at hpe
     unfold Ia at hpe
     split at hpe
     ·rename_i j' sz3 hj
      injection hj with e1 e2 e3
      subst e1 e2 e3
      split at hpe
      ·rename_i s2 e2 t2 ho2
       split at hpe
       ·rename_i hs2
        injection hpe with hpe
        subst hpe
        refine⟨_,_,?_,h8⟩
        have hel:iM (gO o) t.sz (.os j 0 1 (1*t.sz))=some (1,gL t2):=by
         simp only[iM,dA ho2,af.g,bn,List.flatMap_nil,List.nil_append,eY]
         rw[if_pos ⟨by omega,hs2,by omega⟩,List.drop_zero,List.take_of_length_le (by rw[eY];omega)]
        have hon:cz (gL t2)=true:=by rw[yG];exact h5
        simp only[aL,hs,hx,SV.g,kN]
        simp only[hel,hon,Bool.true_eq_false,if_false,dA ho,af.g,dD,h3]
        rw[if_pos ⟨trivial,trivial,trivial,trivial,h6,h7,.inl trivial⟩,kx,af.g]
        simp only[Nat.add_mul,h3]
       ·cases hpe
      ·cases hpe
     ·cases hpe
    ·exact h.elim
   ·exact h.elim
  ·exact h.elim
 ·rename_i t ht _
  split at h
  ·rename_i hsz
   subst hsz
   obtain⟨new,hn,h2⟩:=TN h
   have hone:cz (bn t new)=true:=Tv _ _
   have IF:bJ (bn t new)=true:=nG _ _
   simp only[aL,kN,hn,hone,Bool.true_eq_false,if_false]
   split at h2
   ·rename_i hs
    rw[hs]
    simp only[SV.g]
    by_cases h0:new.length=0
    ·exact⟨_,_,by simp only[h0,if_true];rfl,h2.1 h0⟩
    ·obtain⟨h3,h4,h5⟩:=h2.2 h0
     obtain⟨o',hm,hk⟩:=pM h5
     refine⟨_,o',?_,hk⟩
     simp only[af.g] at hm
     rw[if_neg h0,if_pos ⟨h3,h4,.inr IF⟩,hm]
     rfl
   ·rename_i id n sz' hs
    split at h2
    ·rename_i t' l e' dV ho
     split at h2
     ·rename_i hh
      obtain⟨rfl,h3,rfl⟩:=hh
      obtain⟨rfl,h4,h5,h6⟩:=h2
      obtain⟨l',h7,h8⟩:=eP h6
      obtain⟨rfl,h9,h10⟩:=tM h7
      refine⟨_,_,?_,h8⟩
      rw[hs]
      simp only[SV.g,dA ho,af.g,dD]
      rw[if_pos ⟨trivial,trivial,trivial,trivial,h4,h5,.inr IF⟩,kx,af.g,BH,h9]
      simp only[List.length_append,h10,Nat.add_mul]
     ·exact h2.elim
    ·exact h2.elim
   ·rename_i t' l hs
    obtain⟨h3,h4⟩:=h2
    refine⟨_,_,?_,h4⟩
    rw[hs]
    simp only[SV.g,h3,if_true]
   ·exact h2.elim
  ·exact h.elim
 ·exact h.elim
theorem IG {mx:Bool} {a b:Int}:(if mx then(if b>a then b else a) else(if b<a then b else a))=if mx then max a b else min a b:=by
 cases mx<;>simp<;>split<;>omega
theorem II (hC:iZ call p.C) {op:bk} {ρ:Operand→SV} (h:cM p op ρ o am K):
  ∃(v:SV) (o':a8),aL call op (fun x=>(ρ x).g) (gO o) am=some (v.g,gO o')∧K v o':=by
 cases op with
 |oG x=>exact⟨_,_,rfl,h⟩
 |pick c a b=>
  simp only[cM] at h
  split at h
  ·rename_i hc;exact⟨_,_,by simp only[aL,hc,SV.g],h⟩
  ·rename_i hc;exact⟨_,_,by simp only[aL,hc,SV.g],h⟩
  ·rename_i c hc
   cases c with
   |true=>exact⟨_,_,by simp only[aL,hc,SV.g],h.1 rfl⟩
   |false=>exact⟨_,_,by simp only[aL,hc,SV.g],h.2 rfl⟩
  ·exact h.elim
 |alloc z e pu=>
  obtain⟨o',hm,hk⟩:=pM h
  simp only[af.g,Ci] at hm
  exact⟨_,o',by simp only[aL,hm,Option.map_some,SV.g],hk⟩
 |box e x=>
  simp only[cM] at h
  split at h
  ·rename_i h1
   obtain⟨o',hm,hk⟩:=pM h
   simp only[af.g] at hm
   exact⟨_,o',by simp only[aL,yF,yG,h1,if_true,eY,hm,Option.map_some,SV.g],hk⟩
  ·exact h.elim
 |build z parts=>
  simp only[cM] at h
  obtain⟨cs,h1,h2⟩:=eP h
  have:=TS h1
  rw[Ci] at this
  exact⟨_,_,by simp only[aL,this,Option.map_some,SV.g],h2⟩
 |kg z len parts e sz=>
  simp only[cM] at h
  split at h
  ·rename_i s cs hs hf
   split at h
   ·rename_i hsz
    split at h
    ·rename_i hany
     split at h
     ·rename_i hlen
      obtain⟨o',hm,hk⟩:=pM h
      simp only[af.g,bn,List.flatMap_nil,List.nil_append] at hm
      have hfa:=Cf hf
      rw[Cj] at hfa
      refine⟨_,o',?_,hk⟩
      subst hsz
      have hp:bJ (gL cs)=false:=by
       clear hf hfa hm hlen h
       induction cs with
       |nil=>simp at hany
       |cons c cs ih=>
        simp only[List.any_cons,Bool.or_eq_true] at hany
        simp only[gL,bJ]
        rcases hany with hc|hc
        ·have h9:c.g.pure=false:=by
          cases c with
          |ow a b d=>simp[SV.g,AV.pure]
          |_=>simp[SV.Ib] at hc
         rw[h9,Bool.false_and]
        ·have ih2:=ih hc
         rw[ih2,Bool.and_false]
      simp only[aL,hfa,hp,cp,Bool.false_eq_true,if_false,hm,Option.map_some,SV.g]
     ·exact h.elim
    obtain⟨l,h1,h2⟩:=eP h
    obtain⟨h3,h4⟩:=yK h1
    obtain⟨o',hm,hk⟩:=pM h2
    simp only[af.g] at hm
    have hfa:=Cf hf
    rw[Cj] at hfa
    refine⟨_,o',?_,hk⟩
    subst hsz
    rw[BV] at h3
    have hp:bJ (gL cs)=true:=(BX (pu:=true) (cs:=gL cs) fun c hc=>hZ (s:=s) (l:=l) (by rw[←h3];exact hc)).2
    have hq:cp true (gL cs)=bn s l:=h3
    simp only[aL,hfa,hp,hq,hm,Option.map_some,SV.g]
   ·exact h.elim
  ·exact h.elim
 |ng z len parts e sz=>
  simp only[cM] at h
  split at h
  ·rename_i s cs hs hf
   split at h
   ·rename_i hsz
    obtain⟨l,h1,h2⟩:=eP h
    obtain⟨h3,h4⟩:=yK h1
    have hfa:=Cf hf
    rw[Cj] at hfa
    rw[BV] at h3
    have hp:bJ (gL cs)=true:=(BX (pu:=true) (cs:=gL cs) fun c hc=>hZ (s:=s) (l:=l) (by rw[←h3];exact hc)).2
    have hq:cp true (gL cs)=bn s l:=h3
    exact⟨_,_,by simp only[aL,hfa,hp,hq,if_true,SV.g,h4],h2⟩
   ·exact h.elim
  ·exact h.elim
 |load n a=>
  simp only[cM] at h
  obtain⟨cs,off,v,h1,h2,h3⟩:=Iq h
  exact⟨v,o,by simp only[aL,h1,h2,Option.map_some],h3⟩
 |store n a x=>exact TW h
 |oH x=>
  simp only[cM] at h
  split at h
  ·rename_i hx;exact⟨_,_,by simp only[aL,hx,SV.g],h⟩
  ·rename_i hx;exact⟨_,_,by simp only[aL,hx,SV.g],h⟩
  ·rename_i hx;exact⟨_,_,by simp only[aL,hx,SV.g],h⟩
  ·exact h.elim
 |bin op x y=>
  simp only[cM] at h
  obtain⟨a,b,v,v',h1,h2,h3,h4,h5⟩:=TJ h
  exact⟨v',o,by simp only[aL,h1,h2,h3,Option.map_some,h4],h5⟩
 |beq neg x y=>
  simp only[cM] at h
  split at h
  ·rename_i a b h1 h2
   exact⟨_,_,by simp only[aL,tj h1,tj h2,SV.g],h⟩
  ·exact h.elim
 |mb neg ks x y=>
  simp only[cM] at h
  split at h
  ·rename_i a b h1 h2
   split at h
   ·rename_i hk
    obtain⟨r,hr,h3⟩:=eP h
    exact⟨_,_,by simp only[aL,h1,h2,SV.g,TL hk hr,Option.map_some],h3⟩
   ·exact h.elim
  ·exact h.elim
 |un op x=>
  simp only[cM] at h
  split at h
  ·rename_i hx;exact⟨_,_,by simp only[aL,hx,SV.g,ni,Option.map_some],h⟩
  ·rename_i hx;exact⟨_,_,by simp only[aL,hx,SV.g,ni,Option.map_some],h⟩
  ·rename_i k n hx
   refine⟨_,_,?_,h.2⟩
   have:(0:Int) - n= -n:=by omega
   simp only[aL,hx,SV.g,ni,Option.map_some,this,yJ h.1]
  ·rename_i hx;exact⟨_,_,by simp only[aL,hx,SV.g,ni,Option.map_some],h⟩
  ·exact h.elim
 |conv k x=>
  simp only[cM] at h
  split at h
  ·rename_i hx;exact⟨_,_,by simp only[aL,hx,SV.g],h⟩
  ·rename_i hx;exact⟨_,_,by simp only[aL,hx,SV.g,yJ h.1],h.2⟩
  ·rename_i kk n _ hx;exact⟨.si k (cO k n),_,by simp only[aL,hx,SV.g],tK h⟩
  ·exact h.elim
 |oJ off x=>
  simp only[cM] at h
  split at h
  ·rename_i hx;exact⟨_,_,by simp only[aL,hx,SV.g,iL,Option.map_some],h⟩
  ·rename_i hx;exact⟨_,_,by simp only[aL,hx,SV.g,iL,Option.map_some,Nat.add_assoc],h⟩
  ·rename_i hx;exact⟨_,_,by simp only[aL,hx,SV.g,iL,Option.map_some,Nat.add_assoc],h⟩
  ·exact h.elim
 |field off n x=>
  simp only[cM] at h
  split at h
  ·rename_i cs hx
   obtain⟨v,h1,h2⟩:=eP h
   exact⟨_,_,by simp only[aL,hx,SV.g,yI h1,Option.map_some],h2⟩
  ·exact h.elim
 |oK len sz x i=>
  simp only[cM] at h
  split at h
  ·rename_i k n hi
   split at h
   ·rename_i hn
    split at h
    ·rename_i hx;exact⟨_,_,by simp only[aL,hi,hx,SV.g,dU,if_pos hn,iL,Option.map_some],h⟩
    ·rename_i hx;exact⟨_,_,by simp only[aL,hi,hx,SV.g,dU,if_pos hn,iL,Option.map_some,Nat.add_assoc],h⟩
    ·rename_i hx;exact⟨_,_,by simp only[aL,hi,hx,SV.g,dU,if_pos hn,iL,Option.map_some,Nat.add_assoc],h⟩
    ·exact h.elim
   ·exact h.elim
  ·rename_i k n hi
   split at h
   ·rename_i hx;exact⟨_,_,by simp only[aL,hi,hx,SV.g,dU,if_pos (And.intro h.1 h.2.1),iL,Option.map_some],h.2.2⟩
   ·exact h.elim
  ·exact h.elim
 |me sz x i=>
  simp only[cM] at h
  split at h
  ·rename_i n hi
   have hi:=Cb hi
   split at h
   ·rename_i s l hx
    split at h
    ·rename_i hsz
     subst hsz
     obtain⟨h1,h2,h3⟩:=h
     refine⟨_,_,?_,h3⟩
     simp only[aL,hi,hx,SV.g,kM,dD]
     rw[if_pos ⟨h1,h2,trivial⟩]
     simp
    ·exact h.elim
   ·rename_i id m sz' hx
    split at h
    ·rename_i s l e pu ho
     split at h
     ·rename_i hsz
      obtain⟨rfl,rfl⟩:=hsz
      obtain⟨rfl,h1,h2,h3⟩:=h
      refine⟨_,_,?_,h3⟩
      simp only[aL,hi,hx,SV.g,kM,dA ho,af.g,dD]
      rw[kq (Nat.zero_le _),if_pos ⟨trivial,trivial,h1,h2,by omega⟩]
      simp
     ·exact h.elim
    ·exact h.elim
   ·rename_i id off len m sz' hx
    split at h
    ·rename_i s l e pu ho
     split at h
     ·rename_i hsz
      obtain⟨rfl,rfl⟩:=hsz
      obtain⟨rfl,h1,h2,h4,h3⟩:=h
      refine⟨_,_,?_,h3⟩
      have hm:(off+len)*s.sz≤l.length*s.sz:=Nat.mul_le_mul_right _ h4
      rw[Nat.add_mul] at hm
      simp only[aL,hi,hx,SV.g,kM,dA ho,af.g,dD]
      rw[kq (by omega),if_pos ⟨trivial,trivial,h1,h2,hm⟩]
      simp[Nat.add_mul]
     ·exact h.elim
    ·exact h.elim
   ·rename_i id off len m sz' hx
    split at h
    ·rename_i s l e pu ho
     split at h
     ·rename_i hsz
      obtain⟨rfl,rfl⟩:=hsz
      obtain⟨rfl,h1,h2,h4,h3⟩:=h
      refine⟨_,_,?_,h3⟩
      have hm:(off+len)*s.sz≤l.length*s.sz:=Nat.mul_le_mul_right _ h4
      have hp:=BF s
      rw[Nat.add_mul] at hm
      simp only[aL,hi,hx,SV.g,kM,dA ho,af.g,dD]
      rw[xG (by omega),show off*s.sz+(l.length*s.sz+s.sz) - l.length*s.sz - s.sz=off*s.sz by omega,if_pos ⟨trivial,trivial,h1,h2,hm⟩]
      simp[Nat.add_mul]
     ·exact h.elim
    ·exact h.elim
   ·exact h.elim
  ·exact h.elim
 |idx len sz n x i=>
  simp only[cM] at h
  split at h
  ·rename_i k' k cs hi hx
   split at h
   ·rename_i hk
    obtain⟨v,h1,h2⟩:=eP h
    exact⟨_,_,by simp only[aL,hi,hx,SV.g,dU,if_pos hk,yI h1,Option.map_some],h2⟩
   ·exact h.elim
  ·rename_i k' k cs hi hx
   split at h
   ·rename_i l _ _ hl
    split at h
    ·rename_i hll
     obtain⟨h1,h2,h3⟩:=h
     refine⟨_,_,?_,h3⟩
     obtain⟨h4,h5⟩:=Io hl
     have h6:=h5 k.toNat (by omega)
     simp only[aL,hi,hx,SV.g,dU,if_pos (And.intro h1 h2),Nat.mul_one,dJ,nN,h6,Option.map_some]
    ·exact h.elim
   ·exact h.elim
  ·exact h.elim
 |qs x i=>simp only[cM] at h
 |kJ z e sz bytes l c pu=>
  simp only[cM] at h
  split at h
  ·rename_i n m s hn hm hs
   have hn:=Cb hn
   have hm:=Cb hm
   split at h
   ·rename_i hsz
    subst hsz
    obtain⟨x,hx,h1,h2,h3,h4,h5⟩:=eP h
    obtain⟨o',hmk,hk⟩:=pM h5
    refine⟨_,o',?_,hk⟩
    have hd:=js hx
    rw[←dj,BW,Ci] at hd
    simp only[af.g] at hmk
    simp only[aL,hn,hm]
    rw[if_pos ⟨h1,h2,h3,h4⟩,hd,TT,hmk]
    simp[SV.g]
   ·exact h.elim
  ·exact h.elim
 |slice sz x lo hi=>
  simp only[cM] at h
  split at h
  ·rename_i s l hx
   split at h
   ·rename_i hsz
    subst hsz
    obtain⟨a,ha,h1⟩:=ky h
    obtain⟨b,hb,h2,h3,h4⟩:=ky h1
    refine⟨_,_,?_,h4⟩
    rw[tN] at ha hb
    have hlen:((l.drop a).take (b - a)).length=b - a:=by simp;omega
    simp only[aL,hx,SV.g,kO,ha,hb,dD,and_true,if_pos (And.intro h2 h3),Option.map_some,tJ,hlen]
   ·exact h.elim
  ·rename_i id m sz' hx
   split at h
   ·rename_i s l e pu ho
    split at h
    ·rename_i hsz
     obtain⟨rfl,rfl⟩:=hsz
     obtain⟨rfl,h⟩:=h
     obtain⟨a,ha,h1⟩:=ky h
     obtain⟨b,hb,h2,h3,h4⟩:=ky h1
     refine⟨_,_,?_,h4⟩
     rw[tN] at ha hb
     simp only[aL,hx,SV.g,kO,ha,hb,dA ho,af.g,dD]
     rw[if_pos ⟨h2,h3,trivial,trivial⟩]
     simp
    ·exact h.elim
   ·exact h.elim
  ·rename_i id off len m sz' hx
   split at h
   ·rename_i s l e pu ho
    split at h
    ·rename_i hsz
     obtain⟨rfl,rfl⟩:=hsz
     obtain⟨rfl,h⟩:=h
     obtain⟨a,ha,h1⟩:=ky h
     obtain⟨b,hb,h2,h3,h4⟩:=ky h1
     refine⟨_,_,?_,h4⟩
     rw[tN] at ha hb
     simp only[aL,hx,SV.g,kO,ha,hb,dA ho,af.g,dD]
     rw[if_pos ⟨h2,h3,trivial,trivial⟩]
     simp[Nat.add_mul]
    ·exact h.elim
   ·exact h.elim
  ·exact h.elim
 |slice3 sz x lo hi mx=>
  simp only[cM] at h
  split at h
  ·rename_i s l hx
   split at h
   ·rename_i hsz
    subst hsz
    obtain⟨a,ha,h1⟩:=ky h
    obtain⟨b,hb,h2⟩:=ky h1
    obtain⟨m,hm,h3,h4,h5,h6⟩:=ky h2
    refine⟨_,_,?_,h6⟩
    rw[tN] at ha
    simp only[Option.map_some] at hb hm
    have hlen:((l.drop a).take (b - a)).length=b - a:=by simp;omega
    simp only[aL,hx,SV.g,mh,ha,hb,hm,dD,and_true,if_pos (And.intro h3 (And.intro h4 h5)),Option.map_some,tJ,hlen]
   ·exact h.elim
  ·rename_i id n sz' hx
   split at h
   ·rename_i s l e pu ho
    split at h
    ·rename_i hsz
     obtain⟨rfl,rfl⟩:=hsz
     obtain⟨rfl,h⟩:=h
     obtain⟨a,ha,h1⟩:=ky h
     obtain⟨b,hb,h2⟩:=ky h1
     obtain⟨m,hm,h3,h4,h5,h6⟩:=ky h2
     refine⟨_,_,?_,h6⟩
     rw[tN] at ha
     simp only[Option.map_some] at hb hm
     simp only[aL,hx,SV.g,mh,ha,hb,hm,dA ho,af.g,dD]
     rw[if_pos ⟨h3,h4,h5,trivial,trivial,by omega,BF _⟩]
     simp
    ·exact h.elim
   ·exact h.elim
  ·exact h.elim
 |oL x lo hi=>simp only[cM] at h
 |append e sz bytes s x pu=>exact TX h
 |len k x=>
  simp only[cM] at h
  split at h
  ·rename_i hx;exact⟨_,_,by simp only[aL,hx,SV.g,gV,Option.map_some],h⟩
  ·rename_i hx;exact⟨_,_,by simp only[aL,hx,SV.g,gV,Option.map_some],h⟩
  ·rename_i hx;exact⟨_,_,by simp only[aL,hx,SV.g,gV,Option.map_some],h⟩
  ·rename_i hx;exact⟨_,_,by simp only[aL,hx,SV.g,gV,Option.map_some],h⟩
  ·rename_i hx;exact⟨_,_,by simp only[aL,hx,SV.g,gV,Option.map_some];rfl,h⟩
  ·rename_i hx;exact⟨_,_,by simp only[aL,hx,SV.g,gV,Option.map_some],h⟩
  ·rename_i id hx
   split at h
   ·rename_i sk sv ka es kt pu ho
    exact⟨_,_,by simp only[aL,hx,SV.g,gV,dA ho,af.g,List.length_map,Option.map_some],h⟩
   ·exact h.elim
  ·exact h.elim
 |oM n=>exact⟨_,_,rfl,h⟩
 |mm mx x y=>
  simp only[cM] at h
  split at h
  ·rename_i hx hy
   split at h
   ·rename_i hk
    exact⟨_,_,by simp only[aL,hx,hy,SV.g,if_pos hk],h⟩
   ·exact h.elim
  ·rename_i k a hx
   obtain⟨b,hb,h2⟩:=eP h
   exact⟨_,_,by simp only[aL,hx,jN hb,SV.g,if_true,IG],h2⟩
  ·rename_i k a hx _
   obtain⟨b,hb,h2⟩:=eP h
   exact⟨_,_,by simp only[aL,hx,jN hb,SV.g,if_true,IG],h2⟩
  ·exact h.elim
 |call f args own=>
  simp only[cM] at h
  obtain⟨v,o',h1,h2⟩:=IC hC h
  rw[Ce] at h1
  exact⟨v,o',by simp only[aL,h1],h2⟩
 |eF f args own=>
  simp only[cM] at h
  split at h
  ·rename_i g first captured hf
   obtain⟨v,o',h1,h2⟩:=IC hC h
   rw[Ik,Ik,Ce] at h1
   exact⟨v,o',by simp only[aL,hf,SV.g,h1],h2⟩
  ·exact h.elim
 |extract x i=>
  simp only[cM] at h
  split at h
  ·rename_i vs hx
   obtain⟨v,h1,h2⟩:=eP h
   exact⟨_,_,by simp only[aL,hx,SV.g,nN,h1,Option.map_some],h2⟩
  ·exact h.elim
 |nh f first captured=>exact⟨_,_,by simp only[aL,SV.g,Ce],h⟩
 |kK kt pu=>
  simp only[cM] at h
  split at h
  ·rename_i sk sv hs
   obtain⟨o',hm,hk⟩:=pM h
   simp only[af.g,List.map_nil] at hm
   exact⟨_,o',by simp only[aL,hm,Option.map_some,SV.g],hk⟩
  ·exact h.elim
 |lookup z agg ks ka x k ok=>
  simp only[cM] at h
  split at h
  ·rename_i id hx
   split at h
   ·rename_i sk sv ri es kt pu ho
    split at h
    ·rename_i hh
     obtain⟨rfl,rfl,h1,h2,rfl,h4,h5,h6⟩:=hh
     obtain⟨kv,hkv,h7⟩:=eP h
     obtain⟨zv,hzv,h8⟩:=eP h7
     have hkey:=Iy h5 h6 (IB h1) hkv
     have hz:lx z false=some (iD sv zv):=by
      have hd:=js hzv
      rw[BR,IA h2] at hd
      cases z with
      |nil=>simp at hd
      |cons a r=>
       cases r with
       |nil=>simp only[List.map_cons,List.map_nil,List.cons.injEq,and_true] at hd;simp[lx,hd]
       |cons=>simp at hd
     obtain⟨r,hr,hm⟩:=Cc (sv:=sv) h1 h4 kv es 0
     refine⟨_,_,?_,h8⟩
     simp only[aL,hx,SV.g,hkey,dA ho,af.g,if_true,hr,hz]
     cases hf:jv sk sv kv es with
     |some v=>
      rw[hf] at hm
      obtain⟨j,rfl,_⟩:=hm
      simp only[Option.getD_some]
      cases ok<;>simp only[Bool.false_eq_true,if_false,if_true,SV.g,gL,Iz h2,Option.isSome_some,Option.isSome_none]
     |none=>
      rw[hf] at hm
      obtain⟨rfl,_⟩:=hm
      simp only[Option.getD_none]
      cases ok<;>simp only[Bool.false_eq_true,if_false,if_true,SV.g,gL,Iz h2,Option.isSome_some,Option.isSome_none]
    ·exact h.elim
   ·exact h.elim
  ·exact h.elim
 |lv ks ka x k v=>
  simp only[cM] at h
  split at h
  ·rename_i id hx
   split at h
   ·rename_i sk sv ri es kt pu ho
    split at h
    ·rename_i hh
     obtain⟨rfl,rfl,h1,h2,h4,h5,h6,h9⟩:=hh
     obtain⟨kv,hkv,h7⟩:=eP h
     obtain⟨vv,hvv,h8⟩:=eP h7
     have hkey:=Iy h5 h6 (IB h1) hkv
     have hv:(ρ v).g=iD sv vv:=by
      have hd:=js hvv
      rw[IA h2] at hd
      have hc:(ρ v).cellsOf=[ρ v]:=by
       revert h9
       cases ρ v<;>simp[SV.cellsOf,pG]
      rw[hc] at hd
      simpa using hd
     obtain⟨r,hr,hm⟩:=Cc (sv:=sv) h1 h4 kv es 0
     refine⟨_,_,?_,h8⟩
     have hpure:(iD sv vv).pure=true:=by simp[iD,AV.pure]
     simp only[aL,hx,SV.g,hkey,dA ho,af.g,hv,hpure,hr,kx]
     rw[if_neg (by simp)]
     cases hf:jv sk sv kv es with
     |some w=>
      rw[hf] at hm
      obtain⟨j,rfl,h10,h11⟩:=hm
      rw[Ix h10 h11]
      simp only[Nat.zero_add]
      rw[ID]
     |none=>
      rw[hf] at hm
      obtain⟨rfl,h10⟩:=hm
      rw[Cd h10]
      simp
    ·exact h.elim
   ·exact h.elim
  ·exact h.elim
end
mutual
theorem Cm {o:Store} {k:Nat}:∀{v:AV},v.a6 k=true→v.aX o (fun i=>decide (k≤i))=some v
 | .os id off len tot,h=>by
  simp only[AV.a6,decide_eq_true_eq] at h
  simp only[AV.aX,decide_eq_true_eq,if_neg (Nat.not_le.2 h)]
 | .ptr id off tot,h=>by
  simp only[AV.a6,decide_eq_true_eq] at h
  simp only[AV.aX,decide_eq_true_eq,if_neg (Nat.not_le.2 h)]
 | .agg cs,h=>by simp only[AV.a6] at h;simp only[AV.aX,rE h,Option.map_some]
 | .aD cs,h=>by simp only[AV.a6] at h;simp only[AV.aX,rE h,Option.map_some]
 | .fn f a b,h=>by
  simp only[AV.a6,Bool.and_eq_true] at h
  simp only[AV.aX,rE h.1,rE h.2]
 | .ud,_| .sc _,_| .sl _ _,_| .ep _ _,_| .mp _,_=>by simp only[AV.aX]
theorem rE {o:Store} {k:Nat}:∀{l:List AV},b7 k l=true→dL o (fun i=>decide (k≤i)) l=some l
 |[],_=>by simp[dL]
 |c::cs,h=>by
  simp only[b7,Bool.and_eq_true] at h
  simp only[dL,Cm h.1,rE h.2]
end
theorem IJ {o:Store} {k:Nat}:∀{l:List (Value×AV)},b7 k (l.map (·.2))=true→kR o (fun i=>decide (k≤i)) l=some l
 |[],_=>by simp[kR]
 |(q,c)::cs,h=>by
  simp only[List.map_cons,b7,Bool.and_eq_true] at h
  simp only[kR,Cm h.1,IJ h.2]
theorem TY {o:Store} {k:Nat} {x:aP} (h:x.a6 k=true):x.aX o (fun i=>decide (k≤i))=some x:=by
 cases x with
 |dead=>rfl
 |cells cs e sz pu=>
  cases pu with
  |true=>simp only[aP.aX,if_true]
  |false=>simp only[aP.a6,Bool.false_or] at h;simp only[aP.aX,Bool.false_eq_true,if_false,rE h,Option.map_some]
 |map es kt pu=>
  cases pu with
  |true=>simp only[aP.aX,if_true]
  |false=>simp only[aP.a6,Bool.false_or] at h;simp only[aP.aX,Bool.false_eq_true,if_false,IJ h,Option.map_some]
theorem IK {o:Store} {k:Nat}:∀{r:Store},(∀x∈r,x.a6 k=true)→eV o (fun i=>decide (k≤i)) r=some r
 |[],_=>rfl
 |x::r,h=>by
  simp only[eV,TY (h x (by simp)),IK (r:=r) fun y hy=>h y (by simp[hy])]
theorem IL {k:Nat}:∀{o:Store} {i:Nat},(dx (fun j=>decide (k≤j)) i o).take (k - i)=o.take (k - i)
 |[],i=>by simp[dx]
 |x::r,i=>by
  simp only[dx]
  by_cases hi:i<k
  ·rw[show k - i=(k - (i+1))+1 from by omega,List.take_succ_cons,List.take_succ_cons,IL]
   congr 1
   cases x with
   |cells cs e sz pu=>cases pu<;>simp[Nat.not_le.2 hi]
   |_=>rfl
  ·rw[show k - i=0 from by omega];simp
theorem CB {k i:Nat} (h:i<k):(List.range k).contains i=true:=by simp[h]
theorem IM {o:Store} {k:Nat}:∀{d:Nat} {vs:List AV},b7 k vs=true→bq o d vs (List.range k)=List.range k:=by
 intro d
 induction d with
 |zero=>intro vs _;simp[bq]
 |succ d ih=>
  intro vs h
  cases vs with
  |nil=>simp[bq]
  |cons v vs=>
   simp only[b7,Bool.and_eq_true] at h
   have h1:=h.1
   simp only[bq]
   cases v with
   |agg cs=>simp only[AV.a6] at h1;simp only[ih h1,ih h.2]
   |aD cs=>simp only[AV.a6] at h1;simp only[ih h1,ih h.2]
   |fn f a b=>simp only[AV.a6,Bool.and_eq_true] at h1;simp only[ih h1.1,ih h1.2,ih h.2]
   |ptr id _ _=>simp only[AV.a6,decide_eq_true_eq] at h1;simp only[CB h1,if_true,ih h.2]
   |os id _ _ _=>simp only[AV.a6,decide_eq_true_eq] at h1;simp only[CB h1,if_true,ih h.2]
   |mp id=>simp only[AV.a6,decide_eq_true_eq] at h1;simp only[CB h1,if_true,ih h.2]
   |_=>simp only[ih h.2]
theorem IP:∀{n s i p:Nat},s≤i→i<s+n→idxOf (List.range' s n) i p=some (p+(i - s))
 |0,s,i,p,h1,h2=>by omega
 |n+1,s,i,p,h1,h2=>by
  simp only[List.range'_succ,idxOf]
  by_cases h:s=i
  ·subst h;simp
  ·have:(s==i)=false:=by simpa using h
   rw[this]
   simp only[Bool.false_eq_true,if_false]
   rw[IP (by omega) (by omega)]
   congr 1
   omega
theorem CC {k i:Nat} (h:i<k):idxOf (List.range k) i=some i:=by
 rw[List.range_eq_range',IP (by omega) (by omega)]
 simp
mutual
theorem yL {k:Nat}:∀{v:AV},v.a6 k=true→v.ren (fun j=>idxOf (List.range k) j)=some v
 | .os id off len tot,h=>by simp only[AV.a6,decide_eq_true_eq] at h;simp only[AV.ren,CC h,Option.map_some]
 | .ptr id off tot,h=>by simp only[AV.a6,decide_eq_true_eq] at h;simp only[AV.ren,CC h,Option.map_some]
 | .mp id,h=>by simp only[AV.a6,decide_eq_true_eq] at h;simp only[AV.ren,CC h,Option.map_some]
 | .agg cs,h=>by simp only[AV.a6] at h;simp only[AV.ren,rF h,Option.map_some]
 | .aD cs,h=>by simp only[AV.a6] at h;simp only[AV.ren,rF h,Option.map_some]
 | .fn f a b,h=>by
  simp only[AV.a6,Bool.and_eq_true] at h
  simp only[AV.ren,rF h.1,rF h.2]
 | .ud,_| .sc _,_| .sl _ _,_| .ep _ _,_=>by simp only[AV.ren]
theorem rF {k:Nat}:∀{l:List AV},b7 k l=true→eM (fun j=>idxOf (List.range k) j) l=some l
 |[],_=>by simp[eM]
 |c::cs,h=>by
  simp only[b7,Bool.and_eq_true] at h
  simp only[eM,yL h.1,rF h.2]
end
theorem IQ {k:Nat}:∀{l:List (Value×AV)},b7 k (l.map (·.2))=true→jF (fun j=>idxOf (List.range k) j) l=some l
 |[],_=>by simp[jF]
 |(q,c)::cs,h=>by
  simp only[List.map_cons,b7,Bool.and_eq_true] at h
  simp only[jF,yL h.1,IQ h.2]
theorem TZ {k:Nat} {x:aP} (h:x.a6 k=true):x.ren (fun j=>idxOf (List.range k) j)=some x:=by
 cases x with
 |dead=>rfl
 |cells cs e sz pu=>
  cases pu with
  |true=>simp only[aP.ren,if_true]
  |false=>simp only[aP.a6,Bool.false_or] at h;simp only[aP.ren,Bool.false_eq_true,if_false,rF h,Option.map_some]
 |map es kt pu=>
  cases pu with
  |true=>simp only[aP.ren,if_true]
  |false=>simp only[aP.a6,Bool.false_or] at h;simp only[aP.ren,Bool.false_eq_true,if_false,IQ h,Option.map_some]
theorem CE {k:Nat} {o:Store} (hb:∀x∈o.take k,x.a6 k=true) (hl:k≤o.length):∀{n s:Nat},s+n=k→fV o (List.range k) (List.range' s n)=some ((o.take k).drop s)
 |0,s,h=>by
  simp only[Nat.add_zero] at h;subst h
  simp[fV]
 |n+1,s,h=>by
  simp only[List.range'_succ,fV]
  have hs:s<o.length:=by omega
  have hg:o[s]?=some o[s]:=List.getElem?_eq_getElem hs
  rw[hg,CE hb hl (by omega)]
  have hm:o[s]∈o.take k:=by
   rw[List.mem_take_iff_getElem]
   exact⟨s,by omega,rfl⟩
  simp only[TZ (hb _ hm),Option.map_some]
  congr 1
  have hk:s<(o.take k).length:=by simp;omega
  rw[List.drop_eq_getElem_cons hk]
  simp
theorem nodup_range':∀{n s:Nat},eA.ki (List.range' s n)=true
 |0,_=>by simp[eA.ki]
 |n+1,s=>by
  simp only[List.range'_succ,eA.ki,nodup_range',Bool.and_true,Bool.not_eq_true']
  simp[List.mem_range']
  intro x _
  omega
theorem IU {k:Nat}:∀{a b:List AV},b7 k a=true→b7 k b=true→b7 k (a++b)=true
 |[],b,_,h=>h
 |x::a,b,h,h2=>by
  simp only[b7,Bool.and_eq_true] at h
  simp only[List.cons_append,b7,h.1,IU h.2 h2,Bool.and_self]
theorem CG {k:Nat}:∀{o:Store},(∀x∈o,x.a6 k=true)→b7 k (o.flatMap fe.aP.oQ)=true
 |[],_=>by simp[b7]
 |x::o,h=>by
  simp only[List.flatMap_cons]
  refine IU ?_ (CG fun y hy=>h y (by simp[hy]))
  have hx:=h x (by simp)
  cases x with
  |dead=>simp[fe.aP.oQ,b7]
  |cells cs e sz pu=>cases pu<;>simp[fe.aP.oQ,b7];simpa[aP.a6] using hx
  |map es kt pu=>cases pu<;>simp[fe.aP.oQ,b7];simpa[aP.a6] using hx
theorem IV {k:Nat} {r:AV} {o:Store} (hr:r.a6 k=true) (ho:∀x∈o,x.a6 k=true) (hl:k≤o.length):fe k r o=some (r,o.take k):=by
 unfold fe
 rw[Cm hr,IK ho]
 simp only
 have ht:(dx (fun i=>decide (k≤i)) 0 o).take k=o.take k:=by simpa using IL (k:=k) (o:=o) (i:=0)
 have hlen:∀{o:Store} {i:Nat},(dx (fun i=>decide (k≤i)) i o).length=o.length:=by
  intro o
  induction o with
  |nil=>intro i;rfl
  |cons x o ih=>intro i;simp only[dx,List.length_cons,ih]
 have hb:∀x∈o.take k,x.a6 k=true:=fun x hx=>ho x (List.mem_of_mem_take hx)
 rw[ht,IM (by simp only[b7,hr,Bool.true_and];exact CG hb)]
 have hn:eA.ki (List.range k)=true:=by rw[List.range_eq_range'];exact nodup_range'
 rw[if_pos hn,yL hr]
 have hs:=CE (k:=k) (o:=dx (fun i=>decide (k≤i)) 0 o) (by rw[ht];exact hb) (by rw[hlen];exact hl) (n:=k) (s:=0) (by omega)
 rw[←List.range_eq_range',ht,List.drop_zero] at hs
 rw[hs]
end Go.Vi
