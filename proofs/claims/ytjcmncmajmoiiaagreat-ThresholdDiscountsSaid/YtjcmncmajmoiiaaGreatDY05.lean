/-
  The symbolic run: its operations, and what must hold for a piece of code to come to a post. Plain definitions: no proof stands here.
  Conditions: none.
-/
import Derived.Test.YtjcmncmajmoiiaaGreatDY04
set_option maxRecDepth 100000
set_option maxHeartbeats 4000000
set_option linter.all false
open And renaming intro->γi
open BitVec renaming ofInt->γv
open Bool renaming and_eq_true->ζ,and_true->δW,false_eq_true->χ,or_eq_true->δo,true_eq_false->ζH
open Function renaming comp_def->δn
open Go.Vi.AV renaming sc->δh,ren->δE
open Go.Vi.AV.sc renaming injEq->γX
open Go.Vi.SV renaming g->γH
open List renaming replicate->ε,map_map->δx,mem_map->γg,length_cons->γy,length->γn,drop_drop->γW,getElem?_eq_getElem->ξ,take->γd,take_of_length_le->γk,map_cons->ι,take_append_drop->γc,cons_append->γE,modify_succ_cons->ζz,getElem?_eq_some_iff->θ,map_append->γb,flatMap_nil->εZ,nil_append->δg,drop_zero->δN,map_nil->γp,take_succ_cons->εa,range->τ,range'->ζq,range'_succ->εx,range_eq_range'->δK,flatMap_cons->δ4,all_map->ζO,map->γj,ext_getElem?->δd,append_inj->εG
open List.cons renaming injEq->π
open Nat renaming beq->δA,add_assoc->ε0,mul_le_mul_right->γN,add_mul->δZ,add_right_cancel_iff->ζk,le_refl->φ
open Option renaming map_eq_some_iff->δ,map_some->μ,isSome_some->ζI,isSome_none->ζa
open Option.some renaming injEq->γ
namespace Go.Vi
abbrev fp:=List (Nat×SV)
abbrev bX:=List bq
structure cq where
 env:fp
 o:bX
def jG:fp->Nat->SV
 |[],_=> .ud
 |p::r,s=>bif δA p.1 s then p.2 else jG r s
def vp (env:fp) (a:Option Nat) (v:SV):fp:=
 match a with
 |none=>env
 |some d=>(d,v)::env
def SV.oU:Value->SV
 | .int k n=> .il k n
 | .bool b=> .bl b
 |v=> .sc v
def SV.uP:Value->SV
 | .agg a=>if a.toList.all (·.oneCell') then .agg (a.toList.map .oU) else .ud
 | .tuple _=> .ud
 | .int k n=> .il k n
 | .bool b=> .bl b
 |v=> .sc v
def jj (env:fp):Operand->SV
 | .tmp t=>jG env t
 | .const v=> .uP v
 | .global _=> .ud
 | .func f=> .fn (.func f) [] []
def SV.cellsOf:SV->List SV
 | .agg a=>a
 |v=>[v]
def SV.one:SV->Bool
 | .agg _| .bH _| .ud| .ite _ _ _=>false
 | .sc v=>v.oneCell'
 |_=>true
def xn (l:List SV):Bool:=l.all (·.one)
mutual
def SV.pure:SV->Bool
 | .sc _| .il .. | .si .. | .bl _| .sb _| .row .. =>true
 |_=>false
def zy:List SV->Bool
 |[]=>true
 |c::a=>c.pure&&zy a
end
mutual
def SV.bZ (k:Nat):SV->Bool
 | .ud| .sc _| .il .. | .si .. | .bl _| .sb _| .row .. | .ep .. =>true
 | .agg cs| .bH cs=>sD k cs
 | .ptr id .. | .ap id .. | .rp id .. | .ow id .. | .os id .. | .oc id .. | .mp id=>decide (id<k)
 | .fn _ a b=>sD k a&&sD k b
 | .ia _ _| .ite _ _ _=>true
def sD (k:Nat):List SV->Bool
 |[]=>true
 |c::cs=>c.bZ k&&sD k cs
end
def bq.bZ (k:Nat):bq->Bool
 | .cells b _ _ a=>a||sD k b
 | .oQ _ _ _ t=>sD k t
 |_=>true
mutual
def SV.kW:SV->Bool
 | .ud| .sc _| .il .. | .si .. | .bl _| .sb _=>true
 | .agg a| .bH a=>CJ a
 |_=>false
def CJ:List SV->Bool
 |[]=>true
 |c::a=>c.kW&&CJ a
end
def bW (k:IntKind) (n:Int):Prop:=
 match k with
 | .i64=> -9223372036854775808<=n/\n<=9223372036854775807
 |k=>k.wrap n=n
def vq (k:IntKind) (n:Int) (K:Int->Prop):Prop:=
 match k with
 | .u32=>K (n % 4294967296)
 | .u64=>K (n % 18446744073709551616)
 |k=>bW k n/\K n
structure OL where
 pure:FuncId->List SV->(SV->Prop)->Prop
 own:FuncId->List SV->bX->(SV->bX->Prop)->Prop
structure iN where
 C:OL
 ty:TypeId->Option bn
 mt:List Nat×Bool->Option (bn×bn)
 sp:Nat->Option (Nat×Nat×Nat):=λ_=>none
 it:FuncId->Option fh:=λ_=>none
 ro:FuncId->Bool:=λ_=>false
def sE (cs:List SV) (a:Nat):Option Nat->Option SV
 |none=>cs[a]?
 |some n=>if a+n<=cs.length then some (.agg ((cs.drop a).take n)) else none
def tW (cs:List SV) (a:Nat):List SV->List SV
 |[]=>cs
 |v::b=>tW (cs.set a v) (a+1) b
def iO {b:Type} (x:Option b) (K:b->Prop):Prop:=match x with|some a=>K a|none=>False
def vr {b:Type} (f:SV->(b->Prop)->Prop):List SV->(List b->Prop)->Prop
 |[],K=>K []
 |v::c,K=>f v λa=>vr f c λd=>K (a::d)
def rF (o:bX):Nat->SV->(SV->Prop)->Prop
 |_,.ud,K=>K .ud
 |_,.sc v,K=>match v with
  | .slice none 0 0=>K (.row (.i .i64) [])
  |v=>K (.sc v)
 |_,.il k n,K=>K (.il k n)
 |_,.si k n,K=>K (.si k n)
 |_,.bl b,K=>K (.bl b)
 |_,.sb b,K=>K (.sb b)
 |_,.row s l,K=>K (.row s l)
 |_,.ia t cs,K=>K (.ia t cs)
 |d+1,.agg cs,K=>vr (rF o d) cs λcs'=>K (.agg cs')
 |d+1,.bH cs,K=>vr (rF o d) cs λcs'=>K (.bH cs')
 |d+1,.fn f a b,K=>vr (rF o d) a λa'=>vr (rF o d) b λb'=>K (.fn f a' b')
 |_+1,.ow id n sz,K=>match o[id]? with
  |some (.row s l _ _)=>if sz=s.sz then n=l.length/\K (.row s l) else False
  |_=>False
 |_+1,.os id off len n sz,K=>match o[id]? with
  |some (.row s l _ _)=>if sz=s.sz then n=l.length/\off+len<=n/\K (.row s ((l.drop off).take len)) else False
  |_=>False
 |_,_,_=>False
def mK (o:bX) (a:SV) (n:Option Nat) (K:SV->Prop):Prop:=
 match a with
 | .ptr h b d=>match o[h]? with
  |some (.cells c _ _ _)=>if c.length=d then iO (sE c b n) K else False
  |_=>False
 | .ap h e g f d i=>match o[h]? with
  |some (.cells c _ _ _)=>if c.length=d/\e+g*f<=d then i<f/\zz ((c.drop e).take (g*f)) g i n K else False
  |_=>False
 | .ep s l i b=>i<l.length/\iO (sE (encS s (bj l i s.dflt)) b n) K
 | .rp h i b m g=>match o[h]? with
  |some (.row s l _ _)=>if g=s.sz then m=l.length/\i<l.length/\iO (sE (encS s (bj l i s.dflt)) b n) K else False
  |_=>False
 |_=>False
where
 zz (c:List SV) (g i:Nat) (n:Option Nat) (K:SV->Prop):Prop:=
  match n,g with
  |none,1=>match ints c with
   |some l=>K (.si .i64 (bj l i 0))
   |none=>match rowsOff c with
    |some l=>K (.row .off (bj l i []))
    |none=>False
  |_,_=>False;rowsOff:List SV->Option (List (List Off))
  |[]=>some []
  | .row .off l::c=>(rowsOff c).map (l::·)
  |_=>none
def mkK (bB:Nat) (x:bq) (o:bX) (K:bX->Prop):Prop:=
 match o[bB]? with
 |some .dead=>K (o.set bB x)
 |_=>False
def sG (a:List (Nat×Nat×SV)) (cs:List SV):Option (List SV):=
 match a with
 |[]=>some cs
 |(b,n,v)::c=>
  if v.cellsOf.length=n/\xn v.cellsOf=true/\b+n<=cs.length then sG c (tW cs b v.cellsOf) else none
def tX (s:bn):Nat->List SV->Option (List s.T)
 |0,[]=>some []
 |n+1,a=>match jF s (a.take s.sz),tX s n (a.drop s.sz) with
  |some x,some l=>some (x::l)
  |_,_=>none
 |_,_=>none
def vt (o:bX) (s:bn) (x:SV) (K:List s.T->Prop):Prop:=
 match x with
 | .row a l=>iO (iI a s l) K
 | .ow d n e=>match o[d]? with
  |some (.row a l _ _)=>if e=a.sz then n=l.length/\iO (iI a s l) K else False
  |_=>False
 | .os d c b n e=>match o[d]? with
  |some (.row a l _ _)=>if e=a.sz then n=l.length/\c+b<=n/\iO (iI a s ((l.drop c).take b)) K else False
  |_=>False
 | .sc (.slice none 0 0)=>K []
 |_=>False
def OM (o:bX):SV->Option (List SV)
 | .ow j 1 a=>match o[j]? with
  |some (.oQ s [] _ t)=>if s.sz=a then some t else none
  |_=>none
 |_=>none
def SV.OO:SV->Bool
 | .ow .. =>true
 |_=>false
def zA:SV->Option Int
 | .si _ n=>some n
 | .il _ n=>some n
 |_=>none
def isNil:SV->Bool
 | .sc (.slice none 0 0)=>true
 |_=>false
def eI (e:BinOp) (x y:SV) (K:SV->Prop):Prop:=
 match x,y with
 | .il k a,.il d b=>match gG e (.int k a) (.int d b) with
  |some (.int k n)=>K (.il k n)
  |some (.bool c)=>K (.bl c)
  |_=>False
 | .si k a,.si d b=>go k a d b
 | .il k a,.si d b=>go k a d b
 | .si k a,.il d b=>go k a d b
 | .sc (.string a),.sc (.string b)=>match e with
  | .eql=>K (.sb (a.toList==b.toList))
  | .neq=>K (.sb (!(a.toList==b.toList)))
  |_=>False
 |_,_=>False
where
 go (k:IntKind) (a:Int) (d:IntKind) (b:Int):Prop:=
  match e with
  | .shl=>0<=b/\b<=k.bits/\vq k (a*2^b.toNat) λn=>K (.si k n)
  | .shr=>0<=b/\b<=k.bits/\K (.si k (a / 2^b.toNat))
  | .add=>if k=d then vq k (a+b) λn=>K (.si k n) else False
  | .sub=>if k=d then vq k (a - b) λn=>K (.si k n) else False
  | .mul=>if k=d then vq k (a*b) λn=>K (.si k n) else False
  | .quo=>if k=d then b≠0/\bW k (a.tdiv b)/\K (.si k (a.tdiv b)) else False
  | .rem=>if k=d then b≠0/\K (.si k (a.tmod b)) else False
  | .and=>if k=d then K (.si k (rG k a b)) else False
  | .or=>if k=d then K (.si k (nW k a b)) else False
  | .xor=>if k=d then K (.si k (GM k a b)) else False
  | .andNot=>if k=d then K (.si k (pO k a b)) else False
  | .eql=>if k=d then K (.sb (decide (a=b))) else False
  | .neq=>if k=d then K (.sb (decide (a≠b))) else False
  | .lss=>if k=d then K (.sb (decide (a<b))) else False
  | .leq=>if k=d then K (.sb (decide (a<=b))) else False
  | .gtr=>if k=d then K (.sb (decide (b<a))) else False
  | .geq=>if k=d then K (.sb (decide (b<=a))) else False;rG (k:IntKind) (a b:Int):Int:=eQ k (γv k.bits a &&&γv k.bits b).toNat;nW (k:IntKind) (a b:Int):Int:=eQ k (γv k.bits a |||γv k.bits b).toNat;GM (k:IntKind) (a b:Int):Int:=eQ k (γv k.bits a ^^^γv k.bits b).toNat;pO (k:IntKind) (a b:Int):Int:=eQ k (γv k.bits a &&&~~~(γv k.bits b)).toNat
def GN:SV->SV->Option Bool
 | .si k a,y=>(y.int k).map λb=>decide (a=b)
 | .il k a,y=>(y.int k).map λb=>decide (a=b)
 | .sb a,y=>y.boo.map λb=>a==b
 | .bl a,y=>y.boo.map λb=>a==b
 |_,_=>none
def tY:List SV->List SV->Option Bool
 |[],[]=>some true
 |x::d,y::c=>match GN x y,tY d c with
  |some a,some b=>some (a&&b)
  |_,_=>none
 |_,_=>none
def lx:List Nat->List SV->Bool
 |[],[]=>true
 |0::a,.si _ _::b=>lx a b
 |0::a,.il _ _::b=>lx a b
 |1::a,.sb _::b=>lx a b
 |1::a,.bl _::b=>lx a b
 |_,_=>false
def jZ (a sv:bn) (x:a.T) (es:List (a.T×sv.T)):Option sv.T:=(es.find? λp=>decide (p.1=x)).map (·.2)
def nn (a sv:bn) (x:a.T) (v:sv.T):List (a.T×sv.T)->List (a.T×sv.T)
 |[]=>[(x,v)]
 |p::r=>if p.1=x then(x,v)::r else p::nn a sv x v r
def vu (a:Bool):SV->Bool
 | .agg _=>a
 |_=>!a
def bn.keyed:bn->Bool
 | .key| .sit| .i _=>true
 |_=>false
def nX (d:Nat):Option SV->(Nat->Prop)->Prop
 |none,K=>K d
 |some (.il _ n),K=>if 0<=n then K n.toNat else False
 |some (.si _ n),K=>0<=n/\K n.toNat
 |_,_=>False
def tZ:List Int->Nat->Int->Nat->List Int
 |[],_,_,_=>[]
 |a::l,i,v,j=>(if i=j then v else a)::tZ l i v (j+1)
def CL:SV->(SV->Prop)->Prop
 | .ite c a b,K=>(c=true->CL a K)/\(c=false->CL b K)
 |v,K=>K v
def SV.G:SV->AV
 | .ite c a b=>match c with
  |true=>a.G
  |false=>b.G
 |v=>v.g
def eJ (p:iN) (op:cB) (ρ:Operand->SV) (o:bX) (bB:Nat) (K:SV->bX->Prop):Prop:=
 match op with
 | .uQ x=>K (ρ x) o
 | .pick c a b=>match ρ c with
  | .bl true=>K (ρ a) o
  | .bl false=>K (ρ b) o
  | .sb c=>(c=true->K (ρ a) o)/\(c=false->K (ρ b) o)
  |_=>False
 | .alloc z e pu=>mkK bB (.cells (z.map .oU) e z.length pu) o λo'=>K (.ptr bB 0 z.length) o'
 | .box e x=>if xn (ρ x).cellsOf then mkK bB (.cells (ρ x).cellsOf e (ρ x).cellsOf.length false) o λo'=>K (.ptr bB 0 (ρ x).cellsOf.length) o' else False
 | .build z parts=>iO (sG (parts.map λq=>(q.1,q.2.1,ρ q.2.2)) (z.map .oU)) λcs=>K (.agg cs) o
 | .pG z len parts e sz=>match p.ty e,sG (parts.map λq=>(q.1,sz,ρ q.2)) ((ε len (z.map SV.oU)).flatten) with
  |some s,some cs=>if s.sz=sz then(if cs.any SV.OO then(if cs.length=len*sz then mkK bB (.oQ s [] e cs) o λo'=>K (.ow bB len sz) o' else False) else iO (tX s len (cs.map SV.qn)) λl=>mkK bB (.row s l e true) o λo'=>K (.ow bB len sz) o') else False
  |_,_=>False
 | .tg z len parts e sz=>match p.ty e,sG (parts.map λq=>(q.1,sz,ρ q.2)) ((ε len (z.map SV.oU)).flatten) with
  |some s,some cs=>if s.sz=sz then iO (tX s len (cs.map SV.qn)) λl=>K (.row s l) o else False
  |_,_=>False
 | .load n a=>mK o (ρ a) n λv=>K v o
 | .store n a x=>match ρ a with
  | .ptr id off tot=>match o[id]? with
   |some (.cells cs e sz pu)=>
    if cs.length=tot/\(ρ x).cellsOf.length=n/\xn (ρ x).cellsOf=true/\off+n<=cs.length/\(pu=false\/zy (ρ x).cellsOf=true) then K .ud (o.set id (.cells (tW cs off (if pu then(ρ x).cellsOf.map SV.qn else(ρ x).cellsOf)) e sz pu)) else False
   |_=>False
  | .rp id i off m sz=>match o[id]? with
   |some (.row s l e pu)=>
    if sz=s.sz/\(ρ x).cellsOf.length=n/\off+n<=s.sz then m=l.length/\i<l.length/\iO (jF s (tW (encS s (bj l i s.dflt)) off (if pu then(ρ x).cellsOf.map SV.qn else(ρ x).cellsOf))) λv=>K .ud (o.set id (.row s (l.set i v) e pu)) else False
   |_=>False
  | .ap id base sz len tot i=>match o[id]? with
   |some (.cells cs e sz' pu)=>match n,sz,(ρ x).int .i64 with
    |1,1,some v=>match ints ((cs.drop base).take len) with
     |some l=>if cs.length=tot/\base+len<=tot then i<len/\K .ud (o.set id (.cells (tW cs base ((tZ l i v 0).map (SV.si .i64))) e sz' pu)) else False
     |none=>False
    |_,_,_=>False
   |_=>False
  |_=>False
 | .uR x=>match ρ x with
  | .ptr a b c=>K (.ptr a b c) o
  | .rp a b c d e=>K (.rp a b c d e) o
  | .ep s l i f=>K (.ep s l i f) o
  |_=>False
 | .bin op x y=>eI op (ρ x) (ρ y) λv=>K v o
 | .beq neg x y=>match(ρ x).boo,(ρ y).boo with
  |some a,some b=>K (.sb (if neg then !(a==b) else a==b)) o
  |_,_=>False
 | .sj neg ks x y=>match ρ x,ρ y with
  | .agg a,.agg b=>if lx ks a&&lx ks b then iO (tY a b) λr=>K (.sb (if neg then !r else r)) o else False
  |_,_=>False
 | .un op x=>match op,ρ x with
  | .not,.sb b=>K (.sb !b) o
  | .not,.bl b=>K (.bl !b) o
  | .neg,.si k n=>bW k (-n)/\K (.si k (-n)) o
  | .neg,.il k n=>K (.il k (eQ k (0 - n))) o
  |_,_=>False
 | .conv k x=>match ρ x with
  | .il _ n=>K (.il k (eQ k n)) o
  | .si .i64 n=>bW k n/\K (.si k n) o
  | .si _ n=>vq k n λm=>K (.si k m) o
  |_=>False
 | .uS off x=>match ρ x with
  | .ptr id b tot=>K (.ptr id (b+off) tot) o
  | .ep s l i b=>K (.ep s l i (b+off)) o
  | .rp id i b m sz=>K (.rp id i (b+off) m sz) o
  |_=>False
 | .field off n x=>match ρ x with
  | .agg cs=>iO (sE cs off n) λv=>K v o
  |_=>False
 | .uT len sz x i=>match ρ i with
  | .il _ n=>if 0<=n/\n<len then(match ρ x with
   | .ptr id b tot=>K (.ptr id (b+n.toNat*sz) tot) o
   | .ep s l j b=>K (.ep s l j (b+n.toNat*sz)) o
   | .rp id j b m sz'=>K (.rp id j (b+n.toNat*sz) m sz') o
   |_=>False) else False
  | .si _ n=>match ρ x with
   | .ptr id b tot=>0<=n/\n<len/\K (.ap id b sz len tot n.toNat) o
   |_=>False
  |_=>False
 | .sr sz x i=>match zA (ρ i) with
  |some n=>match ρ x with
   | .row s l=>if sz=s.sz then 0<=n/\n<l.length/\K (.ep s l n.toNat 0) o else False
   | .ow id m sz'=>match o[id]? with
    |some (.row s l _ _)=>if sz=s.sz/\sz'=s.sz then m=l.length/\0<=n/\n<l.length/\K (.rp id n.toNat 0 m sz) o else False
    |_=>False
   | .os id off len m sz'=>match o[id]? with
    |some (.row s l _ _)=>if sz=s.sz/\sz'=s.sz then m=l.length/\0<=n/\n<len/\off+len<=m/\K (.rp id (off+n.toNat) 0 m sz) o else False
    |_=>False
   | .oc id off len m sz'=>match o[id]? with
    |some (.row s l _ _)=>if sz=s.sz/\sz'=s.sz then m=l.length/\0<=n/\n<len/\off+len<=m/\K (.rp id (off+n.toNat) 0 m sz) o else False
    |_=>False
   |_=>False
  |none=>False
 | .idx len sz n x i=>match ρ i,ρ x with
  | .il _ k,.agg cs=>if 0<=k/\k<len then iO (sE cs (k.toNat*sz) n) λv=>K v o else False
  | .si _ k,.agg cs=>match n,sz,ints cs with
   |none,1,some l=>if l.length=len then 0<=k/\k<len/\K (.si .i64 (bj l k.toNat 0)) o else False
   |_,_,_=>False
  |_,_=>False
 | .qp z e sz bytes l c pu=>match zA (ρ l),zA (ρ c),p.ty e with
  |some n,some m,some s=>if s.sz=sz then iO (jF s (if pu then(z.map SV.oU).map SV.qn else z.map .oU)) λx=>0<=n/\n<=m/\m*bytes<=140737488355328/\m<=1000000000000/\
    mkK bB (.row s (ε n.toNat x) e pu) o λo'=>K (.ow bB n.toNat sz) o' else False
  |_,_,_=>False
 | .slice sz x lo hi=>match ρ x with
  | .row s l=>if sz=s.sz then nX 0 (lo.map ρ) λa=>nX l.length (hi.map ρ) λb=>a<=b/\b<=l.length/\K (.row s ((l.drop a).take (b - a))) o else False
  | .ow id m sz'=>match o[id]? with
   |some (.row s l _ _)=>if sz=s.sz/\sz'=s.sz then m=l.length/\nX 0 (lo.map ρ) λa=>nX m (hi.map ρ) λb=>a<=b/\b<=m/\K (.os id a (b - a) m sz) o else False
   |_=>False
  | .os id off len m sz'=>match o[id]? with
   |some (.row s l _ _)=>if sz=s.sz/\sz'=s.sz then m=l.length/\nX 0 (lo.map ρ) λa=>nX len (hi.map ρ) λb=>a<=b/\b<=len/\K (.os id (off+a) (b - a) m sz) o else False
   |_=>False
  |_=>False
 | .slice3 sz x lo hi mx=>match ρ x with
  | .row s l=>if sz=s.sz then nX 0 (lo.map ρ) λa=>nX l.length (some (ρ hi)) λb=>nX l.length (some (ρ mx)) λm=>a<=b/\b<=m/\m<=l.length/\K (.row s ((l.drop a).take (b - a))) o else False
  | .ow id n sz'=>match o[id]? with
   |some (.row s l _ _)=>if sz=s.sz/\sz'=s.sz then n=l.length/\nX 0 (lo.map ρ) λa=>nX n (some (ρ hi)) λb=>nX n (some (ρ mx)) λm=>a<=b/\b<=m/\m<=n/\K (.oc id a (b - a) n sz) o else False
   |_=>False
  |_=>False
 | .append e sz bytes s x pu=>match p.ty e,OM o (ρ x) with
  |some t,some tl=>match ρ s,ρ x with
   | .ow id n sz',.ow _ _ YZ=>match o[id]? with
    |some (.row t' l e' GQ)=>if e'=e/\t'.sz=sz/\sz'=sz/\YZ=sz/\t.sz=sz/\GQ=false/\tl.length=sz/\xn tl=true then n=l.length/\(l.length+1)*bytes<=140737488355328/\l.length+1<=1000000000000/\
      K (.ow id (l.length+1) sz) (o.set id (.oQ t' l e tl)) else False
    |_=>False
   |_,_=>False
  |some t,none=>if t.sz=sz then vt o t (ρ x) λnew=>match ρ s with
    | .sc (.slice none 0 0)=>(new.length=0->K (.sc y9) o)/\(new.length≠0->new.length*bytes<=140737488355328/\new.length<=1000000000000/\mkK bB (.row t new e pu) o λo'=>K (.ow bB new.length sz) o')
    | .ow id n sz'=>match o[id]? with
     |some (.row t' l e' GQ)=>if e'=e/\t'.sz=sz/\sz'=sz then n=l.length/\(l.length+new.length)*bytes<=140737488355328/\l.length+new.length<=1000000000000/\
       iO (iI t' t l) λl'=>K (.ow id (l'++new).length sz) (o.set id (.row t (l'++new) e GQ)) else False
     |_=>False
    | .row t' l=>new.length=0/\K (.row t' l) o
    |_=>False
   else False
  |none,_=>False
 | .len k x=>match k,ρ x with
  |0,.row _ l=>K (.si .i64 l.length) o
  |0,.ow _ n _=>K (.si .i64 n) o
  |0,.os _ _ len _ _=>K (.si .i64 len) o
  |0,.oc _ _ len _ _=>K (.si .i64 len) o
  |0,.sc (.slice none 0 0)=>K (.il .i64 0) o
  |1,.sc (.string s)=>K (.si .i64 s.size) o
  |2,.mp id=>match o[id]? with
   |some (.map _ _ _ es _ _)=>K (.si .i64 es.length) o
   |_=>False
  |_,_=>False
 | .uV n=>K (.il .i64 n) o
 | .mm mx x y=>match ρ x,ρ y with
  | .il k a,.il k' b=>if k=k' then K (.il k (if mx then(if b>a then b else a) else(if b<a then b else a))) o else False
  | .si k a,y=>iO (y.int k) λb=>K (.si k (if mx then max a b else min a b)) o
  | .il k a,y=>iO (y.int k) λb=>K (.si k (if mx then max a b else min a b)) o
  |_,_=>False
 | .call f args own=>zB p f (args.map ρ) o own K
 | .jE f args own=>match ρ f with
  | .fn (.func g) first captured=>zB p g (first++args.map ρ++captured) o own K
  |_=>False
 | .extract x i=>match ρ x with
  | .bH vs=>iO vs[i]? λv=>K v o
  |_=>False
 | .tj f first captured=>K (.fn f (first.map ρ) (captured.map ρ)) o
 | .uW t x=>match ρ x with
  | .agg cs=>if zy cs=true then K (.ia t cs) o else False
  |_=>False
 | .oH tab x args=>match ρ x with
  | .ia t cs=>match uY tab t with
   |some f=>zB p f (.agg cs::args.map ρ) o false K
   |none=>False
  |_=>False
 | .qq kt pu=>match p.mt kt with
  |some (sk,sv)=>mkK bB (.map sk sv kt.2 [] kt pu) o λo'=>K (.mp bB) o'
  |none=>False
 | .lookup z agg ks ka x k ok=>match ρ x with
  | .mp id=>match o[id]? with
   |some (.map sk sv xo es kt _)=>
    if kt=(ks,ka)/\xo=ka/\sk.keyed=true/\sv.xm=true/\agg=false/\(ka=false->sk.sz=1)/\lx ks (ρ k).cellsOf=true/\vu ka (ρ k)=true then
     iO (jF sk (ρ k).cellsOf) λkv=>iO (jF sv (z.map .oU)) λzv=>
      let r:=(encS sv ((jZ sk sv kv es).getD zv)).headD .ud;K (if ok then .bH [r,.sb (jZ sk sv kv es).isSome] else r) o
    else False
   |_=>False
  |_=>False
 | .rc ks ka x k v=>match ρ x with
  | .mp id=>match o[id]? with
   |some (.map sk sv xo es kt pu)=>
    if kt=(ks,ka)/\xo=ka/\sk.keyed=true/\sv.xm=true/\(ka=false->sk.sz=1)/\lx ks (ρ k).cellsOf=true/\vu ka (ρ k)=true/\vu false (ρ v)=true then
     iO (jF sk (ρ k).cellsOf) λkv=>iO (jF sv (ρ v).cellsOf) λvv=>K .ud (o.set id (.map sk sv xo (nn sk sv kv vv es) kt pu))
    else False
   |_=>False
  |_=>False
 |_=>False
where
 zB (p:iN) (f:FuncId) (args:List SV) (o:bX) (own:Bool) (K:SV->bX->Prop):Prop:=
  if own then p.C.own f args o K
  else vr (rF o 6) args λargs'=>p.C.pure f args' λr=>if(args.flatMap (λv=>eY (o.map bq.g) 6 v.g)).isEmpty||r.kW then K r o else False
def xp:fp->Nat->SV->fp
 |[],_,_=>[]
 |p::r,s,v=>bif δA p.1 s then(p.1,v)::r else p::xp r s v
def GR (env:fp) (g:Option (Option Nat×Bool)) (K:fp->Bool->Prop):Prop:=
 match g with
 |none=>K env true
 |some (none,_)=>False
 |some (some s,b)=>match jG env s with
  | .bl c=>K env (c==b)
  | .sb c=>(c=true->K (xp env s (.bl true)) (true==b))/\(c=false->K (xp env s (.bl false)) (false==b))
  | .bH []=>K env false
  |_=>False
def SV.same (v w:SV):Prop:=v.g=w.g
def SV.rH (v:SV):SV->Prop
 | .ite c a b=>(c=true->v.rH a)/\(c=false->v.rH b)
 |w=>v.same w
def bq.same (x y:bq):Prop:=x.g=y.g
def jk:bX->bX->Prop
 |[],[]=>True
 |x::o,y::a=>x.same y/\jk o a
 |_,_=>False
def OP (p:iN) (a:cB) (o o':bX) (K:Bool->Prop):Prop:=
 match a with
 | .call f _ true=>if p.ro f=true then jk o o'/\K true else K false
 |_=>K false
def xq (p:iN) (base:Nat):List dq->cq->Trace->(cq->Trace->Prop)->Prop
 |[],b,c,K=>K b c
 |i::r,b,c,K=>GR b.env i.guard λa w=>
   if w then eJ p i.op (jj a) b.o (base+i.bB) λv d=>OP p i.op b.o d λe=>xq p base r ⟨vp a i.dst v,d⟩ ((i.idx,dN i.op (λx=>(jj a x).g) (b.o.map bq.g) (base+i.bB),if e then[] else wrt i.op (λx=>(jj a x).g) (b.o.map bq.g) (base+i.bB))::c) K
   else xq p base r ⟨vp a i.dst (.bH []),b.o⟩ ((i.idx,[],[])::c) K
def bq.mX:bq->Bool
 | .dead=>true
 |_=>false
def GU (base:Nat) (o:bX):bX:=if(o.drop base).all (·.mX) then o.take base else o
def GV (p:iN) (k:Nat) (c:List dq) (b:List (Nat×Nat)) (st:cq) (K:cq->Prop):Prop:=
 xq p st.o.length c ⟨st.env,st.o++ε k .dead⟩ [] λa d=>
  if b.isEmpty||tt (st.o.length+k) d.reverse b then K ⟨a.env,if k=0 then a.o else GU st.o.length a.o⟩ else False
mutual
def jl (id:Nat) (s:bn) (l:List s.T):SV->(SV->Prop)->Prop
 | .ow j n m,K=>if j=id then(if m=s.sz then n=l.length/\K (.row s l) else False) else K (.ow j n m)
 | .os j h g n m,K=>if j=id then(if m=s.sz then n=l.length/\h+g<=n/\K (.row s ((l.drop h).take g)) else False) else K (.os j h g n m)
 | .oc j h g n m,K=>if j=id then False else K (.oc j h g n m)
 | .rp j i f n m,K=>if j=id then False else K (.rp j i f n m)
 | .ptr j f t,K=>if j=id then False else K (.ptr j f t)
 | .ap j a b c d e,K=>if j=id then False else K (.ap j a b c d e)
 | .agg o,K=>rI id s l o λk=>K (.agg k)
 | .bH o,K=>rI id s l o λk=>K (.bH k)
 | .fn f a b,K=>rI id s l a λp=>rI id s l b λr=>K (.fn f p r)
 |v,K=>K v
def rI (id:Nat) (s:bn) (l:List s.T):List SV->(List SV->Prop)->Prop
 |[],K=>K []
 |c::o,K=>jl id s l c λq=>rI id s l o λk=>K (q::k)
end
def zC (id:Nat) (s:bn) (l:List s.T):fp->(fp->Prop)->Prop
 |[],K=>K []
 |(k,v)::r,K=>jl id s l v λa=>zC id s l r λb=>K ((k,a)::b)
def nY (id:Nat) (s:bn) (l:List s.T):Nat->bX->(bX->Prop)->Prop
 |_,[],K=>K []
 |i,x::r,K=>match x with
  | .cells g e h b=>if b then(if i=id then False else nY id s l (i+1) r λa=>K (.cells g e h b::a)) else rI id s l g λd=>nY id s l (i+1) r λa=>K (.cells d e h b::a)
  | .oQ c f e t=>if i=id then False else rI id s l t λj=>match tX c 1 j with
   |some m=>nY id s l (i+1) r λa=>K (.row c (f++m) e false::a)
   |none=>False
  | .row c f e b=>if i=id then(if b then nY id s l (i+1) r λa=>K (.dead::a) else False) else nY id s l (i+1) r λa=>K (.row c f e b::a)
  |x=>nY id s l (i+1) r λa=>K (x::a)
def t6 (p:iN) (lo:Nat) (h:kq) (st:cq) (K:cq->Prop):Prop:=
 if h.own then match h.off with
  |none=>if isNil (jG st.env h.slot) then(match p.ty h.e with
    |some s=>if s.sz=h.sz then K ⟨(h.slot,.ow st.o.length 0 h.sz)::st.env,st.o++[.row s [] h.e h.pu]⟩ else False
    |none=>False) else if h.sz=0 then(match jG st.env h.slot with
     | .ow a _ _=>match st.o[a]? with
      |some (.row s l e true)=>K ⟨st.env,st.o.set a (.row s l e false)⟩
      |_=>False
     |_=>False) else K st
  |some k=>match jG st.env h.slot with
   | .ptr a b c=>match st.o[a]? with
    |some (.cells d e i f)=>if(d[b+k]?).any isNil then(if d.length=c/\f=false then(match p.ty h.e with
      |some s=>if s.sz=h.sz then K ⟨st.env,(st.o.set a (.cells (d.set (b+k) (.ow st.o.length 0 h.sz)) e i f))++[.row s [] h.e h.pu]⟩ else False
      |none=>False) else False) else K st
    |_=>False
   |_=>False
 else match OQ h st with
  |some (some a)=>if Nat.ble lo a then(match st.o[a]? with
   |some (.row s l e f)=>zC a s l st.env λg=>nY a s l 0 (if f then st.o else st.o.set a (.row s l e true)) λo=>K ⟨g,o⟩
   |_=>False) else K st
  |some none=>K st
  |none=>False
where
 xr:SV->Option Nat
  | .ow a .. =>some a
  | .os a .. =>some a
  | .oc a .. =>some a
  |_=>none;OQ (h:kq) (st:cq):Option (Option Nat):=
  match h.off with
  |none=>some (xr (jG st.env h.slot))
  |some k=>match jG st.env h.slot with
   | .ptr a b c=>match st.o[a]? with
    |some (.cells d _ _ _)=>if d.length=c then(d[b+k]?).map xr else none
    |_=>none
   |_=>none
def zD (p:iN) (lo:Nat):List kq->cq->(cq->Prop)->Prop
 |[],st,K=>K st
 |h::hs,st,K=>t6 p lo h st λst'=>zD p lo hs st' K
def GX (a:List Nat) (env:fp):fp:=a.map λs=>(s,jG env s)
def trimS (k:Nat) (st:cq):cq:=
 if st.o.length<=k then st
 else if(st.env.all λp=>p.2.bZ k)&&((st.o.take k).all λx=>x.bZ k) then⟨st.env,st.o.take k⟩ else st
def xt:fp->fp->Prop
 |[],[]=>True
 |(k,v)::e,(b,c)::a=>if k=b then v.same c/\xt e a else False
 |_,_=>False
def zE (s t:cq):Prop:=xt s.env t.env/\jk s.o t.o
def iS (s:cq) (k:Nat):Int:=match jG s.env k with
 | .si _ n=>n
 | .il _ n=>n
 |_=>0
def bS (s:cq) (k:Nat):Bool:=match jG s.env k with
 | .sb b=>b
 | .bl b=>b
 |_=>false
def rS (t:bn) (s:cq) (k:Nat):List t.T:=match jG s.env k with
 | .row a l=>match iI a t l with
  |some l=>l
  |none=>[]
 |_=>[]
def oS (t:bn) (s:cq) (id:Nat):List t.T:=match s.o[id]? with
 |some (.row a l _ _)=>match iI a t l with
  |some l=>l
  |none=>[]
 |_=>[]
def CN (k v b a:bn) (es:List (k.T×v.T)):Option (List (b.T×a.T)):=if h:k=b/\v=a then some (h.1▸h.2▸es) else none
def mS (k v:bn) (s:cq) (id:Nat):List (k.T×v.T):=match s.o[id]? with
 |some (.map b c _ a _ _)=>match CN b c k v a with
  |some a=>a
  |none=>[]
 |_=>[]
def splitN (v:Int) (n:Nat) (K:Nat->Prop):Nat->Prop
 |0=>0<=v/\v<n
 |j+1=>(v=(n - (j+1):Nat)->K (n - (j+1)))/\splitN v n K j
def splitK (x:Option (Nat×Nat×Nat)) (st:cq) (K:cq->Prop):Prop:=
 match x with
 |none=>K st
 |some (b,a,n)=>match st.o[b]? with
  |some (.cells c e f d)=>match c[a]? with
   |some (.si k v)=>splitN v n (λj=>K ⟨st.env,st.o.set b (.cells (c.set a (.il k j)) e f d)⟩) n
   |_=>False
  |_=>False
inductive cC where
 |pP (n:Nat)
 |look
 |inv (X:Type) (shape:X->cq) (next:cq->X) (J:X->Prop) (m:X->Nat) (inner:X->Nat->cC)
def Look (_:cq):Prop:=False
def vx:IR->Nat
 | .region c .. =>c
 | .seq .skip b=>vx b
 | .seq a _=>vx a
 | .block _ b=>vx b
 | .loop b=>vx b
 | .turns _ b=>vx b
 |_=>0
def GY (W:cq->(Out->cq->Prop)->Prop) (Q:Out->cq->Prop):Nat->cq->Prop
 |0,_=>False
 |n+1,b=>W b λa s=>match a with
  | .norm=>GY W Q n (trimS b.o.length s)
  |o=>Q o s
def zF (t:Nat):fp->fp
 |[]=>[]
 |p::r=>bif δA p.1 t then zF t r else p::zF t r
def xu (x:Operand) (env:fp):fp:=
 match x with
 | .tmp t=>zF t env
 |_=>env
def CO (env:fp) (x:Operand) (v:SV):fp:=
 match x with
 | .tmp t=>xp env t v
 |_=>env
def wpS (p:iN) (lo:Nat):IR->(Nat->cC)->cq->(Out->cq->Prop)->Prop
 | .skip,_,st,Q=>Q .norm st
 | .region id draw k ops kr live pre post,_,st,Q=>splitK (p.sp id) st λst0=>zD p lo pre st0 λst1=>GV p k ops kr st1 λst2=>zD p lo post ⟨GX live st2.env,st2.o⟩ λGZ=>Q .norm GZ
 | .seq a b,Λ,st,Q=>wpS p lo a Λ st λout s=>match out with
  | .norm=>wpS p lo b Λ s Q
  |o=>Q o s
 | .cond x a b,Λ,st,Q=>match jj st.env x with
  | .bl true=>wpS p lo a Λ ⟨xu x st.env,st.o⟩ Q
  | .bl false=>wpS p lo b Λ ⟨xu x st.env,st.o⟩ Q
  | .sb c=>(c=true->wpS p lo a Λ ⟨xu x st.env,st.o⟩ Q)/\(c=false->wpS p lo b Λ ⟨xu x st.env,st.o⟩ Q)
  |_=>False
 | .block id b,Λ,st,Q=>wpS p lo b Λ st λout s=>Q (out.inBlock id) s
 | .loop b,Λ,st,Q=>match Λ (vx b) with
  | .pP n=>GY (wpS p lo b Λ) Q n st
  | .look=>Look st
  | .inv _ shape next J m inner=>(zE st (shape (next st))/\J (next st))/\∀x,J x->wpS p lo b (inner x) (shape x) λout s=>match out with
   | .norm=>zE (trimS (shape x).o.length s) (shape (next (trimS (shape x).o.length s)))/\J (next (trimS (shape x).o.length s))/\m (next (trimS (shape x).o.length s))<m x
   |o=>Q o s
 | .exit id,_,st,Q=>Q (.exit id) st
 | .ret,_,st,Q=>Q .ret st
 | .goto l,_,st,Q=>Q (.goto l) st
 | .oJ x a b,Λ,st,Q=>match jj st.env x with
  | .bl true=>wpS p lo a Λ st Q
  | .bl false=>wpS p lo b Λ st Q
  | .sb c=>(c=true->wpS p lo a Λ ⟨CO st.env x (.bl true),st.o⟩ Q)/\(c=false->wpS p lo b Λ ⟨CO st.env x (.bl false),st.o⟩ Q)
  |_=>False
 | .turns none b,Λ,st,Q=>wpS p lo b Λ st λout s=>match out with
  | .goto _=>False
  |o=>Q o s
 | .turns (some l) b,Λ,st,Q=>match Λ (vx b) with
  | .inv _ shape next J m inner=>(zE st (shape (next st))/\J (next st))/\∀x,J x->wpS p lo b (inner x) (shape x) λout s=>match out with
   | .goto l'=>l'=l/\zE (trimS (shape x).o.length s) (shape (next (trimS (shape x).o.length s)))/\J (next (trimS (shape x).o.length s))/\m (next (trimS (shape x).o.length s))<m x
   |o=>Q o s
  |_=>Look st
 | .tn ..,_,_,_=>False
def np:Nat->List SV->fp
 |_,[]=>[]
 |i,v::a=>(i,v)::np (i+1) a
def nZ (st:cq) (a:List nc) (K:SV->Prop):Prop:=
 goK a λl=>match l with
  |[v]=>K v
  |l=>K (.bH l)
where
 goK:List nc->(List SV->Prop)->Prop
  |[],K=>K []
  |r::a,K=>OS r λv=>goK a λl=>K (v::l);OS (r:nc) (K:SV->Prop):Prop:=match r.cell with
  |none=>K (jG st.env r.slot)
  |some n=>mK st.o (jG st.env r.slot) n K
def sH (p:iN) (Λ:Nat->cC) (F:fh) (args:List SV) (Q:SV->Prop):Prop:=
 wpS p 0 F.body Λ ⟨np 0 args,[]⟩ λa b=>match a with
  | .exit _=>False
  | .goto _=>False
  |_=>nZ b F.res λr=>rF b.o 6 r Q
def vy (p:iN) (Λ:Nat->cC) (F:fh) (args:List SV) (o:bX) (Q:SV->bX->Prop):Prop:=
 wpS p o.length F.body Λ ⟨np 0 args,o⟩ λb a=>match b with
  | .exit _=>False
  | .goto _=>False
  |_=>nZ a F.res λr=>if r.bZ o.length&&a.o.all (λx=>x.bZ o.length)&&decide (o.length<=a.o.length) then Q r (a.o.take o.length) else False
def gE (env:fp):jg:=env.map λp=>(p.1,p.2.g)
def gO (o:bX):Store:=o.map bq.g
def cq.g (st:cq):St:=⟨gE st.env,gO st.o⟩
theorem oa:∀(env:fp) (s:Nat),dH (gE env) s=(jG env s).g
 |[],_=>by simp[gE,dH,jG,γH];|p::r,s=>by
  have:=oa r s;grind[gE,dH,jG]
theorem OT (env:fp) (d:Option Nat) (v:SV):gE (vp env d v)=oG (gE env) d v.g:=by
 cases d<;>simp[vp,oG,gE]
theorem OU (v:Value):(SV.oU v).g= .sc v:=by cases v<;>simp[SV.oU,γH]
theorem G0 (l:List Value):(l.map SV.oU).map γH=l.map .sc:=by simp[OU]
theorem zG (env:fp) (x:Operand):eC (gE env) x=(jj env x).g:=by
 cases x with
 |tmp t=>simp[eC,jj,oa];|const v=>
  cases v<;>simp[eC,jj,AV.uP,SV.uP,γH];split<;>simp[γH,fY,OU];|global g=>simp[eC,jj,γH];|func f=>simp[eC,jj,γH,gL]
theorem OV (env:fp):eC (gE env)=λx=>(jj env x).g:=funext λx=>zG env x
theorem CP (v:SV):v.g.cellsOf=gL v.cellsOf:=by
 cases v<;>simp[γH,AV.cellsOf,SV.cellsOf,gL]
theorem Y0 (v:SV):v.g.one=v.one:=by
 cases v<;>simp[γH,AV.one,SV.one,Value.oneCell']
theorem CQ (l:List SV):eF (gL l)=xn l:=by
 induction l<;>grind[gL,eF,xn,Y0]
theorem G2:∀(l:List SV),zy l=true->dx (gL l)=true
 |[],_=>by simp[gL,dx];|v::l,h=>by
  simp only[zy,ζ] at h;simp only[gL,dx,G2 l h.2,δW];have a:=h.1;cases v<;>simp[SV.pure] at a<;>simp[γH,AV.pure,qG]
mutual
theorem zH (k:Nat):∀(v:SV),v.g.bZ k=v.bZ k
 | .agg cs=>by simp only[γH,AV.bZ,SV.bZ];exact vz k cs;| .bH cs=>by simp only[γH,AV.bZ,SV.bZ];exact vz k cs;| .fn _ a b=>by simp only[γH,AV.bZ,SV.bZ,vz k a,vz k b];| .ud| .sc _| .il .. | .si .. | .bl _| .sb _| .row .. | .ep .. | .ptr .. | .ap .. | .rp .. | .ow .. | .os .. | .oc .. | .mp _| .ia _ _| .ite _ _ _=>by simp[γH,AV.bZ,SV.bZ]
theorem vz (k:Nat):∀(l:List SV),dZ k (gL l)=sD k l
 |[]=>by simp[gL,dZ,sD];|v::l=>by simp only[gL,dZ,sD,zH k v,vz k l]
end
theorem Y3 (k:Nat) {b sv:bn} (c:Bool) (es:List (b.T×sv.T)):dZ k ((es.map λp=>(oR b c p.1,mJ sv p.2)).map (·.2))=true:=
 GK λa h=>by
  simp only[δx,γg,Function.comp] at h;grind[mJ,AV.bZ]
theorem CS (k:Nat) (x:bq):x.g.bZ k=x.bZ k:=by
 cases x with
 |dead=>rfl;|cells n e m d=>simp[bq.g,bQ.bZ,bq.bZ,vz];|row s l e d=>simp[bq.g,bQ.bZ,bq.bZ,OH];|oQ s l e t=>
  have c:∀a b:List AV,dZ k (a++b)=(dZ k a&&dZ k b):=λa b=>by
   induction a<;>grind[dZ]
  grind[bq.g,bQ.bZ,bq.bZ,OH,vz];|map i o f j h d=>simp only[bq.g,bQ.bZ,bq.bZ,Y3,Bool.or_true]
mutual
theorem OW:∀(v:SV),v.kW=true->v.g.kW=true
 | .agg cs,h=>by simp only[SV.kW] at h;simp only[γH,AV.kW];exact G3 cs h;| .bH cs,h=>by simp only[SV.kW] at h;simp only[γH,AV.kW];exact G3 cs h;| .ud,_| .sc _,_| .il ..,_| .si ..,_| .bl _,_| .sb _,_=>by simp[γH,AV.kW];| .row ..,h| .ep ..,h| .ptr ..,h| .ap ..,h| .rp ..,h| .ow ..,h| .os ..,h| .oc ..,h| .mp _,h| .fn ..,h| .ia _ _,h| .ite _ _ _,h=>by simp[SV.kW] at h
theorem G3:∀(l:List SV),CJ l=true->uX (gL l)=true
 |[],_=>by simp[gL,uX];|v::l,h=>by
  simp only[CJ,ζ] at h;simp only[gL,uX,OW v h.1,G3 l h.2,δW]
end
theorem jH (l:List SV):(gL l).length=l.length:=by simp[fY]
theorem t7 (l:List SV) (i:Nat):(gL l)[i]?=(l[i]?).map γH:=by simp[fY]
theorem t8 (a b:List SV):gL (a++b)=gL a++gL b:=by simp[fY]
theorem CU {cs:List SV} {a:Nat} {n:Option Nat} {v:SV} (h:sE cs a n=some v):gm (gL cs) a n=some v.g:=by
 cases n with
 |none=>grind[sE,gm,t7];|some m=>
  simp only[sE] at h;split at h
  ·rename_i b;simp only[γ] at h;subst h;simp_all[gm,γH,fY]
  ·cases h
theorem zI:∀(vs cs:List SV) (a:Nat),gL (tW cs a vs)=fU (gL cs) a (gL vs)
 |[],cs,a=>by simp[tW,gL,fU];|v::vs,cs,a=>by
  simp only[tW,gL,fU];rw[zI vs];simp_all[fY]
theorem G4 (cs:List SV):gL (cs.map SV.qn)=(gL cs).map AV.qn:=by
 simp_all[fY,YX]
theorem G5 (pu:Bool) (cs:List SV):gL (if pu then cs.map SV.qn else cs)=eu pu (gL cs):=by
 grind[eu,G4]
theorem Y4 {c:AV} (h:Plain c.qn):c.one=true/\c.pure=true:=by
 by_cases a:c.qn=c
 ·rw[a] at h;exact⟨h.one,h.pure⟩
 ·unfold AV.qn at a;split at a;·exact⟨rfl,rfl⟩
  simp_all
theorem G6 {pu:Bool} {cs:List AV} (h:∀c∈eu pu cs,Plain c):eF cs=true/\dx cs=true:=by
 have b:∀c∈cs,c.one=true/\c.pure=true:=by
  intro c a;unfold eu at h;split at h;·grind[Y4]
  ·exact⟨(h c a).one,(h c a).pure⟩
 grind[eF,CG]
theorem G7:∀(vs a b c:List AV) (d:Nat),d+vs.length<=b.length->fU (a++b++c) (a.length+d) vs=a++fU b d vs++c
 |[],a,b,c,d,_=>rfl
 |v::vs,a,b,c,d,h=>by
  simp only[γy] at h;simp only[fU];have e:(a++b++c).set (a.length+d) v=a++b.set d v++c:=by
   grind
  rw[e,ε0,G7 vs a (b.set d v) c (d+1) (by simp;omega)]
theorem OX {s:bn} {l:List s.T} {i:Nat} (h:i<l.length):cE s l=cE s (l.take i)++dM s (bj l i s.dflt)++cE s (l.drop (i+1)):=by
 have a:l=l.take i++l[i]::l.drop (i+1):=by simp
 grind[cQ,cE]
theorem take_len {a:Type} {l:List a} {i:Nat} (h:i<l.length):(l.take i).length=i:=by simp;omega
theorem Y5 {s:bn} {l:List s.T} {i a:Nat} {v:s.T} {vs:List AV} (h:i<l.length) (e:a+vs.length<=s.sz) (c:fU (dM s (bj l i s.dflt)) a vs=dM s v):
  fU (cE s l) (i*s.sz+a) vs=cE s (l.set i v):=by
 have d:(cE s (l.take i)).length=i*s.sz:=by rw[fj,take_len h]
 rw[OX h,<-d,G7 _ _ _ _ _ (by grind[lR]),c];have b:i<(l.set i v).length:=by simpa using h
 rw[OX b,cQ b];simp[List.take_set_of_le,List.drop_set_of_lt]
theorem OY {s:bn} {l:List s.T} {i b:Nat} {n:Option Nat} {v:SV} (h:i<l.length) (e:sE (encS s (bj l i s.dflt)) b n=some v):gm (cE s l) (i*s.sz+b) n=some v.g:=by
 have a:=CU e;rw[fY,tV] at a;have c:=YY (s:=s) h;have d:(cE s l).length=i*s.sz+(s.sz+(cE s (l.drop (i+1))).length):=by
  have:=congrArg γn c;grind[lR]
 cases n with
 |none=>
  simp only[gm] at a ⊢;rw[<-List.getElem?_drop,c,List.getElem?_append_left]<;>grind;|some m=>
  simp only[gm,lR] at a;split at a
  ·rename_i f;simp only[gm];rw[if_pos (by omega),<-γW,c,List.drop_append_of_le_length (by grind[lR]),List.take_append_of_le_length (by grind[lR])];exact a
  ·cases a
theorem iY {b:Type} {x:Option b} {K:b->Prop} (h:iO x K):∃a,x=some a/\K a:=by
 cases x with
 |none=>exact h.elim;|some a=>exact⟨a,rfl,h⟩
theorem G8 (o:bX) (i:Nat):(gO o)[i]?=(o[i]?).map bq.g:=by simp[gO]
theorem ob (o:bX):(gO o).length=o.length:=by simp[gO]
theorem qH (o:bX) (i:Nat) (x:bq):gO (o.set i x)=(gO o).set i x.g:=by simp[gO]
theorem fE {o:bX} {i:Nat} {x:bq} (h:o[i]?=some x):(gO o)[i]?=some x.g:=by grind[G8]
theorem OZ:∀{cs:List SV} {l:List Int},ints cs=some l->cs.length=l.length/\∀i,i<l.length->(cs[i]?).map γH=some (.sc (.int .i64 (bj l i 0))):=by
 intro cs l h;have a:=CB h;have c:cs.length=l.length:=by simpa using congrArg γn a
 refine⟨c,λi b=>?_⟩;have:=congrArg (λl=>l[i]?) a;simp only[List.getElem?_map] at this;rw[this,ξ b,cQ b];rfl
theorem O0:∀{cs:List SV} {l:List (List Off)},mK.rowsOff cs=some l->cs.length=l.length/\∀i,i<l.length->cs[i]?=some (.row .off (bj l i []))
 |[],l,h=>by grind[mK.rowsOff];|c::cs,l,h=>by
  cases c with
  |row s x=>
   cases s<;>simp only[mK.rowsOff,reduceCtorEq] at h;obtain⟨e,a,rfl⟩:=δ.1 h;obtain⟨b,d⟩:=O0 a;grind[bj];|_=>simp[mK.rowsOff] at h
theorem Y6 {cs:List SV} {sz i:Nat} {n:Option Nat} {K:SV->Prop} (h:mK.zz cs sz i n K) (d:i*sz<cs.length):∃v,gm (gL cs) (i*sz) n=some v.g/\K v:=by
 unfold mK.zz at h;split at h
 ·rw[Nat.mul_one] at d ⊢;split at h
  ·rename_i l a;obtain⟨b,c⟩:=OZ a;grind[gm,t7,γH]
  ·split at h
   ·rename_i l a;obtain⟨b,c⟩:=O0 a;grind[gm,t7]
   simp_all
 simp_all
theorem Y7 {cs:List AV} {base a m:Nat} {v:AV} (h:gm ((cs.drop base).take m) a none=some v):gm cs (base+a) none=some v:=by
 grind[gm]
theorem O1 {o:bX} {a:SV} {n:Option Nat} {K:SV->Prop} (h:mK o a n K):∃cs b v,behind (gO o) a.g=some (cs,b)/\gm cs b n=some v.g/\K v:=by
 cases a with
 |ptr x b t=>
  simp only[mK] at h;split at h
  ·rename_i cs e f z y;split at h
   ·rename_i D;obtain⟨v,k,j⟩:=iY h;exact⟨gL cs,b,v,by simp_all[behind,γH,fE,bq.g,jH],CU k,j⟩
   simp_all
  simp_all;|ap x c f d t i=>
  simp only[mK] at h;split at h
  ·rename_i cs e A z y;split at h
   ·rename_i D;obtain⟨C,p⟩:=h;have w:(i+1)*f<=d*f:=γN _ C;rw[Nat.succ_mul] at w;have F:f*d=d*f:=Nat.mul_comm ..;by_cases E:f=0;·grind[mK.zz]
    ·have q:i*f<((cs.drop c).take (f*d)).length:=by grind
     obtain⟨v,k,j⟩:=Y6 p q;have B:n=none:=by
      grind[mK.zz]
     subst B;refine⟨gL cs,c+i*f,v,by simp_all[behind,γH,fE,bq.g,jH],?_,j⟩;have:gL ((cs.drop c).take (f*d))=((gL cs).drop c).take (f*d):=by simp[fY]
     grind[Y7]
   simp_all
  simp_all;|ep s l i b=>
  simp only[mK] at h;obtain⟨u,p⟩:=h;obtain⟨v,k,j⟩:=iY p;exact⟨cE s l,i*s.sz+b,v,by simp[behind,γH],OY u k,j⟩;|rp x i b m f=>
  simp only[mK] at h;split at h
  ·rename_i s l e z y;split at h
   ·rename_i r;subst r;obtain⟨w,u,p⟩:=h;obtain⟨v,k,j⟩:=iY p;exact⟨cE s l,i*s.sz+b,v,by simp_all[behind,γH,fE,bq.g,fj],OY u k,j⟩
   simp_all
  simp_all;|_=>simp only[mK] at h
theorem O2 (o:Store) (d:Nat) {v:Value} (h:v≠ .slice none 0 0):freeze o d (.sc v)=some (.sc v):=by
 grind[freeze]
theorem O3 (o:Store) (d:Nat) {a:AV} (h:Plain a):freeze o d a=some a:=by
 rcases h with⟨v,rfl,_,h⟩|⟨n,b,rfl,_⟩<;>grind[O2,freeze]
theorem G9 {f:AV->Option AV}:∀{l:List AV},(∀a∈l,f a=some a)->l.mapM f=some l
 |[],_=>by simp;|a::l,h=>by simp[List.mapM_cons,h a (by simp),G9 (l:=l) λb c=>h b (by simp[c])]
theorem xw {o:Store} {d:Nat} {f:SV->(SV->Prop)->Prop} (c:∀v K,f v K->∃b:SV,freeze o d v.g=some b.g/\K b):
  ∀{l:List SV} {K:List SV->Prop},vr f l K->∃a,(gL l).mapM (freeze o d)=some (gL a)/\K a
 |[],K,h=>⟨[],by simp[gL],h⟩
 |v::l,K,h=>by
  obtain⟨b,j,i⟩:=c v _ h;obtain⟨a,k,e⟩:=xw c i;exact⟨b::a,by simp_all[gL],e⟩
theorem zJ {s:bn} {l:List s.T} {b a:Nat}:((cE s l).drop (b*s.sz)).take (a*s.sz)=cE s ((l.drop b).take a):=by
 rw[GL,OJ]
theorem Ha {o:bX}:∀{d:Nat} {v:SV} {K:SV->Prop},rF o d v K->∃y,freeze (gO o) d v.g=some y.g/\K y:=by
 intro d;induction d with
 |zero=>
  intro v K h;cases v<;>simp only[rF] at h<;>grind[rF,γH,freeze,cE,O2];|succ d p=>
  intro v K h;cases v<;>simp only[rF] at h;case sc v=>
   grind[γH,freeze,cE]
  case agg B=>
   obtain⟨A,z,r⟩:=xw (λv K m=>p m) h;grind[γH,freeze]
  case bH B=>
   obtain⟨A,z,r⟩:=xw (λv K m=>p m) h;grind[γH,freeze]
  case fn f a b=>
   obtain⟨I,z,r⟩:=xw (λv K m=>p m) h;obtain⟨J,L,H⟩:=xw (λv K m=>p m) r;grind[γH,freeze]
  case ow E n F=>
   split at h
   ·rename_i s l e G w;split at h
    ·rename_i k;obtain⟨rfl,t⟩:=h;subst k;refine⟨_,?_,t⟩;have i:(cE s l).mapM (freeze (gO o) d)=some (cE s l):=G9 λa C=>by
      grind[O3,nk]
     have D:γd (l.length*s.sz) (cE s l)=cE s l:=γk (by grind[fj]);simp_all[γH,freeze,fE,bq.g,fj,qG]
    simp_all
   simp_all
  case os E j c n F=>
   split at h
   ·rename_i s l e G w;split at h
    ·rename_i k;obtain⟨rfl,u,t⟩:=h;subst k;refine⟨_,?_,t⟩;have i:(cE s ((l.drop j).take c)).mapM (freeze (gO o) d)=some (cE s ((l.drop j).take c)):=G9 λa C=>by
      grind[O3,nk]
     have x:(j+c)*s.sz<=l.length*s.sz:=γN _ u;rw[δZ] at x;have q:((l.drop j).take c).length=c:=by simp;omega
     simp only[γH,freeze,fE w,bq.g,fj,x,and_self,if_true,zJ,i,qG,q];simp_all
    simp_all
   simp_all
  all_goals grind[γH,freeze]
theorem CV {k:IntKind} {n:Int} (h:bW k n):eQ k n=n:=by
 cases k<;>simp only[bW,eQ] at h ⊢<;>simp_all
theorem nq {c:Prop} [Decidable c] {A:Prop} (h:if c then A else False):c/\A:=by
 simp_all
theorem agL {b:Int} {k:Nat} (h:b<=k):min b.toNat k=b.toNat:=by omega
theorem Y8 (a b:Int):(a==b)=decide (a=b):=rfl
theorem Y9 (a b:Int):(a !=b)=decide (a≠b):=by
 grind
theorem zK {k:IntKind} {n:Int} {K:Int->Prop} (h:vq k n K):K (eQ k n):=by
 have a:k= .u32->eQ k n=n % 4294967296:=by
  grind[tJ,IntKind.wrap,IntKind.bits,IntKind.signed]
 have b:k= .u64->eQ k n=n % 18446744073709551616:=by
  grind[tJ,IntKind.wrap,IntKind.bits,IntKind.signed]
 unfold vq at h;grind[CV]
theorem go_sound {e:BinOp} {k i:IntKind} {a b:Int} {K:SV->Prop} (h:eI.go e K k a i b):∃v f:_,gG e (.int k a) (.int i b)=some v/\f.g= .sc v/\K f:=by
 cases e<;>simp only[eI.go] at h;case shl=>
  obtain⟨j,m,l⟩:=h;refine⟨.int k (eQ k (a*2^b.toNat)),.si k (eQ k (a*2^b.toNat)),?_,rfl,zK l⟩;simp_all[gG,FX]
 case shr=>
  obtain⟨j,m,n⟩:=h;refine⟨.int k (a / 2^b.toNat),_,?_,rfl,n⟩;have:a.fdiv (2^b.toNat)=a / 2^b.toNat:=Int.fdiv_eq_ediv_of_nonneg _ (by grind);simp_all[gG,FX]
 case add=>
  obtain⟨d,c⟩:=nq h;subst d;exact⟨.int k (eQ k (a+b)),.si k (eQ k (a+b)),by simp only[gG,if_true,lp],rfl,zK c⟩
 case sub=>
  obtain⟨d,c⟩:=nq h;subst d;exact⟨.int k (eQ k (a - b)),.si k (eQ k (a - b)),by simp only[gG,if_true,lp],rfl,zK c⟩
 case mul=>
  obtain⟨d,c⟩:=nq h;subst d;exact⟨.int k (eQ k (a*b)),.si k (eQ k (a*b)),by simp only[gG,if_true,lp],rfl,zK c⟩
 case quo=>
  obtain⟨d,c⟩:=nq h;subst d;exact⟨.int k (a.tdiv b),_,by simp_all[gG,lp,CV],rfl,c.2.2⟩
 case rem=>
  obtain⟨d,c⟩:=nq h;subst d;exact⟨.int k (a.tmod b),_,by simp_all[gG,lp],rfl,c.2⟩
 case and=>
  obtain⟨d,c⟩:=nq h;subst d;exact⟨.int k (eI.rG k a b),_,by simp only[gG,if_true,lp,eI.rG],rfl,c⟩
 case or=>
  obtain⟨d,c⟩:=nq h;subst d;exact⟨.int k (eI.nW k a b),_,by simp only[gG,if_true,lp,eI.nW],rfl,c⟩
 case xor=>
  obtain⟨d,c⟩:=nq h;subst d;exact⟨.int k (eI.GM k a b),_,by simp only[gG,if_true,lp,eI.GM],rfl,c⟩
 case andNot=>
  obtain⟨d,c⟩:=nq h;subst d;exact⟨.int k (eI.pO k a b),_,by simp only[gG,if_true,lp,eI.pO],rfl,c⟩
 case eql=>
  obtain⟨d,c⟩:=nq h;subst d;exact⟨.bool (decide (a=b)),_,by simp_all[gG,lp,Y8],rfl,c⟩
 case neq=>
  obtain⟨d,c⟩:=nq h;subst d;exact⟨.bool (decide (a≠b)),_,by simp_all[gG,lp,Y9],rfl,c⟩
 case lss=>
  obtain⟨d,c⟩:=nq h;subst d;exact⟨.bool (decide (a<b)),_,by simp only[gG,if_true,lp],rfl,c⟩
 case leq=>
  obtain⟨d,c⟩:=nq h;subst d;exact⟨.bool (decide (a<=b)),_,by simp only[gG,if_true,lp],rfl,c⟩
 case gtr=>
  obtain⟨d,c⟩:=nq h;subst d;exact⟨.bool (decide (b<a)),_,by simp only[gG,if_true,lp],rfl,c⟩
 case geq=>
  obtain⟨d,c⟩:=nq h;subst d;exact⟨.bool (decide (b<=a)),_,by simp only[gG,if_true,lp],rfl,c⟩
theorem Za {j:BinOp} {x y:SV} {K:SV->Prop} (h:eI j x y K):∃a b v c,x.g= .sc a/\y.g= .sc b/\gG j a b=some v/\c.g= .sc v/\K c:=by
 unfold eI at h;split at h
 ·split at h;·rename_i i;exact⟨_,_,_,_,rfl,rfl,i,rfl,h⟩
  ·rename_i i;exact⟨_,_,_,_,rfl,rfl,i,rfl,h⟩
  simp_all
 ·obtain⟨v,c,d,e,f⟩:=go_sound h;exact⟨_,_,v,c,rfl,rfl,d,e,f⟩
 ·obtain⟨v,c,d,e,f⟩:=go_sound h;exact⟨_,_,v,c,rfl,rfl,d,e,f⟩
 ·obtain⟨v,c,d,e,f⟩:=go_sound h;exact⟨_,_,v,c,rfl,rfl,d,e,f⟩
 ·split at h;·exact⟨_,_,_,_,rfl,rfl,by grind[gG],rfl,h⟩
  ·exact⟨_,_,_,_,rfl,rfl,by grind[gG],rfl,h⟩
  simp_all
 simp_all
theorem zL {k:IntKind} {a b:Int}:seq1 (.int k a) (.int k b)=some (decide (a=b)):=by
 simp only[seq1,if_true,γ];rfl
theorem Zb {x y:SV} {r:Bool} (h:GN x y=some r):∃a b,x.g= .sc a/\y.g= .sc b/\seq1 a b=some r:=by
 cases x<;>simp only[GN,reduceCtorEq] at h;all_goals
  obtain⟨b,c,rfl⟩:=δ.1 h;first
   |exact⟨_,_,rfl,gP c,zL⟩;|exact⟨_,_,rfl,vo c,by simp[seq1]⟩
theorem O4:∀{x y:List SV} {r:Bool},tY x y=some r->∃a b,gL x=a.map .sc/\gL y=b.map .sc/\gn a b=some r
 |[],[],r,h=>by simp[tY] at h;subst h;exact⟨[],[],rfl,rfl,rfl⟩;|[],_::_,r,h=>by grind[tY];|_::_,[],r,h=>by grind[tY];|x::l,y::n,r,h=>by
  simp only[tY] at h;split at h
  ·rename_i a b e f;simp only[γ] at h;subst h;obtain⟨u,v,g,j,k⟩:=Zb e;obtain⟨d,c,i,o,m⟩:=O4 f;exact⟨u::d,v::c,by grind[gL],by grind[gL],by grind[gn]⟩
  ·cases h
theorem He:∀(l:List Value),su (l.map .sc)=some l
 |[]=>rfl
 |v::l=>by simp[su,He l]
theorem ua:∀{a b:List Value},a.map δh=b.map δh->a=b
 |[],[],_=>rfl
 |[],_::_,h=>by simp at h;|_::_,[],h=>by simp at h;|x::a,y::b,h=>by
  simp only[ι,π,γX] at h;rw[h.1,ua h.2]
theorem vA:∀{e:List Nat} {x:List SV} {a:List Value},lx e x=true->gL x=a.map .sc->ey e a=true
 |[],[],a,_,h=>by
  cases a with
  |nil=>rfl;|cons a i=>simp[gL] at h
 |[],_::_,a,h,_=>by grind[lx];|_::_,[],a,h,_=>by grind[lx];|k::e,x::j,a,h,f=>by
  cases a with
  |nil=>grind[gL];|cons a i=>
   simp only[gL,ι,π] at f;obtain⟨c,d⟩:=f;match k,x,h with
   |0,.si k n,h=>simp only[lx] at h;simp only[γH,γX] at c;subst c;simpa[ey] using vA h d;|0,.il k n,h=>simp only[lx] at h;simp only[γH,γX] at c;subst c;simpa[ey] using vA h d;|1,.sb b,h=>simp only[lx] at h;simp only[γH,γX] at c;subst c;simpa[ey] using vA h d;|1,.bl b,h=>simp only[lx] at h;simp only[γH,γX] at c;subst c;simpa[ey] using vA h d
theorem Zc {c:List Nat} {a b:List SV} {r:Bool} (d:(lx c a&&lx c b)=true) (h:tY a b=some r):wJ c (gL a) (gL b)=some r:=by
 obtain⟨u,v,f,e,g⟩:=O4 h;simp only[ζ] at d;rw[f,e];simp only[wJ,He,vA d.1 f,vA d.2 e,Bool.and_self,if_true,g]
theorem Zd {s s':bn} {l:List s.T} {a:List s'.T} (h:iI s s' l=some a):s=s'/\HEq l a:=by
 unfold iI at h;grind
theorem zM {s s':bn} {l:List s.T} {l':List s'.T} (h:iI s s' l=some l'):s'=s/\cE s' l'=cE s l/\l'.length=l.length:=by
 grind[Zd]
theorem Hf:∀{a:List (Nat×Nat×SV)} {cs b:List SV},sG a cs=some b->lu (a.map λq=>(q.1,q.2.1,q.2.2.g)) (gL cs)=some (gL b)
 |[],cs,b,h=>by simp[sG] at h;subst h;rfl;|(d,n,v)::r,cs,b,h=>by
  simp only[sG] at h;split at h
  ·rename_i c;obtain⟨i,f,e⟩:=c;have:=Hf h;simp_all[lu,CP,jH,CQ,zI]
  ·cases h
theorem CW {s:bn}:∀{n:Nat} {cs:List SV} {l:List s.T},tX s n cs=some l->gL cs=cE s l/\l.length=n
 |0,[],l,h=>by grind[tX,gL,cE];|0,_::_,l,h=>by simp[tX] at h;|n+1,cs,l,h=>by
  simp only[tX] at h;split at h
  ·rename_i x f a b;simp only[γ] at h;subst h;obtain⟨d,c⟩:=CW b;have e:=nV a;refine⟨?_,by simp[c]⟩;rw[fY] at d ⊢;conv=>lhs;rw[<-γc s.sz cs]
   grind[cE]
  ·cases h
theorem Ze {o:bX} {s:bn} {x:SV} {K:List s.T->Prop} (h:vt o s x K):∃l,mZ (gO o) s.sz x.g=some (l.length,cE s l)/\K l:=by
 cases x with
 |row q l=>
  simp only[vt] at h;obtain⟨f,c,w⟩:=iY h;obtain⟨rfl,p,m⟩:=zM c;exact⟨f,by simp_all[γH,mZ,fj],w⟩;|ow y n u=>
  simp only[vt] at h;split at h
  ·rename_i q l e A B;split at h
   ·rename_i b;subst b;obtain⟨rfl,k⟩:=h;obtain⟨f,c,i⟩:=iY k;obtain⟨rfl,p,m⟩:=zM c;refine⟨f,?_,i⟩;have t:γd (l.length*s.sz) (cE s l)=cE s l:=γk (by grind[fj]);simp_all[γH,mZ,fE,bq.g,fj]
   simp_all
  simp_all;|os y d a n u=>
  simp only[vt] at h;split at h
  ·rename_i q l e A B;split at h
   ·rename_i b;subst b;obtain⟨rfl,j,k⟩:=h;obtain⟨f,c,i⟩:=iY k;obtain⟨rfl,p,m⟩:=zM c;refine⟨f,?_,i⟩;have r:(d+a)*s.sz<=l.length*s.sz:=γN _ j;rw[δZ] at r;have z:((l.drop d).take a).length=a:=by simp;omega
    simp_all[γH,mZ,fE,bq.g,fj,zJ]
   simp_all
  simp_all;|sc v=>
  grind[vt,γH,mZ,cE];|_=>simp only[vt] at h
theorem Hh {v:SV} {n:Int} (h:zA v=some n):gW v.g=some n:=by
 cases v<;>simp[zA] at h<;>simp[γH,gW,h]
theorem pQ {d:Nat} {x:Option SV} {K:Nat->Prop} (h:nX d x K):∃n,gX d (x.map γH)=some n/\K n:=by
 unfold nX at h;grind[γH,gX]
theorem vB {bB:Nat} {x:bq} {o:bX} {K:bX->Prop} (h:mkK bB x o K):∃o',kU bB x.g (gO o)=some (gO o')/\K o':=by
 grind[mkK,kU,fE,bq.g,qH]
theorem Zf {s:bn} (e:s.keyed=true) (x y:s.T):gn (dI s x) (dI s y)=some (decide (x=y)):=by
 cases s<;>simp only[bn.keyed,reduceCtorEq] at e;·grind[dI,gn,zL]
 ·obtain⟨b,⟨m,o,a,l,c,i⟩⟩:=x;obtain⟨g,⟨k,h,j,n,d,f⟩⟩:=y;simp_all[dI,iv,gn,zL]
 ·obtain⟨b,⟨m,o,a,l,c,i⟩,⟨C,t,B,A,D,w⟩⟩:=x;obtain⟨g,⟨k,h,j,n,d,f⟩,⟨p,z,r,u,v,q⟩⟩:=y;simp only[dI,iv,gn,zL,γ,δW];grind
theorem Zg {s:bn} {a:Bool} (d:s.keyed=true) (b:a=false->s.sz=1) (x y:s.T):keq (oR s a x) (oR s a y)=some (decide (x=y)):=by
 cases a with
 |true=>grind[oR,keq,Zf];|false=>
  have c:=b rfl;cases s<;>simp only[bn.keyed,reduceCtorEq] at d<;>simp only[bn.sz,reduceCtorEq,Nat.reduceEqDiff] at c;simp_all[oR,dI,keq,zL]
theorem Hj {a sv:bn} {c:Bool} (f:a.keyed=true) (e:c=false->a.sz=1) (x:a.T):∀(es:List (a.T×sv.T)) (i:Nat),
  ∃r,nS (oR a c x) (es.map λp=>(oR a c p.1,mJ sv p.2)) i=some r/\(match jZ a sv x es with|some v=>∃j,r=some (i+j,mJ sv v)/\(∃p,es[j]?=some p/\p.1=x)/\(∀g<j,∀p,es[g]?=some p->p.1≠x)|none=>r=none/\∀p∈es,p.1≠x)
 |[],i=>⟨none,by simp[nS],by simp[jZ]⟩
 |p::es,i=>by
  simp only[ι,nS,Zg f e];by_cases b:p.1=x
  ·refine⟨some (i,mJ sv p.2),by simp[b],?_⟩;simp only[jZ,List.find?_cons,b,decide_true,μ];exact⟨0,by simp,⟨p,by simp,b⟩,by simp⟩
  ·obtain⟨r,m,k⟩:=Hj f e x es (i+1);have d:¬x=p.1:=λh=>b h.symm;refine⟨r,by simp[d,m],?_⟩;have n:jZ a sv x (p::es)=jZ a sv x es:=by grind[jZ]
   rw[n];split at k
   ·obtain⟨j,w,⟨q,t,l⟩,o⟩:=k;refine⟨j+1,by grind,⟨q,by simp_all,l⟩,λg u s y=>?_⟩;grind
   grind
theorem Hk {a sv:bn} {x:a.T} {v:sv.T}:∀{es:List (a.T×sv.T)},(∀p∈es,p.1≠x)->nn a sv x v es=es++[(x,v)]
 |[],_=>rfl
 |p::es,h=>by
  simp only[nn,if_neg (h p (by simp)),γE];rw[Hk λq b=>h q (by simp[b])]
theorem O5 {a sv:bn} {x:a.T} {v:sv.T}:∀{es:List (a.T×sv.T)} {j:Nat},(∃p,es[j]?=some p/\p.1=x)->(∀b<j,∀p,es[b]?=some p->p.1≠x)->nn a sv x v es=es.modify j λ_=>(x,v)
 |[],j,⟨p,h,_⟩,_=>by simp at h;|p::es,0,⟨q,h,d⟩,_=>by
  grind[nn];|p::es,j+1,⟨q,h,d⟩,c=>by
  have g:=c 0 (by omega) p (by simp);simp only[nn,if_neg g,ζz];rw[O5 (j:=j) ⟨q,by simpa using h,d⟩ λb i e f=>c (b+1) (by omega) e (by simp_all)]
theorem O6 {f:List Nat} {d:Bool} {s:bn} {v:SV} {x:s.T} (e:lx f v.cellsOf=true) (o:vu d v=true) (p:s.flat=true) (n:jF s v.cellsOf=some x):lr f d v.g=some (oR s d x):=by
 have k:=nV n;have c:gL v.cellsOf=(dI s x).map .sc:=by grind[fY,Cm]
 have i:=vA e c;by_cases l:∃h,v= .agg h
 ·obtain⟨h,rfl⟩:=l;simp_all[SV.cellsOf,vu,γH,lr,He,oR]
 ·have b:d=false:=by
   simp_all[vu]
  subst b;have j:v.cellsOf=[v]:=by
   cases v<;>first|rfl|simp_all
  rw[j] at c;simp only[gL] at c;cases m:dI s x with
  |nil=>simp_all;|cons a r=>
   rw[m] at c i;simp only[ι,π] at c;simp_all[lr,oR]
theorem O7 {s:bn} (h:s.xm=true) (x:s.T):((encS s x).headD .ud).g=mJ s x:=by
 cases s<;>simp[bn.xm] at h<;>simp[encS,mJ,dI,γH]
theorem O8 {s:bn} (h:s.xm=true) (x:s.T):dM s x=[mJ s x]:=by
 cases s<;>simp[bn.xm] at h<;>simp[dM,mJ,dI]
theorem O9 {s:bn} (h:s.keyed=true):s.flat=true:=by
 cases s<;>simp[bn.keyed] at h<;>rfl
structure pR (call:cV) (C:OL):Prop where
 pure:∀f args K,C.pure f args K->∃r:SV,call f (gL args) [] false=some (r.g,[])/\K r
 own:∀f args o K,C.own f args o K->∃(r:SV) (o':bX),iH call f (gL args) (gO o)=some (r.g,gO o')/\K r o'
section
variable {call:cV} {p:iN} {o:bX} {bB:Nat} {K:SV->bX->Prop}
theorem Hl (j:pR call p.C) {f:FuncId} {args:List SV} {own:Bool} (h:eJ.zB p f args o own K):
  ∃(v:SV) (o':bX),gx call f (gL args) (gO o) own=some (v.g,gO o')/\K v o':=by
 unfold eJ.zB at h;split at h
 ·rename_i c;obtain⟨r,o',k,e⟩:=j.own _ _ _ _ h;exact⟨r,o',by simp_all[gx],e⟩
 ·rename_i c;have c:own=false:=by simp_all
  subst c;obtain⟨b,k,e⟩:=xw (o:=gO o) (d:=6) (λv K m=>Ha m) h;obtain⟨r,l,i⟩:=j.pure _ _ _ e;split at i
  ·rename_i a;refine⟨r,o,?_,i⟩;simp only[gx,χ,if_false,k,l];rw[if_pos];simp only[δo] at a ⊢;rcases a with a|a
   ·left;rw[fY,List.flatMap_map];exact a
   grind[OW]
  simp_all
theorem CX (ρ:Operand->SV) (l:List Operand):gL (l.map ρ)=l.map λx=>(ρ x).g:=by simp[fY]
theorem Zh {a:List (Nat×Nat×Operand)} {ρ:Operand->SV} {cs b:List SV} (h:sG (a.map λq=>(q.1,q.2.1,ρ q.2.2)) cs=some b):
  lu (a.map λq=>(q.1,q.2.1,(ρ q.2.2).g)) (gL cs)=some (gL b):=by
 have:=Hf h;grind[δn]
theorem Hm {a:List (Nat×Operand)} {sz:Nat} {ρ:Operand->SV} {cs b:List SV} (h:sG (a.map λq=>(q.1,sz,ρ q.2)) cs=some b):
  lu (a.map λq=>(q.1,sz,(ρ q.2).g)) (gL cs)=some (gL b):=by
 have:=Hf h;grind[δn]
theorem Hn (z:List Value):gL (z.map SV.oU)=z.map .sc:=by rw[fY,G0]
theorem Ho (a:Nat) (z:List Value):gL ((ε a (z.map SV.oU)).flatten)=(ε a (z.map δh)).flatten:=by
 rw[fY,List.map_flatten,List.map_replicate,G0]
theorem Zi (s:bn) (x:s.T) (n:Nat):(ε n (dM s x)).flatten=cE s (ε n x):=by
 induction n<;>grind[cE]
theorem zO {ρ:Operand->SV} (l:Option Operand):(l.map ρ).map γH=l.map λx=>(ρ x).g:=by cases l<;>rfl
theorem Zj:∀{l:List Int} {i:Nat} {v:Int},i<l.length->fU (l.map λn=>δh (iv n)) 0 ((l.set i v).map λn=>δh (iv n))=(l.map λn=>δh (iv n)).set i (.sc (iv v)):=by
 intro l i v e;have d:∀(b a c:List AV),b.length=c.length->fU (a++c) a.length b=a++b:=by
  intro b;induction b with
  |nil=>grind[fU];|cons w b f=>
   intro a c h;cases c with
   |nil=>simp at h;|cons y c=>
    simp only[γy,ζk] at h;simp only[fU];have:(a++y::c).set a.length w=(a++[w])++c:=by
     simp_all
    grind
 have:=d ((l.set i v).map λn=>δh (iv n)) [] (l.map λn=>δh (iv n)) (by simp);simp_all
theorem Pe {b c:Type} (f:b->c) (x:b):∀(l:List b) (j:Nat),(l.modify j λ_=>x).map f=(l.map f).modify j λ_=>f x
 |[],j=>by simp;|a::l,0=>by simp_all;|a::l,j+1=>by simp only[ζz,ι,Pe f x l j]
theorem Zk (v:Value):(δh v).cellsOf=[.sc v]:=rfl
theorem Pg:∀{l:List Int} {i j:Nat} {v:Int},tZ l (i+j) v j=l.set i v
 |[],_,_,_=>rfl
 |a::l,0,j,v=>by
  have h:∀(l:List Int) (c:Nat),j<c->tZ l j v c=l:=by
   intro l;induction l with
   |nil=>intro _ _;rfl;|cons b l d=>intro c e;simp only[tZ,if_neg (show ¬j=c by omega),d (c+1) (by omega)]
  simp_all[tZ];|a::l,i+1,j,v=>by
  simp only[tZ,if_neg (show ¬i+1+j=j by omega),List.set_cons_succ];rw[show i+1+j=i+(j+1) from by omega,Pg]
theorem Zl {ρ:Operand->SV} {n:Nat} {a x:Operand} (h:eJ p (.store n a x) ρ o bB K):
  ∃(v:SV) (o':bX),bJ call (.store n a x) (λx=>(ρ x).g) (gO o) bB=some (v.g,gO o')/\K v o':=by
 simp only[eJ] at h;split at h
 ·rename_i W b L B;split at h
  ·rename_i f e Y E z;split at h
   ·rename_i D;obtain⟨V,C,X,P,R⟩:=D;refine⟨.ud,_,?_,h⟩;simp only[bJ,B,γH,fE z,bq.g,CP,jH,CQ];rw[if_pos ⟨V,C,X,P,R.imp (λq=>q) λhp=>G2 _ hp⟩,qH,bq.g,zI,G5]
   simp_all
  simp_all
 ·rename_i W i b m Y B;split at h
  ·rename_i s l e E z;split at h
   ·rename_i D;obtain⟨rfl,C,X⟩:=D;obtain⟨rfl,N,P⟩:=h;obtain⟨v,hv,R⟩:=iY P;refine⟨.ud,_,?_,R⟩;have T:=nV hv;rw[<-fY,zI,G5] at T;have O:gL (encS s (bj l i s.dflt))=dM s (bj l i s.dflt):=by rw[fY,tV]
    rw[O] at T;have y:(i+1)*s.sz<=l.length*s.sz:=γN _ N;rw[Nat.succ_mul] at y;have u:∀c∈eu E (gL (ρ x).cellsOf),Plain c:=by
     intro c hc;obtain⟨j,hj⟩:=List.mem_iff_getElem?.1 hc;have U:=(θ.1 hj).1;rw[tC,jH,C] at U;have a1:(fU (dM s (bj l i s.dflt)) b (eu E (gL (ρ x).cellsOf)))[b+j]?=some c:=by
      have a0:∀(r f:List AV) (b j:Nat) (c:AV),r[j]?=some c->b+r.length<=f.length->(fU f b r)[b+j]?=some c:=by
       intro r;induction r with
       |nil=>simp_all;|cons w r ih=>
        intro f b j c h M;simp only[γy] at M;simp only[fU];cases j with
        |zero=>
         simp only[List.getElem?_cons_zero,γ] at h;subst h;have F:∀(r f:List AV) (Z k:Nat),k<Z->(fU f Z r)[k]?=f[k]?:=by
          intro r;induction r<;>grind[fU]
         grind;|succ j=>
         have:=ih (f.set b w) (b+1) j c (by simpa using h) (by simp;omega);grind
      grind[tC,jH,lR]
     grind[zx]
    obtain⟨G,Q⟩:=G6 u;simp only[bJ,B,γH,fE z,bq.g,CP,fj,jH];rw[if_pos ⟨trivial,C,G,by omega,.inr Q⟩,qH,bq.g,Y5 N (by grind[tC,jH]) T]
   simp_all
  simp_all
 ·rename_i W d Y t L i B;split at h
  ·rename_i f e a3 E z;split at h
   ·rename_i v H;split at h
    ·rename_i l M;split at h
     ·rename_i D;obtain⟨V,C⟩:=D;rw[show tZ l i v 0=l.set i v from Pg (j:=0)] at h;obtain⟨N,hk⟩:=h;refine⟨.ud,_,?_,hk⟩;have S:(ρ x).cellsOf=[ρ x]:=by
       cases hr:ρ x<;>rw[hr] at H<;>simp[SV.int] at H<;>rfl
      have I:(ρ x).g= .sc (iv v):=gP H;have A:=CB M;have a2:l.length=t:=by
       have:=congrArg γn A;grind
      have J:gL f=gL (f.take d)++(l.map λn=>δh (iv n))++gL (f.drop (d+t)):=by
       rw[<-A,fY,fY,fY,<-γb,<-γb];congr 1;rw[<-γW,List.append_assoc,γc,γc]
      have a4:(gL (f.take d)).length=d:=by grind[jH]
      have hq:eu E [δh (iv v)]=[δh (iv v)]:=by unfold eu;split<;>rfl
      simp only[bJ,B,γH,fE z,bq.g,I,Zk,List.length_singleton,jH,hq];rw[if_pos ⟨V,trivial,by simp[eF,AV.one,iv,Value.oneCell'],by omega,.inr (by simp[dx,AV.pure])⟩,qH,bq.g,zI];congr 4;have e1:gL ((l.set i v).map (SV.si .i64))=(l.set i v).map λn=>δh (iv n):=by
       rw[fY,δx];rfl
      rw[e1,J];have hm:=G7 ((l.set i v).map λn=>δh (iv n)) (gL (f.take d)) (l.map λn=>δh (iv n)) (gL (f.drop (d+t))) 0 (by simp);grind[Zj,fU]
     simp_all
    simp_all
   simp_all
  simp_all
 simp_all
theorem Zm {ρ:Operand->SV} {e:TypeId} {sz b:Nat} {s x:Operand} {pu:Bool} (h:eJ p (.append e sz b s x pu) ρ o bB K):
  ∃(v:SV) (o':bX),bJ call (.append e sz b s x pu) (λx=>(ρ x).g) (gO o) bB=some (v.g,gO o')/\K v o':=by
 simp only[eJ] at h;split at h
 ·rename_i t tl U a;split at h
  ·rename_i S n G j m R k M;split at h
   ·rename_i O l Z I H;split at h
    ·rename_i F;obtain⟨rfl,q,rfl,rfl,rfl,rfl,i,w⟩:=F;obtain⟨rfl,C,y,B⟩:=h;rw[M] at a;unfold OM at a;split at a
     ·rename_i j' W Y;injection Y with e1 N e3;subst e1 N e3;split at a
      ·rename_i s2 N L D;split at a
       ·rename_i A;injection a with a;subst a;refine⟨_,_,?_,B⟩;have E:mZ (gO o) t.sz (.os j 0 1 (1*t.sz))=some (1,gL L):=by
         simp only[mZ,fE D,bq.g,cE,εZ,δg,jH];rw[if_pos ⟨by omega,A,by omega⟩,δN,γk (by grind[jH])]
        have J:eF (gL L)=true:=by grind[CQ]
        simp only[bJ,k,M,γH,qt];simp only[E,J,ζH,if_false,fE H,bq.g,fj,q];rw[if_pos ⟨trivial,trivial,trivial,trivial,C,y,.inl trivial⟩,qH,bq.g];grind
       ·cases a
      ·cases a
     ·cases a
    simp_all
   simp_all
  simp_all
 ·rename_i t U _;split at h
  ·rename_i z;subst z;obtain⟨f,V,d⟩:=Ze h;have r:eF (cE t f)=true:=CH _ _;have c:dx (cE t f)=true:=qG _ _;simp only[bJ,qt,V,r,ζH,if_false];split at d
   ·rename_i k;rw[k];simp only[γH];by_cases u:f.length=0;·exact⟨_,_,by simp only[u,if_true];rfl,d.1 u⟩
    ·obtain⟨q,i,w⟩:=d.2 u;obtain⟨o',P,Q⟩:=vB w;refine⟨_,o',?_,Q⟩;simp only[bq.g] at P;rw[if_neg u,if_pos ⟨q,i,.inr c⟩,P];rfl
   ·rename_i S n G k;split at d
    ·rename_i O l Z I H;split at d
     ·rename_i F;obtain⟨rfl,q,rfl⟩:=F;obtain⟨rfl,i,w,C⟩:=d;obtain⟨l',y,B⟩:=iY C;obtain⟨rfl,T,X⟩:=zM y;refine⟨_,_,?_,B⟩;rw[k];simp only[γH,fE H,bq.g,fj];rw[if_pos ⟨trivial,trivial,trivial,trivial,i,w,.inr c⟩,qH,bq.g,OI,T];grind
     simp_all
    simp_all
   ·rename_i O l k;obtain⟨q,i⟩:=d;refine⟨_,_,?_,i⟩;simp_all[γH]
   simp_all
  simp_all
 simp_all
theorem Ph {mx:Bool} {a b:Int}:(if mx then(if b>a then b else a) else(if b<a then b else a))=if mx then max a b else min a b:=by
 grind
theorem Zn (hC:pR call p.C) {op:cB} {ρ:Operand->SV} (h:eJ p op ρ o bB K):
  ∃(v:SV) (o':bX),bJ call op (λx=>(ρ x).g) (gO o) bB=some (v.g,gO o')/\K v o':=by
 cases op with
 |uQ x=>exact⟨_,_,rfl,h⟩;|pick c a b=>
  simp only[eJ] at h;split at h;·rename_i hc;exact⟨_,_,by simp only[bJ,hc,γH],h⟩
  ·rename_i hc;exact⟨_,_,by simp only[bJ,hc,γH],h⟩
  ·rename_i c hc;cases c with
   |true=>exact⟨_,_,by simp only[bJ,hc,γH],h.1 rfl⟩;|false=>exact⟨_,_,by simp only[bJ,hc,γH],h.2 rfl⟩
  ·exact h.elim;|alloc z e pu=>
  obtain⟨o',hm,hk⟩:=vB h;simp only[bq.g,Hn] at hm;exact⟨_,o',by simp only[bJ,hm,μ,γH],hk⟩;|box e x=>
  simp only[eJ] at h;split at h
  ·rename_i h1;obtain⟨o',hm,hk⟩:=vB h;simp only[bq.g] at hm;exact⟨_,o',by simp only[bJ,CP,CQ,h1,if_true,jH,hm,μ,γH],hk⟩
  ·exact h.elim;|build z parts=>
  simp only[eJ] at h;obtain⟨cs,h1,h2⟩:=iY h;have:=Zh h1;rw[Hn] at this;exact⟨_,_,by simp only[bJ,this,μ,γH],h2⟩;|pG z len parts e sz=>
  simp only[eJ] at h;split at h
  ·rename_i s cs hs hf;split at h
   ·rename_i hsz;split at h
    ·rename_i hany;split at h
     ·rename_i hlen;obtain⟨o',hm,hk⟩:=vB h;simp only[bq.g,cE,εZ,δg] at hm;have hfa:=Hm hf;rw[Ho] at hfa;refine⟨_,o',?_,hk⟩;subst hsz;have hp:dx (gL cs)=false:=by
       clear hf hfa hm hlen h;induction cs with
       |nil=>simp at hany;|cons c cs ih=>
        simp only[List.any_cons,δo] at hany;simp only[gL,dx];rcases hany with hc|hc
        ·have h9:c.g.pure=false:=by
          cases c with
          |ow a b d=>simp[γH,AV.pure];|_=>simp[SV.OO] at hc
         rw[h9,Bool.false_and]
        ·have ih2:=ih hc;rw[ih2,Bool.and_false]
      simp only[bJ,hfa,hp,eu,χ,if_false,hm,μ,γH]
     ·exact h.elim
    obtain⟨l,h1,h2⟩:=iY h;obtain⟨h3,h4⟩:=CW h1;obtain⟨o',hm,hk⟩:=vB h2;simp only[bq.g] at hm;have hfa:=Hm hf;rw[Ho] at hfa;refine⟨_,o',?_,hk⟩;subst hsz;rw[G4] at h3;have hp:dx (gL cs)=true:=(G6 (pu:=true) (cs:=gL cs) λc hc=>nk (s:=s) (l:=l) (by rw[<-h3];exact hc)).2;have hq:eu true (gL cs)=cE s l:=h3;simp only[bJ,hfa,hp,hq,hm,μ,γH]
   ·exact h.elim
  ·exact h.elim;|tg z len parts e sz=>
  simp only[eJ] at h;split at h
  ·rename_i s cs hs hf;split at h
   ·rename_i hsz;obtain⟨l,h1,h2⟩:=iY h;obtain⟨h3,h4⟩:=CW h1;have hfa:=Hm hf;rw[Ho] at hfa;rw[G4] at h3;have hp:dx (gL cs)=true:=(G6 (pu:=true) (cs:=gL cs) λc hc=>nk (s:=s) (l:=l) (by rw[<-h3];exact hc)).2;have hq:eu true (gL cs)=cE s l:=h3;exact⟨_,_,by simp only[bJ,hfa,hp,hq,if_true,γH,h4],h2⟩
   ·exact h.elim
  ·exact h.elim;|load n a=>
  simp only[eJ] at h;obtain⟨cs,off,v,h1,h2,h3⟩:=O1 h;exact⟨v,o,by simp only[bJ,h1,h2,μ],h3⟩;|store n a x=>exact Zl h;|uR x=>
  simp only[eJ] at h;split at h;·rename_i hx;exact⟨_,_,by simp only[bJ,hx,γH],h⟩
  ·rename_i hx;exact⟨_,_,by simp only[bJ,hx,γH],h⟩
  ·rename_i hx;exact⟨_,_,by simp only[bJ,hx,γH],h⟩
  ·exact h.elim;|bin op x y=>
  simp only[eJ] at h;obtain⟨a,b,v,v',h1,h2,h3,h4,h5⟩:=Za h;exact⟨v',o,by simp only[bJ,h1,h2,h3,μ,h4],h5⟩;|beq neg x y=>
  simp only[eJ] at h;split at h
  ·rename_i a b h1 h2;exact⟨_,_,by simp only[bJ,vo h1,vo h2,γH],h⟩
  ·exact h.elim;|sj neg ks x y=>
  simp only[eJ] at h;split at h
  ·rename_i a b h1 h2;split at h
   ·rename_i hk;obtain⟨r,hr,h3⟩:=iY h;exact⟨_,_,by simp only[bJ,h1,h2,γH,Zc hk hr,μ],h3⟩
   ·exact h.elim
  ·exact h.elim;|un op x=>
  simp only[eJ] at h;split at h;·rename_i hx;exact⟨_,_,by simp only[bJ,hx,γH,tq,μ],h⟩
  ·rename_i hx;exact⟨_,_,by simp only[bJ,hx,γH,tq,μ],h⟩
  ·rename_i k n hx;refine⟨_,_,?_,h.2⟩;have:(0:Int) - n= -n:=by omega
   simp only[bJ,hx,γH,tq,μ,this,CV h.1]
  ·rename_i hx;exact⟨_,_,by simp only[bJ,hx,γH,tq,μ],h⟩
  ·exact h.elim;|conv k x=>
  simp only[eJ] at h;split at h;·rename_i hx;exact⟨_,_,by simp only[bJ,hx,γH],h⟩
  ·rename_i hx;exact⟨_,_,by simp only[bJ,hx,γH,CV h.1],h.2⟩
  ·rename_i kk n _ hx;exact⟨.si k (eQ k n),_,by simp only[bJ,hx,γH],zK h⟩
  ·exact h.elim;|uS off x=>
  simp only[eJ] at h;split at h;·rename_i hx;exact⟨_,_,by simp only[bJ,hx,γH,mY,μ],h⟩
  ·rename_i hx;exact⟨_,_,by simp only[bJ,hx,γH,mY,μ,ε0],h⟩
  ·rename_i hx;exact⟨_,_,by simp only[bJ,hx,γH,mY,μ,ε0],h⟩
  ·exact h.elim;|field off n x=>
  simp only[eJ] at h;split at h
  ·rename_i cs hx;obtain⟨v,h1,h2⟩:=iY h;exact⟨_,_,by simp only[bJ,hx,γH,CU h1,μ],h2⟩
  ·exact h.elim;|uT len sz x i=>
  simp only[eJ] at h;split at h
  ·rename_i k n hi;split at h
   ·rename_i hn;split at h;·rename_i hx;exact⟨_,_,by simp only[bJ,hi,hx,γH,gW,if_pos hn,mY,μ],h⟩
    ·rename_i hx;exact⟨_,_,by simp only[bJ,hi,hx,γH,gW,if_pos hn,mY,μ,ε0],h⟩
    ·rename_i hx;exact⟨_,_,by simp only[bJ,hi,hx,γH,gW,if_pos hn,mY,μ,ε0],h⟩
    ·exact h.elim
   ·exact h.elim
  ·rename_i k n hi;split at h;·rename_i hx;exact⟨_,_,by simp only[bJ,hi,hx,γH,gW,if_pos (γi h.1 h.2.1),mY,μ],h.2.2⟩
   ·exact h.elim
  ·exact h.elim;|sr sz x i=>
  simp only[eJ] at h;split at h
  ·rename_i n hi;have hi:=Hh hi;split at h
   ·rename_i s l hx;split at h
    ·rename_i hsz;subst hsz;obtain⟨h1,h2,h3⟩:=h;refine⟨_,_,?_,h3⟩;simp only[bJ,hi,hx,γH,qs,fj];rw[if_pos ⟨h1,h2,trivial⟩];simp
    ·exact h.elim
   ·rename_i id m sz' hx;split at h
    ·rename_i s l e pu ho;split at h
     ·rename_i hsz;obtain⟨rfl,rfl⟩:=hsz;obtain⟨rfl,h1,h2,h3⟩:=h;refine⟨_,_,?_,h3⟩;simp only[bJ,hi,hx,γH,qs,fE ho,bq.g,fj];rw[pL (Nat.zero_le _),if_pos ⟨trivial,trivial,h1,h2,by omega⟩];simp
     ·exact h.elim
    ·exact h.elim
   ·rename_i id off len m sz' hx;split at h
    ·rename_i s l e pu ho;split at h
     ·rename_i hsz;obtain⟨rfl,rfl⟩:=hsz;obtain⟨rfl,h1,h2,h4,h3⟩:=h;refine⟨_,_,?_,h3⟩;have hm:(off+len)*s.sz<=l.length*s.sz:=γN _ h4;rw[δZ] at hm;simp only[bJ,hi,hx,γH,qs,fE ho,bq.g,fj];rw[pL (by omega),if_pos ⟨trivial,trivial,h1,h2,hm⟩];simp[δZ]
     ·exact h.elim
    ·exact h.elim
   ·rename_i id off len m sz' hx;split at h
    ·rename_i s l e pu ho;split at h
     ·rename_i hsz;obtain⟨rfl,rfl⟩:=hsz;obtain⟨rfl,h1,h2,h4,h3⟩:=h;refine⟨_,_,?_,h3⟩;have hm:(off+len)*s.sz<=l.length*s.sz:=γN _ h4;have hp:=GH s;rw[δZ] at hm;simp only[bJ,hi,hx,γH,qs,fE ho,bq.g,fj];rw[BQ (by omega),show off*s.sz+(l.length*s.sz+s.sz) - l.length*s.sz - s.sz=off*s.sz by omega,if_pos ⟨trivial,trivial,h1,h2,hm⟩];simp[δZ]
     ·exact h.elim
    ·exact h.elim
   ·exact h.elim
  ·exact h.elim;|idx len sz n x i=>
  simp only[eJ] at h;split at h
  ·rename_i k' k cs hi hx;split at h
   ·rename_i hk;obtain⟨v,h1,h2⟩:=iY h;exact⟨_,_,by simp only[bJ,hi,hx,γH,gW,if_pos hk,CU h1,μ],h2⟩
   ·exact h.elim
  ·rename_i k' k cs hi hx;split at h
   ·rename_i l _ _ hl;split at h
    ·rename_i hll;obtain⟨h1,h2,h3⟩:=h;refine⟨_,_,?_,h3⟩;obtain⟨h4,h5⟩:=OZ hl;have h6:=h5 k.toNat (by omega);simp only[bJ,hi,hx,γH,gW,if_pos (γi h1 h2),Nat.mul_one,gm,t7,h6,μ]
    ·exact h.elim
   ·exact h.elim
  ·exact h.elim;|wI x i=>simp only[eJ] at h;|qp z e sz bytes l c pu=>
  simp only[eJ] at h;split at h
  ·rename_i n m s hn hm hs;have hn:=Hh hn;have hm:=Hh hm;split at h
   ·rename_i hsz;subst hsz;obtain⟨x,hx,h1,h2,h3,h4,h5⟩:=iY h;obtain⟨o',hmk,hk⟩:=vB h5;refine⟨_,o',?_,hk⟩;have hd:=nV hx;rw[<-fY,G5,Hn] at hd;simp only[bq.g] at hmk;simp only[bJ,hn,hm];rw[if_pos ⟨h1,h2,h3,h4⟩,hd,Zi,hmk];simp[γH]
   ·exact h.elim
  ·exact h.elim;|slice sz x lo hi=>
  simp only[eJ] at h;split at h
  ·rename_i s l hx;split at h
   ·rename_i hsz;subst hsz;obtain⟨a,ha,h1⟩:=pQ h;obtain⟨b,hb,h2,h3,h4⟩:=pQ h1;refine⟨_,_,?_,h4⟩;rw[zO] at ha hb;have hlen:((l.drop a).take (b - a)).length=b - a:=by simp;omega
    simp only[bJ,hx,γH,qu,ha,hb,fj,and_true,if_pos (γi h2 h3),μ,zJ,hlen]
   ·exact h.elim
  ·rename_i id m sz' hx;split at h
   ·rename_i s l e pu ho;split at h
    ·rename_i hsz;obtain⟨rfl,rfl⟩:=hsz;obtain⟨rfl,h⟩:=h;obtain⟨a,ha,h1⟩:=pQ h;obtain⟨b,hb,h2,h3,h4⟩:=pQ h1;refine⟨_,_,?_,h4⟩;rw[zO] at ha hb;simp only[bJ,hx,γH,qu,ha,hb,fE ho,bq.g,fj];rw[if_pos ⟨h2,h3,trivial,trivial⟩];simp
    ·exact h.elim
   ·exact h.elim
  ·rename_i id off len m sz' hx;split at h
   ·rename_i s l e pu ho;split at h
    ·rename_i hsz;obtain⟨rfl,rfl⟩:=hsz;obtain⟨rfl,h⟩:=h;obtain⟨a,ha,h1⟩:=pQ h;obtain⟨b,hb,h2,h3,h4⟩:=pQ h1;refine⟨_,_,?_,h4⟩;rw[zO] at ha hb;simp only[bJ,hx,γH,qu,ha,hb,fE ho,bq.g,fj];rw[if_pos ⟨h2,h3,trivial,trivial⟩];simp[δZ]
    ·exact h.elim
   ·exact h.elim
  ·exact h.elim;|slice3 sz x lo hi mx=>
  simp only[eJ] at h;split at h
  ·rename_i s l hx;split at h
   ·rename_i hsz;subst hsz;obtain⟨a,ha,h1⟩:=pQ h;obtain⟨b,hb,h2⟩:=pQ h1;obtain⟨m,hm,h3,h4,h5,h6⟩:=pQ h2;refine⟨_,_,?_,h6⟩;rw[zO] at ha;simp only[μ] at hb hm;have hlen:((l.drop a).take (b - a)).length=b - a:=by simp;omega
    simp only[bJ,hx,γH,sx,ha,hb,hm,fj,and_true,if_pos (γi h3 (γi h4 h5)),μ,zJ,hlen]
   ·exact h.elim
  ·rename_i id n sz' hx;split at h
   ·rename_i s l e pu ho;split at h
    ·rename_i hsz;obtain⟨rfl,rfl⟩:=hsz;obtain⟨rfl,h⟩:=h;obtain⟨a,ha,h1⟩:=pQ h;obtain⟨b,hb,h2⟩:=pQ h1;obtain⟨m,hm,h3,h4,h5,h6⟩:=pQ h2;refine⟨_,_,?_,h6⟩;rw[zO] at ha;simp only[μ] at hb hm;simp only[bJ,hx,γH,sx,ha,hb,hm,fE ho,bq.g,fj];rw[if_pos ⟨h3,h4,h5,trivial,trivial,by omega,GH _⟩];simp
    ·exact h.elim
   ·exact h.elim
  ·exact h.elim;|uU x lo hi=>simp only[eJ] at h;|append e sz bytes s x pu=>exact Zm h;|len k x=>
  simp only[eJ] at h;split at h;·rename_i hx;exact⟨_,_,by simp only[bJ,hx,γH,lq,μ],h⟩
  ·rename_i hx;exact⟨_,_,by simp only[bJ,hx,γH,lq,μ],h⟩
  ·rename_i hx;exact⟨_,_,by simp only[bJ,hx,γH,lq,μ],h⟩
  ·rename_i hx;exact⟨_,_,by simp only[bJ,hx,γH,lq,μ],h⟩
  ·rename_i hx;exact⟨_,_,by simp only[bJ,hx,γH,lq,μ];rfl,h⟩
  ·rename_i hx;exact⟨_,_,by simp only[bJ,hx,γH,lq,μ],h⟩
  ·rename_i id hx;split at h
   ·rename_i sk sv ka es kt pu ho;exact⟨_,_,by simp only[bJ,hx,γH,lq,fE ho,bq.g,List.length_map,μ],h⟩
   ·exact h.elim
  ·exact h.elim;|uV n=>exact⟨_,_,rfl,h⟩;|mm mx x y=>
  simp only[eJ] at h;split at h
  ·rename_i hx hy;split at h
   ·rename_i hk;exact⟨_,_,by simp only[bJ,hx,hy,γH,if_pos hk],h⟩
   ·exact h.elim
  ·rename_i k a hx;obtain⟨b,hb,h2⟩:=iY h;exact⟨_,_,by simp only[bJ,hx,gP hb,γH,if_true,Ph],h2⟩
  ·rename_i k a hx _;obtain⟨b,hb,h2⟩:=iY h;exact⟨_,_,by simp only[bJ,hx,gP hb,γH,if_true,Ph],h2⟩
  ·exact h.elim;|call f args own=>
  simp only[eJ] at h;obtain⟨v,o',h1,h2⟩:=Hl hC h;rw[CX] at h1;exact⟨v,o',by simp only[bJ,h1],h2⟩;|jE f args own=>
  simp only[eJ] at h;split at h
  ·rename_i g first captured hf;obtain⟨v,o',h1,h2⟩:=Hl hC h;rw[t8,t8,CX] at h1;exact⟨v,o',by simp only[bJ,hf,γH,h1],h2⟩
  ·exact h.elim;|extract x i=>
  simp only[eJ] at h;split at h
  ·rename_i vs hx;obtain⟨v,h1,h2⟩:=iY h;exact⟨_,_,by simp only[bJ,hx,γH,t7,h1,μ],h2⟩
  ·exact h.elim;|tj f first captured=>exact⟨_,_,by simp only[bJ,γH,CX],h⟩;|uW t x=>
  simp only[eJ] at h;split at h
  ·rename_i cs hx;split at h
   ·rename_i hp;exact⟨_,_,by simp only[bJ,hx,γH,if_pos (G2 cs hp)],h⟩
   ·exact h.elim
  ·exact h.elim;|oH tab x args=>
  simp only[eJ] at h;split at h
  ·rename_i t cs hx;split at h
   ·rename_i f hf;obtain⟨v,o',h1,h2⟩:=Hl hC h;simp only[gL,γH,CX] at h1;exact⟨v,o',by simp only[bJ,hx,γH,hf,h1],h2⟩
   ·exact h.elim
  ·exact h.elim;|qq kt pu=>
  simp only[eJ] at h;split at h
  ·rename_i sk sv hs;obtain⟨o',hm,hk⟩:=vB h;simp only[bq.g,γp] at hm;exact⟨_,o',by simp only[bJ,hm,μ,γH],hk⟩
  ·exact h.elim;|lookup z agg ks ka x k ok=>
  simp only[eJ] at h;split at h
  ·rename_i id hx;split at h
   ·rename_i sk sv xo es kt pu ho;split at h
    ·rename_i hh;obtain⟨rfl,rfl,h1,h2,rfl,h4,h5,h6⟩:=hh;obtain⟨kv,hkv,h7⟩:=iY h;obtain⟨zv,hzv,h8⟩:=iY h7;have hkey:=O6 h5 h6 (O9 h1) hkv;have hz:rf z false=some (mJ sv zv):=by
      have hd:=nV hzv;rw[G0,O8 h2] at hd;cases z with
      |nil=>simp at hd;|cons a r=>
       cases r with
       |nil=>simp only[ι,γp,π,and_true] at hd;simp[rf,hd];|cons=>simp at hd
     obtain⟨r,hr,hm⟩:=Hj (sv:=sv) h1 h4 kv es 0;refine⟨_,_,?_,h8⟩;simp only[bJ,hx,γH,hkey,fE ho,bq.g,if_true,hr,hz];cases hf:jZ sk sv kv es with
     |some v=>
      rw[hf] at hm;obtain⟨j,rfl,_⟩:=hm;simp only[Option.getD_some];cases ok<;>simp only[χ,if_false,if_true,γH,gL,O7 h2,ζI,ζa];|none=>
      rw[hf] at hm;obtain⟨rfl,_⟩:=hm;simp only[Option.getD_none];cases ok<;>simp only[χ,if_false,if_true,γH,gL,O7 h2,ζI,ζa]
    ·exact h.elim
   ·exact h.elim
  ·exact h.elim;|rc ks ka x k v=>
  simp only[eJ] at h;split at h
  ·rename_i id hx;split at h
   ·rename_i sk sv xo es kt pu ho;split at h
    ·rename_i hh;obtain⟨rfl,rfl,h1,h2,h4,h5,h6,h9⟩:=hh;obtain⟨kv,hkv,h7⟩:=iY h;obtain⟨vv,hvv,h8⟩:=iY h7;have hkey:=O6 h5 h6 (O9 h1) hkv;have hv:(ρ v).g=mJ sv vv:=by
      have hd:=nV hvv;rw[O8 h2] at hd;have hc:(ρ v).cellsOf=[ρ v]:=by
       revert h9;cases ρ v<;>simp[SV.cellsOf,vu]
      rw[hc] at hd;simpa using hd
     obtain⟨r,hr,hm⟩:=Hj (sv:=sv) h1 h4 kv es 0;refine⟨_,_,?_,h8⟩;have hpure:(mJ sv vv).pure=true:=by simp[mJ,AV.pure]
     simp only[bJ,hx,γH,hkey,fE ho,bq.g,hv,hpure,hr,qH];rw[if_neg (by simp)];cases hf:jZ sk sv kv es with
     |some w=>
      rw[hf] at hm;obtain⟨j,rfl,h10,h11⟩:=hm;rw[O5 h10 h11];simp only[Nat.zero_add];rw[Pe];|none=>
      rw[hf] at hm;obtain⟨rfl,h10⟩:=hm;rw[Hk h10];simp
    ·exact h.elim
   ·exact h.elim
  ·exact h.elim
end
mutual
theorem Hq {o:Store} {k:Nat}:∀{v:AV},v.bZ k=true->v.bT o (λi=>decide (k<=i))=some v
 | .os id off len tot,h=>by
  simp only[AV.bZ,decide_eq_true_eq] at h;simp only[AV.bT,decide_eq_true_eq,if_neg (Nat.not_le.2 h)];| .ptr id off tot,h=>by
  simp only[AV.bZ,decide_eq_true_eq] at h;simp only[AV.bT,decide_eq_true_eq,if_neg (Nat.not_le.2 h)];| .agg cs,h=>by simp only[AV.bZ] at h;simp only[AV.bT,xx h,μ];| .bH cs,h=>by simp only[AV.bZ] at h;simp only[AV.bT,xx h,μ];| .fn f a b,h=>by
  simp only[AV.bZ,ζ] at h;simp only[AV.bT,xx h.1,xx h.2];| .ud,_| .sc _,_| .sl _ _,_| .ep _ _,_| .mp _,_| .iV _ _,_=>by simp only[AV.bT]
theorem xx {o:Store} {k:Nat}:∀{l:List AV},dZ k l=true->gI o (λi=>decide (k<=i)) l=some l
 |[],_=>by simp[gI];|c::cs,h=>by
  simp only[dZ,ζ] at h;simp only[gI,Hq h.1,xx h.2]
end
theorem Pj {o:Store} {k:Nat}:∀{l:List (Value×AV)},dZ k (l.map (·.2))=true->qy o (λi=>decide (k<=i)) l=some l
 |[],_=>by simp[qy];|(q,c)::a,h=>by
  simp only[ι,dZ,ζ] at h;simp only[qy,Hq h.1,Pj h.2]
theorem Zo {o:Store} {k:Nat} {x:bQ} (h:x.bZ k=true):x.bT o (λi=>decide (k<=i))=some x:=by
 cases x with
 |dead=>rfl;|cells b e f a=>
  cases a with
  |true=>simp only[bQ.bT,if_true];|false=>simp_all[bQ.bZ,bQ.bT,xx]
 |map d c a=>
  cases a with
  |true=>simp only[bQ.bT,if_true];|false=>simp_all[bQ.bZ,bQ.bT,Pj]
theorem Pm {o:Store} {k:Nat}:∀{r:Store},(∀x∈r,x.bZ k=true)->jh o (λi=>decide (k<=i)) r=some r
 |[],_=>rfl
 |x::r,h=>by
  simp only[jh,Zo (h x (by simp)),Pm (r:=r) λy a=>h y (by simp[a])]
theorem Pn {k:Nat}:∀{o:Store} {i:Nat},(fD (λj=>decide (k<=j)) i o).take (k - i)=o.take (k - i)
 |[],i=>by simp[fD];|x::r,i=>by
  simp only[fD];by_cases a:i<k
  ·rw[show k - i=(k - (i+1))+1 from by omega,εa,εa,Pn];grind
  simp_all
theorem agM {k i:Nat} (h:i<k):(τ k).contains i=true:=by simp[h]
theorem Po {o:Store} {k:Nat}:∀{d:Nat} {vs:List AV},dZ k vs=true->cJ o d vs (τ k)=τ k:=by
 intro d;induction d with
 |zero=>grind[cJ];|succ d e=>
  intro vs h;cases vs with
  |nil=>simp[cJ];|cons v vs=>
   simp only[dZ,ζ] at h;have i:=h.1;simp only[cJ];cases v with
   |agg g=>grind[AV.bZ];|bH g=>grind[AV.bZ];|fn f a b=>grind[AV.bZ];|ptr c _ _=>simp_all[AV.bZ];|os c _ _ _=>simp_all[AV.bZ];|mp c=>simp_all[AV.bZ];|_=>simp only[e h.2]
theorem Pq:∀{n s i p:Nat},s<=i->i<s+n->idxOf (ζq s n) i p=some (p+(i - s))
 |0,s,i,p,a,b=>by omega;|n+1,s,i,p,a,b=>by
  simp only[εx,idxOf];by_cases h:s=i;·subst h;simp
  ·have:(s==i)=false:=by simpa using h
   rw[this];simp only[χ,if_false];rw[Pq (by omega) (by omega)];grind
theorem Hr {k i:Nat} (h:i<k):idxOf (τ k) i=some i:=by
 rw[δK,Pq (by omega) (by omega)];simp
mutual
theorem CY {k:Nat}:∀{v:AV},v.bZ k=true->v.ren (λj=>idxOf (τ k) j)=some v
 | .os id off len tot,h=>by simp only[AV.bZ,decide_eq_true_eq] at h;simp only[δE,Hr h,μ];| .ptr id off tot,h=>by simp only[AV.bZ,decide_eq_true_eq] at h;simp only[δE,Hr h,μ];| .mp id,h=>by simp only[AV.bZ,decide_eq_true_eq] at h;simp only[δE,Hr h,μ];| .agg cs,h=>by simp only[AV.bZ] at h;simp only[δE,xy h,μ];| .bH cs,h=>by simp only[AV.bZ] at h;simp only[δE,xy h,μ];| .fn f a b,h=>by
  simp only[AV.bZ,ζ] at h;simp only[δE,xy h.1,xy h.2];| .ud,_| .sc _,_| .sl _ _,_| .ep _ _,_| .iV _ _,_=>by simp only[δE]
theorem xy {k:Nat}:∀{l:List AV},dZ k l=true->iG (λj=>idxOf (τ k) j) l=some l
 |[],_=>by simp[iG];|c::cs,h=>by
  simp only[dZ,ζ] at h;simp only[iG,CY h.1,xy h.2]
end
theorem Pv {k:Nat}:∀{l:List (Value×AV)},dZ k (l.map (·.2))=true->oK (λj=>idxOf (τ k) j) l=some l
 |[],_=>by simp[oK];|(q,c)::a,h=>by
  simp only[ι,dZ,ζ] at h;simp only[oK,CY h.1,Pv h.2]
theorem Zp {k:Nat} {x:bQ} (h:x.bZ k=true):x.ren (λj=>idxOf (τ k) j)=some x:=by
 cases x with
 |dead=>rfl;|cells b e f a=>
  cases a with
  |true=>simp only[bQ.ren,if_true];|false=>simp_all[bQ.bZ,bQ.ren,xy]
 |map d c a=>
  cases a with
  |true=>simp only[bQ.ren,if_true];|false=>simp_all[bQ.bZ,bQ.ren,Pv]
theorem Ht {k:Nat} {o:Store} (a:∀x∈o.take k,x.bZ k=true) (c:k<=o.length):∀{n s:Nat},s+n=k->kV o (τ k) (ζq s n)=some ((o.take k).drop s)
 |0,s,h=>by
  grind[kV];|n+1,s,h=>by
  simp only[εx,kV];have d:s<o.length:=by omega
  have e:o[s]?=some o[s]:=ξ d;rw[e,Ht a c (by omega)];have f:o[s]∈o.take k:=by
   rw[List.mem_take_iff_getElem];grind
  simp only[Zp (a _ f),μ];congr 1;have b:s<(o.take k).length:=by simp;omega
  rw[List.drop_eq_getElem_cons b];simp
theorem nodup_range':∀{n s:Nat},iH.pH (ζq s n)=true
 |0,_=>by simp[iH.pH];|n+1,s=>by
  simp only[εx,iH.pH,nodup_range',δW,Bool.not_eq_true'];grind
theorem Px {k:Nat}:∀{a b:List AV},dZ k a=true->dZ k b=true->dZ k (a++b)=true
 |[],b,_,h=>h
 |x::a,b,h,c=>by
  simp only[dZ,ζ] at h;simp only[γE,dZ,h.1,Px h.2 c,Bool.and_self]
theorem Hu {k:Nat}:∀{o:Store},(∀x∈o,x.bZ k=true)->dZ k (o.flatMap lJ.bQ.zc)=true
 |[],_=>by simp[dZ];|x::o,h=>by
  simp only[δ4];refine Px ?_ (Hu λy a=>h y (by simp[a]));have b:=h x (by simp);cases x<;>grind[lJ.bQ.zc,dZ,bQ.bZ]
theorem Py {k:Nat} {r:AV} {o:Store} (e:r.bZ k=true) (b:∀x∈o,x.bZ k=true) (j:k<=o.length):lJ k r o=some (r,o.take k):=by
 unfold lJ;rw[Hq e,Pm b];simp only;have a:(fD (λi=>decide (k<=i)) 0 o).take k=o.take k:=by simpa using Pn (k:=k) (o:=o) (i:=0)
 have d:∀{o:Store} {i:Nat},(fD (λi=>decide (k<=i)) i o).length=o.length:=by
  intro o;induction o with
  |nil=>intro i;rfl;|cons x o l=>simp_all[fD]
 have h:∀x∈o.take k,x.bZ k=true:=λx g=>b x (List.mem_of_mem_take g);rw[a,Po (by grind[dZ,Hu])];have f:iH.pH (τ k)=true:=by rw[δK];exact nodup_range'
 rw[if_pos f,CY e];have c:=Ht (k:=k) (o:=fD (λi=>decide (k<=i)) 0 o) (by simp_all) (by simp_all) (n:=k) (s:=0) (by omega);rw[<-δK,a,δN] at c;rw[c]
theorem Hv:∀{env:fp} {s:Nat} {v:SV},(jG env s).g=v.g->gE (xp env s v)=gE env
 |[],_,_,_=>rfl
 |p::r,s,v,h=>by
  simp only[xp,jG] at h ⊢;cases a:δA p.1 s with
  |true=>
   simp_all[gE];|false=>
   rw[a] at h;simp only[cond_false] at h ⊢;have:=Hv h;grind[gE]
theorem Zq {env:fp} {g:Option (Option Nat×Bool)} {K:fp->Bool->Prop} (h:GR env g K):∃a w,gE a=gE env/\mE (gE env) g=some w/\K a w:=by
 unfold GR at h;split at h;·exact⟨_,_,rfl,rfl,h⟩
 ·exact h.elim
 ·rename_i s b;split at h;·grind[mE,oa,γH]
  ·rename_i c d;cases c<;>grind[Hv,mE,oa,γH]
  all_goals grind[mE,oa,γH,gL]
section
variable {call:cV} {p:iN}
theorem Pz:∀{a b:bX},jk a b->gO a=gO b
 |[],[],_=>rfl
 |x::a,y::b,h=>by
  obtain⟨c,d⟩:=h;have e:x.g=y.g:=c;simp only[gO,ι,e];congr 1;exact Pz d
def vC:Trace->Trace->Prop
 |[],[]=>True
 |x::a,y::b=>(x.1=y.1/\x.2.1=y.2.1/\∀j∈x.2.2,j∈y.2.2)/\vC a b
 |_,_=>False
theorem vC.look:∀{a b:Trace} {i:Nat},vC a b->(qx a i).1=(qx b i).1/\∀j∈(qx a i).2,j∈(qx b i).2
 |[],[],_,_=>⟨rfl,λj h=>h⟩
 |(k,x)::a,(g,y)::b,i,h=>by
  obtain⟨⟨c,e,d⟩,f⟩:=h;simp only at c e d;subst c;simp only[qx];split;·exact⟨e,d⟩
  ·exact vC.look f
theorem Zr {a b d c:List Nat} (f:∀j∈a,j∈d) (e:∀j∈b,j∈c) (h:wK d c=true):wK a b=true:=by
 grind[wK]
theorem Zs {n:Nat} {a b:Trace} {c:List (Nat×Nat)} (h:vC a b) (d:tt n b c=true):tt n a c=true:=by
 unfold tt at d ⊢;rw[List.all_eq_true] at d ⊢;intro p e;have l:=d p e;obtain⟨g,k⟩:=h.look (i:=p.1);obtain⟨f,j⟩:=h.look (i:=p.2);grind[Zr]
theorem Hw (u:pR call p.C) {base:Nat}:∀{d:List dq} {st:cq} {l:Trace} {K:cq->Trace->Prop},xq p base d st l K->
  ∃st' T,fV call base d st.g=some st'.g/\vC (mG call base d st.g) T/\K st' (T.reverse++l)
 |[],st,l,K,h=>⟨st,[],rfl,trivial,h⟩
 |i::r,st,l,K,h=>by
  simp only[xq] at h;obtain⟨a,w,B,s,q⟩:=Zq h;have A:st.g=⟨gE a,gO st.o⟩:=by grind[cq.g]
  rw[<-B] at s;cases w with
  |true=>
   simp only[if_true] at q;obtain⟨v,y,E,c⟩:=Zn u q;have b:gY call base i st.g=some (cq.g ⟨vp a i.dst v,y⟩):=by
    grind[gY,OV,za,cq.g,OT]
   have k:∀W:List Nat,(∀j∈ec call i.op (λx=>(jj a x).g) (gO st.o) (base+i.bB),j∈W)->
     xq p base r ⟨vp a i.dst v,y⟩ ((i.idx,dN i.op (λx=>(jj a x).g) (st.o.map bq.g) (base+i.bB),W)::l) K->
     ∃st' T,fV call base (i::r) st.g=some st'.g/\vC (mG call base (i::r) st.g) T/\K st' (T.reverse++l):=λW G c=>by
    obtain⟨st',T,D,z,F⟩:=Hw u c;refine⟨st',(i.idx,dN i.op (λx=>(jj a x).g) (st.o.map bq.g) (base+i.bB),W)::T,by grind[fV],?_,?_⟩
    ·simp only[mG,b];rw[A];simp only[s,OV];exact⟨⟨rfl,rfl,G⟩,z⟩
    simp_all
   unfold OP at c;split at c
   ·rename_i f n t;split at c
    ·obtain⟨H,c⟩:=c;refine k [] (λj m=>?_) c;rw[t] at E m;have e:iH call f (n.map λx=>(jj a x).g) (gO st.o)=some (v.g,gO y):=by simp_all[bJ,gx]
     simp only[ec,e,List.mem_filter,decide_eq_true_eq] at m;grind[Pz]
    ·exact k _ (λj m=>Gu m) c
   ·exact k _ (λj m=>Gu m) c;|false=>
   simp only[χ,if_false] at q;obtain⟨st',T,D,z,F⟩:=Hw u q;have b:gY call base i st.g=some (cq.g ⟨vp a i.dst (.bH []),st.o⟩):=by
    grind[gY,cq.g,OT,γH,gL]
   refine⟨st',(i.idx,[],[])::T,by grind[fV],?_,?_⟩
   ·simp only[mG,b];rw[A];simp only[s];exact⟨⟨rfl,rfl,λj h=>h⟩,z⟩
   simp_all
theorem Zt (k:Nat):gO (ε k .dead)=fW k:=by simp[gO,fW,bq.g]
theorem PD (a b:bX):gO (a++b)=gO a++gO b:=by simp[gO]
theorem Zu (x:bq):x.g.mX=x.mX:=by cases x<;>rfl
theorem Zv (base:Nat) (o:bX):gO (GU base o)=rh base (gO o):=by
 unfold GU rh;have:((gO o).drop base).all (·.mX)=(o.drop base).all (·.mX):=by
  simp only[gO,<-List.map_drop,ζO];grind[Zu]
 rw[this];cases(o.drop base).all (·.mX);·rfl
 ·simp[gO]
theorem Zw (i:pR call p.C) {k:Nat} {b:List dq} {a:List (Nat×Nat)} {st:cq} {K:cq->Prop} (h:GV p k b a st K):∃st',pI call k b a st.g=some st'.g/\K st':=by
 unfold GV at h;obtain⟨st',T,f,j,d⟩:=Hw i h;rw[List.append_nil,List.reverse_reverse] at d;have e:(cq.mk st.env (st.o++ε k .dead)).g=⟨st.g.env,st.g.o++fW k⟩:=by simp[cq.g,PD,Zt]
 rw[e] at f j;have c:st.g.o.length=st.o.length:=by simp[cq.g,ob]
 split at d
 ·rename_i l;refine⟨_,?_,d⟩;simp only[pI,c];rw[f];simp only;rw[if_pos (by
   grind[fW,Zs])];grind[cq.g,Zv]
 simp_all
end
theorem CZ {v:SV}:isNil v=true↔v.g= .sc (.slice none 0 0):=by
 constructor
 ·intro h;unfold isNil at h;split at h;·rfl
  ·cases h
 ·intro h;cases v<;>simp only[γH,reduceCtorEq,γX] at h;subst h;rfl
section
variable {o:bX} {id:Nat} {s:bn} {l:List s.T} {e:TypeId}
def pid (id:Nat):Nat->Bool:=λi=>i==id
mutual
theorem PE (ho:o[id]?=some (.row s l e true)):∀{v:SV} {K:SV->Prop},jl id s l v K->∃v':SV,v.g.bT (gO o) (pid id)=some v'.g/\K v'
 | .ow j n sz,K,h=>by
  simp only[jl] at h;split at h
  ·rename_i hj;subst hj;split at h
   ·rename_i hsz;subst hsz;obtain⟨rfl,hk⟩:=h;refine⟨_,?_,hk⟩;have htk:γd (l.length*s.sz) (cE s l)=cE s l:=γk (by rw[fj];omega);simp only[γH,AV.bT,pid,BEq.rfl,if_true,fE ho,bq.g,fj,Nat.zero_add,φ,and_self,δN,htk]
   ·exact h.elim
  ·rename_i hj;refine⟨_,?_,h⟩;simp only[γH,AV.bT,pid,beq_iff_eq,if_neg hj];| .os j off len n sz,K,h=>by
  simp only[jl] at h;split at h
  ·rename_i hj;subst hj;split at h
   ·rename_i hsz;subst hsz;obtain⟨rfl,hle,hk⟩:=h;refine⟨_,?_,hk⟩;have hm:(off+len)*s.sz<=l.length*s.sz:=γN _ hle;rw[δZ] at hm;have hll:((l.drop off).take len).length=len:=by simp;omega
    simp only[γH,AV.bT,pid,BEq.rfl,if_true,fE ho,bq.g,fj,hm,and_self,zJ,hll]
   ·exact h.elim
  ·rename_i hj;refine⟨_,?_,h⟩;simp only[γH,AV.bT,pid,beq_iff_eq,if_neg hj];| .oc j off len n sz,K,h=>by
  simp only[jl] at h;split at h;·exact h.elim
  ·rename_i hj;exact⟨_,by simp only[γH,AV.bT,pid,beq_iff_eq,if_neg hj],h⟩;| .rp j i f n sz,K,h=>by
  simp only[jl] at h;split at h;·exact h.elim
  ·rename_i hj;exact⟨_,by simp only[γH,AV.bT,pid,beq_iff_eq,if_neg hj],h⟩;| .ptr j f t,K,h=>by
  simp only[jl] at h;split at h;·exact h.elim
  ·rename_i hj;exact⟨_,by simp only[γH,AV.bT,pid,beq_iff_eq,if_neg hj],h⟩;| .ap j a b c d i,K,h=>by
  simp only[jl] at h;split at h;·exact h.elim
  ·rename_i hj;exact⟨_,by simp only[γH,AV.bT,pid,beq_iff_eq,if_neg hj],h⟩;| .agg cs,K,h=>by
  simp only[jl] at h;obtain⟨cs',h1,h2⟩:=vD ho h;exact⟨_,by simp only[γH,AV.bT,h1,μ],h2⟩;| .bH cs,K,h=>by
  simp only[jl] at h;obtain⟨cs',h1,h2⟩:=vD ho h;exact⟨_,by simp only[γH,AV.bT,h1,μ],h2⟩;| .fn f a b,K,h=>by
  simp only[jl] at h;obtain⟨a',h1,h2⟩:=vD ho h;obtain⟨b',h3,h4⟩:=vD ho h2;exact⟨_,by simp only[γH,AV.bT,h1,h3],h4⟩;| .ud,K,h=>⟨.ud,by simp only[γH,AV.bT],by simpa only[jl] using h⟩
 | .sc v,K,h=>⟨.sc v,by simp only[γH,AV.bT],by simpa only[jl] using h⟩
 | .il k n,K,h=>⟨.il k n,by simp only[γH,AV.bT],by simpa only[jl] using h⟩
 | .si k n,K,h=>⟨.si k n,by simp only[γH,AV.bT],by simpa only[jl] using h⟩
 | .bl b,K,h=>⟨.bl b,by simp only[γH,AV.bT],by simpa only[jl] using h⟩
 | .sb b,K,h=>⟨.sb b,by simp only[γH,AV.bT],by simpa only[jl] using h⟩
 | .row s l,K,h=>⟨.row s l,by simp only[γH,AV.bT],by simpa only[jl] using h⟩
 | .ep s l i f,K,h=>⟨.ep s l i f,by simp only[γH,AV.bT],by simpa only[jl] using h⟩
 | .mp i,K,h=>⟨.mp i,by simp only[γH,AV.bT],by simpa only[jl] using h⟩
 | .ia t cs,K,h=>⟨.ia t cs,by simp only[γH,AV.bT],by simpa only[jl] using h⟩
 | .ite c a b,K,h=>⟨.ite c a b,by simp only[γH,AV.bT],by simpa only[jl] using h⟩
theorem vD (ho:o[id]?=some (.row s l e true)):∀{cs:List SV} {K:List SV->Prop},rI id s l cs K->∃cs':List SV,gI (gO o) (pid id) (gL cs)=some (gL cs')/\K cs'
 |[],K,h=>⟨[],by simp[gL,gI],by simpa only[rI] using h⟩
 |c::cs,K,h=>by
  simp only[rI] at h;obtain⟨c',h1,h2⟩:=PE ho h;obtain⟨cs',h3,h4⟩:=vD ho h2;exact⟨c'::cs',by simp only[gL,gI,h1,h3],h4⟩
end
theorem Hy (b:o[id]?=some (.row s l e true)):∀{env:fp} {K:fp->Prop},zC id s l env K->∃a,uZ (gO o) (pid id) (gE env)=some (gE a)/\K a
 |[],K,h=>⟨[],rfl,h⟩
 |(k,v)::r,K,h=>by
  simp only[zC] at h;obtain⟨f,d,c⟩:=PE b h;obtain⟨j,g,i⟩:=Hy b c;grind[gE,uZ]
theorem C0 {o:Store} {q:Nat->Bool}:∀{cs:List AV},(∀a∈cs,Plain a)->gI o q cs=some cs
 |[],_=>by simp[gI];|a::cs,h=>by
  have d:=C0 (o:=o) (q:=q) (cs:=cs) λb c=>h b (by simp[c]);rcases h a (by simp) with⟨v,rfl,_⟩|⟨n,e,rfl,_⟩<;>simp only[gI,AV.bT,d]
theorem Hz {o:Store} {q:Nat->Bool}:∀{es:List (Value×AV)},(∀a∈es,∃v,a.2= .sc v)->qy o q es=some es
 |[],_=>by simp[qy];|(k,a)::es,h=>by
  obtain⟨v,b⟩:=h (k,a) (by simp);simp only at b;subst b;simp only[qy,AV.bT,Hz (es:=es) λa c=>h a (by simp[c])]
theorem sJ (j:o[id]?=some (.row s l e true)):∀{i:Nat} {r:bX} {K:bX->Prop},nY id s l i r K->∃r' mid,jh (gO o) (pid id) (gO r)=some mid/\fD (pid id) i mid=gO r'/\K r'
 |i,[],K,h=>⟨[],[],rfl,rfl,h⟩
 |i,x::r,K,h=>by
  cases x with
  |dead=>
   simp only[nY] at h;obtain⟨r',mid,w,n,f⟩:=sJ j h;grind[gO,bq.g,jh,bQ.bT,fD];|cells N p F d=>
   simp only[nY] at h;cases d with
   |true=>
    simp only[if_true] at h;split at h;·exact h.elim
    ·rename_i B;obtain⟨r',mid,w,n,f⟩:=sJ j h;refine⟨_,.cells (gL N) p F true::mid,?_,?_,f⟩;all_goals simp_all[gO,bq.g,jh,bQ.bT,fD,pid];|false=>
    simp only[χ,if_false] at h;obtain⟨A,z,k⟩:=vD j h;obtain⟨r',mid,w,n,f⟩:=sJ j k;refine⟨_,.cells (gL A) p F false::mid,?_,?_,f⟩;all_goals simp_all[gO,bq.g,jh,bQ.bT,fD]
  |oQ v u p t=>
   simp only[nY] at h;split at h;·exact h.elim
   ·obtain⟨O,z,k⟩:=vD j h;split at k
    ·rename_i m M;obtain⟨L,_⟩:=CW M;obtain⟨r',mid,w,n,f⟩:=sJ j k;refine⟨_,(bq.row v (u++m) p false).g::mid,?_,?_,f⟩
     ·simp only[gO,ι,bq.g] at w z ⊢;have G:∀(a b c:List AV),gI (γj bq.g o) (pid id) a=some a->gI (γj bq.g o) (pid id) b=some c->gI (γj bq.g o) (pid id) (a++b)=some (a++c):=λa b c w n=>by
       induction a<;>grind[gI]
      have P:gI (γj bq.g o) (pid id) (cE v u)=some (cE v u):=C0 (λa C=>nk C);simp_all[jh,bQ.bT,OI]
     ·simp only[bq.g,fD,n];rfl
    simp_all;|row v u p d=>
   simp only[nY] at h;have y:(bq.row v u p d).g.bT (gO o) (pid id)=some (bq.row v u p d).g:=by
    cases d with
    |true=>simp only[bq.g,bQ.bT,if_true];|false=>
     simp only[bq.g,bQ.bT,χ,if_false];grind[C0,nk]
   split at h
   ·rename_i B;cases d with
    |false=>simp_all;|true=>
     simp only[if_true] at h;obtain⟨r',mid,w,n,f⟩:=sJ j h;refine⟨_,(bq.row v u p true).g::mid,?_,?_,f⟩;all_goals simp_all[gO,jh,bq.g,fD,pid]
   ·rename_i B;obtain⟨r',mid,w,n,f⟩:=sJ j h;refine⟨_,(bq.row v u p d).g::mid,?_,?_,f⟩;·grind[gO,jh]
    ·cases d<;>simp only[bq.g,fD,n,pid,beq_iff_eq,if_neg B]<;>rfl;|map H D I E J d=>
   simp only[nY] at h;have y:(bq.map H D I E J d).g.bT (gO o) (pid id)=some (bq.map H D I E J d).g:=by
    cases d with
    |true=>simp only[bq.g,bQ.bT,if_true];|false=>
     simp only[bq.g,bQ.bT,χ,if_false];rw[Hz (λa C=>by obtain⟨q,_,rfl⟩:=γg.1 C;exact⟨_,rfl⟩),μ]
   obtain⟨r',mid,w,n,f⟩:=sJ j h;grind[gO,jh,bq.g,fD]
end
theorem Zx {v:SV}:(∃id,t6.xr v=some id/\∃a b c,v.g= .os id a b c)\/(t6.xr v=none/\∀id a b c,v.g≠ .os id a b c):=by
 cases v<;>simp[t6.xr,γH]
theorem PG {p:iN} {lo:Nat} {h:kq} {st:cq} {K:cq->Prop} {v:SV} (t:h.own=false) (f:BE h st.g=some v.g)
  (d:match t6.xr v with
   |some id=>if Nat.ble lo id then(match st.o[id]? with
    |some (.row s l e pu)=>zC id s l st.env λenv=>nY id s l 0 (if pu then st.o else st.o.set id (.row s l e true)) λo=>K ⟨env,o⟩
    |_=>False) else K st
   |none=>K st):∃st',jV lo h st.g=st'.g/\K st':=by
 let _:=p;unfold jV;rw[if_neg (by simp[t]),f];rcases @Zx v with⟨id,w,a,b,c,x⟩|⟨w,x⟩
 ·rw[w] at d;rw[x];simp only at d ⊢;split at d
  ·rename_i q;rw[if_pos q];split at d
   ·rename_i s l e pu m;have D:(λi=>i==id)=pid id:=rfl;cases pu with
    |true=>
     simp only[if_true] at d;obtain⟨j,A,n⟩:=Hy m d;obtain⟨B,u,C,y,r⟩:=sJ m n;refine⟨_,?_,r⟩;simp_all[zb,cq.g,fE,bq.g,BH];|false=>
     simp only[χ,if_false] at d;have z:id<st.o.length:=(θ.1 m).1;have k:(st.o.set id (.row s l e true))[id]?=some (.row s l e true):=by simp_all
     obtain⟨j,A,n⟩:=Hy (o:=st.o.set id (.row s l e true)) k d;obtain⟨B,u,C,y,r⟩:=sJ k n;refine⟨_,?_,r⟩;simp_all[zb,cq.g,fE,bq.g,qG,qH,BH]
   simp_all
  grind
 grind
section
variable {p:iN} {lo:Nat}
theorem Zy {h:kq} {st:cq} {K:cq->Prop} (a:t6 p lo h st K):∃st',jV lo h st.g=st'.g/\K st':=by
 unfold t6 at a;split at a
 ·rename_i f;unfold jV;rw[if_pos f];unfold BG;split at a
  ·rename_i b;simp only[b];split at a
   ·rename_i r;have t:=CZ.1 r;rw[<-oa] at t;have B:dH st.g.env h.slot= .sc (.slice none 0 0):=t;rw[B];split at a
    ·rename_i s J;split at a
     ·rename_i w;refine⟨_,?_,a⟩;simp[cq.g,gE,gO,γH,bq.g,cE,w]
     simp_all
    simp_all
   ·rename_i r;split at a
    ·rename_i z;split at a
     ·rename_i m G D d;have n:dH st.g.env h.slot= .os m 0 G (G*D):=by
       show dH (gE st.env) h.slot=_;rw[oa,d];rfl
      rw[n];split at a
      ·rename_i s l e y;refine⟨_,?_,a⟩;simp_all[BF,cq.g,fE,bq.g,qH]
      simp_all
     simp_all
    ·rename_i z;refine⟨st,?_,a⟩;split
     ·rename_i L;have:dH (gE st.env) h.slot= .sc (.slice none 0 0):=L;grind[oa,CZ]
     all_goals simp_all
  ·rename_i k b;simp only[b];split at a
   ·rename_i m c j d;have n:dH st.g.env h.slot= .ptr m c j:=by
     show dH (gE st.env) h.slot=_;rw[oa,d];rfl
    rw[n];split at a
    ·rename_i i e F E y;have u:st.g.o[m]?=some (.cells (gL i) e F E):=fE y;simp only[u];split at a
     ·rename_i r;cases C:i[c+k]? with
      |none=>simp_all;|some v=>
       rw[C] at r;simp only[Option.any_some] at r;have M:=CZ.1 r;have A:(gL i)[c+k]?=some (.sc (.slice none 0 0)):=by grind[t7]
       simp only[A,jH];split at a
       ·rename_i I;rw[if_pos I];split at a
        ·rename_i s J;split at a
         ·rename_i w;refine⟨_,?_,a⟩;have N:gL (i.set (c+k) (.ow st.o.length 0 h.sz))=(gL i).set (c+k) (.os st.o.length 0 0 0):=by
           simp_all[fY,γH]
          simp_all[cq.g,bq.g,gO,cE]
         simp_all
        simp_all
       simp_all
     grind[t7,CZ]
    simp_all
   simp_all
 ·rename_i f;have f:h.own=false:=by simpa using f
  unfold t6.OQ at a;cases b:h.off with
  |none=>
   rw[b] at a;simp only at a;refine PG (p:=p) (v:=jG st.env h.slot) f ?_ ?_;all_goals grind[BE,cq.g,oa];|some k=>
   rw[b] at a;simp only at a;cases q:jG st.env h.slot with
   |ptr m c j=>
    rw[q] at a;simp only at a;cases y:st.o[m]? with
    |none=>simp_all;|some x=>
     rw[y] at a;cases x with
     |cells i e F E=>
      simp only at a;by_cases H:i.length=j
      ·rw[if_pos H] at a;cases C:i[c+k]? with
       |none=>simp_all;|some v=>
        rw[C] at a;refine PG (p:=p) (v:=v) f ?_ ?_
        ·unfold BE;rw[b];have:dH st.g.env h.slot= .ptr m c j:=by
          show dH (gE st.env) h.slot=_;rw[oa,q];rfl
         have u:st.g.o[m]?=some (.cells (gL i) e F E):=fE y;simp_all[behind,jH,t7]
        grind
      simp_all;|_=>exact a.elim
   |_=>rw[q] at a;exact a.elim
theorem HA:∀{hs:List kq} {st:cq} {K:cq->Prop},zD p lo hs st K->∃st',hs.foldl (λs h=>jV lo h s) st.g=st'.g/\K st'
 |[],st,K,h=>⟨st,rfl,h⟩
 |h::hs,st,K,hk=>by
  simp only[zD] at hk;obtain⟨st1,h1,h2⟩:=Zy hk;obtain⟨st2,h3,h4⟩:=HA h2;exact⟨st2,by rw[List.foldl_cons,h1,h3],h4⟩
theorem Zz (a:List Nat) (env:fp):gE (GX a env)=prune a (gE env):=by
 simp[GX,prune,gE,<-oa]
theorem HB (k:Nat) (st:cq):(trimS k st).g=trim k st.g:=by
 unfold trimS trim;have b:st.g.o.length=st.o.length:=by simp[cq.g,ob]
 have c:(st.g.env.all λp=>p.2.bZ k)=(st.env.all λp=>p.2.bZ k):=by
  simp only[cq.g,gE,ζO];grind[zH]
 have d:((st.g.o.take k).all λx=>x.bZ k)=((st.o.take k).all λx=>x.bZ k):=by
  simp only[cq.g,gO,<-List.map_take,ζO];grind[CS]
 rw[b,c,d];by_cases a:st.o.length<=k;·simp_all
 ·rw[if_neg a,if_neg a];split;·simp[cq.g,gO]
  ·rfl
variable {T:Tab}
theorem PH {v:Int} {n:Nat} {K:Nat->Prop}:∀{j:Nat},j<=n->splitN v n K j->(n - j:Nat)<=v->∃i:Nat,v=i/\K i
 |0,_,h,a=>by
  grind[splitN];|j+1,c,h,a=>by
  simp only[splitN] at h;by_cases b:v=(n - (j+1):Nat);·grind
  ·exact PH (by omega) h.2 (by omega)
theorem PI {v:Int} {n:Nat} {K:Nat->Prop}:∀{j:Nat},splitN v n K j->0<=v
 |0,h=>h.1
 |j+1,h=>PI h.2
theorem ZA {x:Option (Nat×Nat×Nat)} {st:cq} {K:cq->Prop} (h:splitK x st K):∃st',st'.g=st.g/\K st':=by
 unfold splitK at h;split at h;·grind
 ·rename_i p a n;split at h
  ·rename_i c e q r b;split at h
   ·rename_i k v o;obtain⟨i,rfl,f⟩:=PH (φ _) h (by have:=PI h;omega);refine⟨_,?_,f⟩;have l:gL (c.set a (.il k i))=gL c:=by
     rw[fY,fY,List.map_set];apply δd;grind[γH]
    simp only[cq.g,qH,bq.g,l,cq.mk.injEq,St.mk.injEq,true_and];apply δd;intro j;rw[List.getElem?_set];split
    ·rename_i d;subst d;have m:=(θ.1 b).1;rw[if_pos (by grind[ob]),G8,b];rfl
    ·rfl
   simp_all
  simp_all
theorem PK:∀{e a:fp},xt e a->gE e=gE a
 |[],[],_=>rfl
 |[],_::_,h=>by grind[xt];|_::_,[],h=>by grind[xt];|(k,v)::e,(d,c)::a,h=>by
  simp only[xt] at h;split at h
  ·rename_i b;subst b;have:=PK h.2;simp only[gE,ι] at this ⊢;rw[this,show v.g=c.g from h.1]
  simp_all
theorem xA:∀{o o':bX},jk o o'->gO o=gO o'
 |[],[],_=>rfl
 |[],_::_,h=>by grind[jk];|_::_,[],h=>by grind[jk];|x::o,y::o',h=>by
  simp only[jk] at h;have:=xA h.2;simp only[gO,ι] at this ⊢;rw[this,show x.g=y.g from h.1]
theorem C2 {s t:cq} (h:zE s t):s.g=t.g:=by
 simp only[cq.g,PK h.1,xA h.2]
theorem agN (env:fp) (args:List Operand):args.map (eC (gE env))=gL (args.map (jj env)):=by
 simp_all[fY,zG]
theorem vE (hC:pR T.K p.C) (hI:∀f F,p.it f=some F->T.fn f=some F):∀{c:IR} {Λ:Nat->cC} {st:cq} {Q:Out->cq->Prop},wpS p lo c Λ st Q->VW T zw lo c st.g λout s=>∃ss,s=ss.g/\Q out ss:=by
 intro c;induction c with
 |skip=>intro Λ st Q h;exact VW.skip ⟨st,rfl,h⟩;|exit id=>intro Λ st Q h;exact VW.exit ⟨st,rfl,h⟩;|ret=>intro Λ st Q h;exact VW.ret ⟨st,rfl,h⟩;|goto l=>intro Λ st Q h;exact VW.goto ⟨st,rfl,h⟩;|oJ x a b iha ihb=>
  intro Λ st Q h;simp only[wpS] at h;have hx:eC st.g.env x=(jj st.env x).g:=zG _ _;split at h
  ·rename_i he;rw[he] at hx;exact VW.oJ hx (by rw[if_pos rfl];exact iha h)
  ·rename_i he;rw[he] at hx;exact VW.oJ hx (by rw[if_neg (by simp)];exact ihb h)
  ·rename_i c he;rw[he] at hx;have hset:∀v:SV,(SV.sb c).g=v.g->(cq.mk (CO st.env x v) st.o).g=st.g:=λv hv=>by
    cases x with
    |tmp t=>
     have:jG st.env t= .sb c:=he;simp only[cq.g,CO];rw[Hv (by rw[this];exact hv)];|_=>rfl
   refine VW.oJ hx ?_;cases c with
   |true=>
    have:=iha (h.1 rfl);rw[hset (.bl true) rfl] at this;rw[if_pos rfl];exact this;|false=>
    have:=ihb (h.2 rfl);rw[hset (.bl false) rfl] at this;rw[if_neg (by simp)];exact this
  ·exact h.elim;|turns l b ih=>
  intro Λ st Q h;cases l with
  |none=>
   simp only[wpS] at h;refine VW.YR ((ih h).mono ?_);rintro out s ⟨ss,rfl,h2⟩;cases out with
   |norm=>exact⟨by simp,ss,rfl,h2⟩;|exit id=>exact⟨by simp,ss,rfl,h2⟩;|ret=>exact⟨by simp,ss,rfl,h2⟩;|goto l=>exact h2.elim
  |some l=>
   simp only[wpS] at h;split at h
   ·rename_i X shape next J m inner _;obtain⟨⟨h0,hx⟩,hstep⟩:=h;refine VW.YT (λk s=>∃x,s=(shape x).g/\J x/\m x=k) ?_ (m (next st)) _ ⟨next st,C2 h0,hx,rfl⟩;rintro k s ⟨x,rfl,hj,rfl⟩;refine(ih (hstep x hj)).mono ?_;rintro out s ⟨ss,rfl,h2⟩;cases out with
    |goto l'=>
     obtain⟨rfl,h3,h4,h5⟩:=h2;refine .inl ⟨rfl,_,h5,_,?_,h4,rfl⟩;have h6:=C2 h3;rw[<-h6,HB,show(shape x).o.length=(shape x).g.o.length from by simp[cq.g,ob]];|norm=>exact .inr ⟨by simp,ss,rfl,h2⟩;|exit id=>exact .inr ⟨by simp,ss,rfl,h2⟩;|ret=>exact .inr ⟨by simp,ss,rfl,h2⟩
   ·exact h.elim
 |region id draw k ops kr live pre post=>
  intro Λ st Q h;simp only[wpS] at h;obtain⟨st0,h0,h⟩:=ZA h;obtain⟨st1,h1,h2⟩:=HA h;obtain⟨st2,h3,h4⟩:=Zw hC h2;obtain⟨GZ,h5,h6⟩:=HA h4;refine VW.region ?_;rw[<-h0,h1,h3];refine⟨GZ,?_,h6⟩;rw[<-h5];simp only[cq.g,Zz];|tn g caps d a b _ _=>intro Λ st Q h;exact h.elim;|seq a b iha ihb=>
  intro Λ st Q h;simp only[wpS] at h;refine VW.seq ((iha h).mono ?_);rintro out s ⟨ss,rfl,h2⟩;cases out with
  |norm=>rw[if_pos rfl];exact ihb h2;|exit id=>rw[if_neg (by simp)];exact⟨ss,rfl,h2⟩;|ret=>rw[if_neg (by simp)];exact⟨ss,rfl,h2⟩;|goto l=>rw[if_neg (by simp)];exact⟨ss,rfl,h2⟩
 |cond x a b iha ihb=>
  intro Λ st Q h;simp only[wpS] at h;have hx:eC st.g.env x=(jj st.env x).g:=zG _ _;have hdr:(cq.mk (xu x st.env) st.o).g=⟨pJ x st.g.env,st.g.o⟩:=by
   have:∀(t:Nat) (env:fp),(zF t env).map (λp=>(p.1,p.2.g))=rm t (env.map λp=>(p.1,p.2.g)):=by
    intro t env;induction env with
    |nil=>rfl;|cons p env ih=>
     simp only[zF,rm,ι];cases δA p.1 t with
     |true=>simpa using ih;|false=>simpa using ih
   cases x with
   |tmp t=>simp only[cq.g,gE,xu,pJ];rw[this];|_=>rfl
  split at h
  ·rename_i he;rw[he] at hx;exact VW.cond hx (by rw[if_pos rfl,<-hdr];exact iha h)
  ·rename_i he;rw[he] at hx;exact VW.cond hx (by rw[if_neg (by simp),<-hdr];exact ihb h)
  ·rename_i c he;rw[he] at hx;refine VW.cond hx ?_;cases c with
   |true=>rw[if_pos rfl,<-hdr];exact iha (h.1 rfl);|false=>rw[if_neg (by simp),<-hdr];exact ihb (h.2 rfl)
  ·exact h.elim;|block id b ih=>
  intro Λ st Q h;simp only[wpS] at h;exact VW.block ((ih h).mono λout s ⟨ss,e,h2⟩=>⟨ss,e,h2⟩);|loop b ih=>
  intro Λ st Q h;simp only[wpS] at h;split at h
  ·rename_i n ZB;clear ZB;induction n generalizing st with
   |zero=>exact h.elim;|succ n ihn=>
    simp only[GY] at h;refine VW.loop ((ih h).mono ?_);rintro out s ⟨ss,rfl,h2⟩;cases out with
    |norm=>
     rw[if_pos rfl];have:=ihn h2;rwa [HB,show st.o.length=st.g.o.length from by simp[cq.g,ob]] at this;|exit id=>rw[if_neg (by simp)];exact⟨ss,rfl,h2⟩;|ret=>rw[if_neg (by simp)];exact⟨ss,rfl,h2⟩;|goto l=>rw[if_neg (by simp)];exact⟨ss,rfl,h2⟩
  ·exact h.elim
  ·rename_i X shape next J m inner _;obtain⟨⟨h0,hx⟩,hstep⟩:=h;refine VW.YQ (λk s=>∃x,s=(shape x).g/\J x/\m x=k) ?_ (m (next st)) _ ⟨next st,C2 h0,hx,rfl⟩;rintro k s ⟨x,rfl,hj,rfl⟩;refine(ih (hstep x hj)).mono ?_;rintro out s ⟨ss,rfl,h2⟩;cases out with
   |norm=>
    rw[if_pos rfl];obtain⟨h3,h4,h5⟩:=h2;refine⟨_,h5,_,?_,h4,rfl⟩;have h6:=C2 h3;rw[<-h6,HB,show(shape x).o.length=(shape x).g.o.length from by simp[cq.g,ob]];|exit id=>rw[if_neg (by simp)];exact⟨ss,rfl,h2⟩;|ret=>rw[if_neg (by simp)];exact⟨ss,rfl,h2⟩;|goto l=>rw[if_neg (by simp)];exact⟨ss,rfl,h2⟩
theorem PL {st:cq}:∀{a:List nc} {K:List SV->Prop},nZ.goK st a K->∃l,a.mapM (ri st.g)=some (gL l)/\K l
 |[],K,h=>⟨[],by simp[gL],h⟩
 |r::a,K,h=>by
  simp only[nZ.goK] at h;have b:∃v,ri st.g r=some v.g/\nZ.goK st a λl=>K (v::l):=by
   unfold nZ.OS at h;unfold ri;split at h
   ·rename_i c;rw[c];exact⟨_,by grind[cq.g,oa],h⟩
   grind[O1,cq.g,oa]
  obtain⟨v,i,d⟩:=b;obtain⟨l,f,e⟩:=PL d;exact⟨v::l,by simp_all[gL],e⟩
theorem xB {st:cq} {b:List nc} {K:SV->Prop} (h:nZ st b K):∃r,nT st.g b=some r.g/\K r:=by
 unfold nZ at h;obtain⟨l,c,a⟩:=PL h;unfold nT;rw[c];match l,a with
 |[],a=>exact⟨_,rfl,a⟩;|[v],a=>exact⟨v,rfl,a⟩;|v::w::l,a=>exact⟨_,rfl,a⟩
theorem vF:∀(i:Nat) (args:List SV),gE (np i args)=gZ i (gL args)
 |_,[]=>rfl
 |i,v::a=>by
  have:=vF (i+1) a;grind[gE,np,gL,gZ]
theorem C4 {Λ:Nat->cC} {P:Program} (hT:ky P T) (hC:pR T.K p.C) (hI:∀f F,p.it f=some F->T.fn f=some F) {f:FuncId} {F:fh} (hF:T.fn f=some F) {args:List SV} {r:AV} (hK:T.K f (gL args) [] false=none) (hlen:args.length=F.params)
  {Q:SV->Prop} (hQ:∀v,Q v->v.g=r) (h:sH p Λ F args Q):gJ P f=true/\lv P f (gL args) [] r []:=by
 unfold sH at h;have hw:=vE hC hI h;have hst:(cq.mk (np 0 args) []).g=⟨gZ 0 (gL args),[]⟩:=by simp[cq.g,vF,gO]
 rw[hst] at hw;obtain⟨h1,h2,_⟩:=Cj hT hF (o:=[]) (own:=false) hK (by rw[jH];exact hlen) (v:=r) (o':=[]) (hw.mono λout s hs=>by
  obtain⟨ss,rfl,hq⟩:=hs;cases out with
  |exit id=>exact hq.elim;|goto l=>exact hq.elim;|norm=>
   obtain⟨r0,h1,h2⟩:=xB hq;obtain⟨v,h3,h4⟩:=Ha h2;refine⟨.inl rfl,?_⟩;rw[h1];show finish false 0 r0.g ss.g.o=_;have:freeze ss.g.o 6 r0.g=some v.g:=h3;simp[finish,this,hQ _ h4];|ret=>
   obtain⟨r0,h1,h2⟩:=xB hq;obtain⟨v,h3,h4⟩:=Ha h2;refine⟨.inr rfl,?_⟩;rw[h1];show finish false 0 r0.g ss.g.o=_;have:freeze ss.g.o 6 r0.g=some v.g:=h3;simp[finish,this,hQ _ h4]);exact⟨h1,h2⟩
end
structure oV (α:Type) where
 put:α->SV
 dec:SV->Option α
 ok:∀v a,dec v=some a->v.g=(put a).g
 inj:∀a b,(put a).g=(put b).g->a=b
structure qI (α:Type) where
 put:α->List SV
 dec:List SV->Option α
 ok:∀v a,dec v=some a->gL v=gL (put a)
 inj:∀a b,gL (put a)=gL (put b)->a=b
def qI.one {d:Type} (c:oV d):qI d where
 put a:=[c.put a];dec
  |[v]=>c.dec v
  |_=>none;ok v a h:=by
  match v,h with
  |[v],h=>simp only[gL,c.ok v a h]
 inj a b h:=by
  simp only[gL,π,and_true] at h;exact c.inj a b h
def qI.cons {f g:Type} (c:oV f) (d:qI g):qI (f×g) where
 put a:=c.put a.1::d.put a.2;dec
  |v::e=>match c.dec v,d.dec e with
   |some a,some b=>some (a,b)
   |_,_=>none
  |[]=>none;ok v a h:=by
  match v,h with
  |v::e,h=>
   simp only at h;split at h
   ·rename_i x y j i;simp only[γ] at h;subst h;simp only[gL,c.ok v x j,d.ok e y i]
   ·cases h
 inj a b h:=by
  simp only[gL,π] at h;exact Prod.ext (c.inj _ _ h.1) (d.inj _ _ h.2)
def qI.nil:qI Unit where
 put _:=[];dec
  |[]=>some ()
  |_=>none;ok v a h:=by
  grind
 inj a b h:=rfl
structure bL where
 f:FuncId
 α:Type
 A:qI α
 dom:α->Prop
 res:α->SV
def Holds (P:Program) (c:bL):Prop:=∀a,c.dom a->gJ P c.f=true/\lv P c.f (gL (c.A.put a)) [] (c.res a).G []
def oW (f:FuncId):List bL->Option bL
 |[]=>none
 |c::r=>bif δA c.f f then some c else oW f r
def vG (L:List bL) (f:FuncId) (args:List SV) (K:SV->Prop):Prop:=
 match oW f L with
 |some c=>iO (c.A.dec args) λa=>c.dom a/\CL (c.res a) K
 |none=>False
structure mL where
 K:FuncId->List AV->Store->Option (AV×Store)
 C:FuncId->List SV->bX->(SV->bX->Prop)->Prop
def mL.none:mL:=⟨λ_ _ _=> .none,λ_ _ _ _=>False⟩
noncomputable def sK (L:List bL) (W:mL):cV:=λf args o own=>
 if own then W.K f args o
 else match o with
  |[]=>match oW f L with
   |some c=>(ans (λa=>gL (c.A.put a)) c.dom (λa=>(c.res a).G) args).map λv=>(v,[])
   |none=> .none
  |_=> .none
noncomputable def qJ (a:FuncId->Option fh) (L:List bL) (W:mL):Tab:=⟨a,sK L W⟩
structure pS (P:Program) (W:mL):Prop where
 K:∀f args o r o',W.K f args o=some (r,o')->gJ P f=true/\lv P f args o r o'
 C:∀(call:cV),(∀f args o,call f args o true=W.K f args o)->∀f args o K,W.C f args o K->∃(r:SV) (o':bX),iH call f (gL args) (gO o)=some (r.g,gO o')/\K r o'
theorem pS.none (P:Program):pS P mL.none where
 K:=λ_ _ _ _ _ h=>by cases h
 C:=λ_ _ _ _ _ _ h=>h.elim
theorem PN:∀{L:List bL} {f:FuncId} {c:bL},oW f L=some c->c.f=f/\c∈L
 |[],_,_,h=>by cases h;|d::L,f,c,h=>by
  simp only[oW] at h;cases a:δA d.f f with
  |true=>
   simp_all;|false=>
   rw[a] at h;simp only[cond_false] at h;obtain⟨b,e⟩:=PN h;simp_all
theorem HC:∀{v:SV} {K:SV->Prop},CL v K->∃w:SV,w.g=v.G/\K w
 | .ite c a b,K,h=>by
  cases c with
  |true=>exact HC (v:=a) (h.1 rfl);|false=>exact HC (v:=b) (h.2 rfl)
 | .ud,_,h| .sc _,_,h| .il _ _,_,h| .si _ _,_,h| .bl _,_,h| .sb _,_,h| .agg _,_,h| .bH _,_,h| .row _ _,_,h| .ep _ _ _ _,_,h| .ptr _ _ _,_,h| .ap _ _ _ _ _ _,_,h| .rp _ _ _ _ _,_,h| .ow _ _ _,_,h| .os _ _ _ _ _,_,h| .oc _ _ _ _ _,_,h| .mp _,_,h| .fn _ _ _,_,h| .ia _ _,_,h=>⟨_,rfl,h⟩
theorem xC:∀{w v:SV},v.rH w->v.g=w.G
 | .ite c a b,v,h=>by
  cases c with
  |true=>exact xC (w:=a) (h.1 rfl);|false=>exact xC (w:=b) (h.2 rfl)
 | .ud,_,h| .sc _,_,h| .il _ _,_,h| .si _ _,_,h| .bl _,_,h| .sb _,_,h| .agg _,_,h| .bH _,_,h| .row _ _,_,h| .ep _ _ _ _,_,h| .ptr _ _ _,_,h| .ap _ _ _ _ _ _,_,h| .rp _ _ _ _ _,_,h| .ow _ _ _,_,h| .os _ _ _ _ _,_,h| .oc _ _ _ _ _,_,h| .mp _,_,h| .fn _ _ _,_,h| .ia _ _,_,h=>h
variable {P:Program} {L:List bL} {W:mL} {fn:FuncId->Option fh}
theorem ub (j:pS P W) (k:∀c∈L,Holds P c) (n:ky P ⟨fn,λ_ _ _ _=>none⟩):ky P (qJ fn L W) where
 fn:=n.fn;K:=λg e o b r q h=>by
  simp only[qJ,sK] at h;cases b with
  |true=>
   simp only[if_true] at h;obtain⟨p,d⟩:=j.K _ _ _ _ _ h;simp_all;|false=>
   simp only[χ,if_false] at h;split at h
   ·split at h
    ·rename_i c l;obtain⟨rfl,f⟩:=PN l;obtain⟨v,m,d⟩:=δ.1 h;simp only[Prod.mk.injEq] at d;obtain⟨rfl,rfl⟩:=d;obtain⟨a,rfl,i,rfl⟩:=YV m;obtain⟨t,s⟩:=k c f a i;simp_all
    ·cases h
   ·cases h
theorem uf (hW:pS P W):pR (qJ fn L W).K ⟨vG L,W.C⟩ where
 pure:=λf args K h=>by
  simp only[vG] at h;split at h
  ·rename_i c hc;obtain⟨a,h1,h2,h3⟩:=iY h;obtain⟨r,h4,h5⟩:=HC h3;refine⟨r,?_,h5⟩;have:=c.A.ok _ _ h1;simp only[qJ,sK,χ,if_false,hc,this];rw[YU (enc:=λa=>gL (c.A.put a)) c.A.inj h2,h4];rfl
  ·exact h.elim
 own:=λf args o K h=>hW.C _ (λf args o=>by simp[qJ,sK]) f args o K h
theorem C5 {f:FuncId} {args:List AV} (h:oW f L=none):(qJ fn L W).K f args [] false=none:=by
 simp[qJ,sK,h]
def lT (L:List bL) (W:mL) (a:TypeId->Option bn) (c:List Nat×Bool->Option (bn×bn)) (b:FuncId->Option fh):iN:=⟨⟨vG L,W.C⟩,a,c,λ_=>none,b,λ_=>false⟩
theorem holds_of (c:bL) {F:fh} {ty:TypeId->Option bn} {mt:List Nat×Bool->Option (bn×bn)} {Λ:c.α->Nat->cC} (h0:ky P ⟨fn,λ_ _ _ _=>none⟩) (hW:pS P W) (hL:∀c∈L,Holds P c)
  (hF:fn c.f=some F) (hfr:oW c.f L=none) (hlen:∀a,(c.A.put a).length=F.params)
  (h:∀a,c.dom a->sH (lT L W ty mt fn) (Λ a) F (c.A.put a) λv=>v.rH (c.res a)):Holds P c:=by
 intro a hd;exact C4 (p:=lT L W ty mt fn) (Λ:=Λ a) (ub hW hL h0) (uf hW) (λ_ _ h=>h) hF (C5 hfr) (hlen a) (λ_ h=>xC h) (h a hd)
def HD (L:List bL) (W:mL) (a:TypeId->Option bn) (c:List Nat×Bool->Option (bn×bn)) (b:FuncId->Option fh) (d:FuncId->Bool):iN:=⟨⟨vG L,W.C⟩,a,c,λ_=>none,b,d⟩
theorem ZC (c:bL) {F:fh} {ty:TypeId->Option bn} {mt:List Nat×Bool->Option (bn×bn)} {ro:FuncId->Bool} {Λ:c.α->Nat->cC} (h0:ky P ⟨fn,λ_ _ _ _=>none⟩) (hW:pS P W) (hL:∀c∈L,Holds P c)
  (hF:fn c.f=some F) (hfr:oW c.f L=none) (hlen:∀a,(c.A.put a).length=F.params)
  (h:∀a,c.dom a->sH (HD L W ty mt fn ro) (Λ a) F (c.A.put a) λv=>v.rH (c.res a)):Holds P c:=by
 intro a hd;exact C4 (p:=HD L W ty mt fn ro) (Λ:=Λ a) (ub hW hL h0) (uf hW) (λ_ _ h=>h) hF (C5 hfr) (hlen a) (λ_ h=>xC h) (h a hd)
def dX (k:IntKind):oV Int where
 put n:=.si k n;dec v:=v.int k;ok v a h:=by rw[gP h];rfl
 inj a b h:=by grind[γH]
def PO:oV Bool where
 put b:=.sb b;dec v:=v.boo;ok v a h:=by rw[vo h];rfl
 inj a b h:=by grind[γH]
theorem rJ:(s:bn)->(x y:s.T)->dI s x=dI s y->(e:s.flat=true:=by rfl)->x=y
 | .i k,x,y,h,_=>by grind[dI];| .b,x,y,h,_=>by grind[dI];| .eD,⟨o,B,r,f,j,q⟩,⟨p,l,g,u,A,z⟩,h,_=>by
  simp_all[dI,iv];| .off,⟨b,⟨o,B,r,f,j,q⟩,v⟩,⟨c,⟨p,l,g,u,A,z⟩,w⟩,h,_=>by
  simp_all[dI,iv];| .need,⟨a,b⟩,⟨c,d⟩,h,_=>by
  simp_all[dI,iv];| .key,⟨b,⟨o,B,r,f,j,q⟩⟩,⟨c,⟨p,l,g,u,A,z⟩⟩,h,_=>by
  simp_all[dI,iv];| .sit,⟨m,⟨o,B,r,f,j,q⟩,⟨K,F,G,N,L,P⟩⟩,⟨n,⟨p,l,g,u,A,z⟩,⟨O,J,M,I,H,E⟩⟩,h,_=>by
  simp_all[dI,iv];| .bK _,_,_,_,e=>by grind[bn.flat];| .pair s t,(a,b),(c,d),h,e=>by
  simp only[bn.flat,ζ] at e;simp only[dI] at h;obtain⟨D,C⟩:=εG h (by grind[GI]);rw[rJ s a c D e.1,rJ t b d C e.2]
theorem HE {d i:Type} {n:Nat} {f:d->List i} (a:∀x,(f x).length=n) (c:∀x y,f x=f y->x=y):∀{l m:List d},l.length=m.length->l.flatMap f=m.flatMap f->l=m
 |[],[],_,_=>rfl
 |[],_::_,h,_=>by simp at h;|_::_,[],h,_=>by simp at h;|x::l,y::m,b,h=>by
  simp only[δ4] at h;obtain⟨e,g⟩:=εG h (by rw[a,a]);simp only[γy,ζk] at b;rw[c x y e,HE a c b g]
theorem xE:(s:bn)->(x y:s.T)->(h:dM s x=dM s y)->x=y
 | .bK s,x,y,h=>by
  simp only[dM,π,AV.sl.injEq,and_true] at h;exact HE (lR s) (xE s) h.1 h.2;| .pair s t,(a,b),(c,d),h=>by
  simp only[dM] at h;obtain⟨e,f⟩:=εG h (by grind[lR]);rw[xE s a c e,xE t b d f];| .i k,x,y,h=>rJ (.i k) x y (ua h)
 | .b,x,y,h=>rJ .b x y (ua h)
 | .eD,x,y,h=>rJ .eD x y (ua h)
 | .off,x,y,h=>rJ .off x y (ua h)
 | .need,x,y,h=>rJ .need x y (ua h)
 | .key,x,y,h=>rJ .key x y (ua h)
 | .sit,x,y,h=>rJ .sit x y (ua h)
theorem lU (s:bn) {l m:List s.T} (a:l.length=m.length) (h:cE s l=cE s m):l=m:=
 HE (lR s) (xE s) a h
def eG (s:bn):oV s.T where
 put x:=.agg (encS s x);dec
  | .agg c=>jF s c
  |_=>none;ok v a h:=by
  grind[γH,fY,nV,tV]
 inj a b h:=by
  grind[γH,fY,tV,xE]
theorem jI {s:bn} {v:SV} {l:List s.T} (h:fZ s v=some l):v.g=(SV.row s l).g:=by
 cases v<;>simp only[fZ,reduceCtorEq] at h;grind[zM,γH,cE]
def dV (s:bn):oV (List s.T) where
 put l:=.row s l;dec:=fZ s;ok v a h:=jI h;inj a b h:=by
  grind[γH,lU]
end Go.Vi
