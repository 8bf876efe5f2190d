/-
  The symbolic run: its operations, and what must hold for a piece of code to come to a post. Plain definitions: no proof stands here.
  Conditions: none.
-/
import Derived.Test.YtbnhiekmnpikhaaGreatDF04
set_option maxRecDepth 100000
set_option maxHeartbeats 4000000
set_option linter.all false
open And renaming intro->γl
open BitVec renaming ofInt->γi
open Bool renaming and_eq_true->θ,and_true->δT,false_eq_true->ψ,or_eq_true->δx,true_eq_false->ζV
open Function renaming comp_def->δg
open Go.Vi.AV renaming sc->δe,ren->δw
open Go.Vi.AV.sc renaming injEq->δd
open Go.Vi.SV renaming g->γF
open List renaming replicate->δ,map_map->γO,mem_map->Θ,length_cons->γD,length->γc,drop_drop->δj,getElem?_eq_getElem->μ,take->Δ,take_of_length_le->γq,map_cons->ξ,take_append_drop->γK,cons_append->γJ,modify_succ_cons->ζI,getElem?_eq_some_iff->ζ,map_append->γa,flatMap_nil->ζD,nil_append->δK,drop_zero->εo,map_nil->γv,take_succ_cons->δt,range->ω,range'->ζy,range'_succ->εt,range_eq_range'->δE,flatMap_cons->δZ,all_map->ζ3,map->γb,ext_getElem?->δa,append_inj->εD
open List.cons renaming injEq->Γ
open Nat renaming beq->δs,add_assoc->εX,mul_le_mul_right->γM,add_mul->δV,add_right_cancel_iff->ζp
open Option renaming map_eq_some_iff->ε,map_some->ν,isSome_some->ζW,isSome_none->ζd
open Option.some renaming injEq->γ
namespace Go.Vi
abbrev fD:=List (Nat×SV)
abbrev cj:=List bq
structure cy where
 env:fD
 o:cj
def jU:fD->Nat->SV
 |[],_=> .ud
 |p::r,s=>bif δs p.1 s then p.2 else jU r s
def vD (env:fD) (a:Option Nat) (v:SV):fD:=
 match a with
 |none=>env
 |some d=>(d,v)::env
def SV.o7:Value->SV
 | .int k n=> .il k n
 | .bool b=> .bl b
 |v=> .sc v
def SV.uY:Value->SV
 | .agg a=>if a.toList.all (·.oneCell') then .agg (a.toList.map .o7) else .ud
 | .tuple _=> .ud
 | .int k n=> .il k n
 | .bool b=> .bl b
 |v=> .sc v
def jI (env:fD):Operand->SV
 | .tmp t=>jU env t
 | .const v=> .uY v
 | .global _=> .ud
 | .func f=> .fn (.func f) [] []
def SV.cellsOf:SV->List SV
 | .agg a=>a
 |v=>[v]
def SV.one:SV->Bool
 | .agg _| .bI _| .ud| .ite _ _ _=>false
 | .sc v=>v.oneCell'
 |_=>true
def xw (l:List SV):Bool:=l.all (·.one)
mutual
def SV.pure:SV->Bool
 | .sc _| .il .. | .si .. | .bl _| .sb _| .row .. =>true
 |_=>false
def zI:List SV->Bool
 |[]=>true
 |c::a=>c.pure&&zI a
end
mutual
def SV.bZ (k:Nat):SV->Bool
 | .ud| .sc _| .il .. | .si .. | .bl _| .sb _| .row .. | .ep .. =>true
 | .agg e| .bI e=>sC k e
 | .ptr d .. | .ap d .. | .rp d .. | .ow d .. | .os d .. | .oc d .. | .mp d=>decide (d<k)
 | .fn _ a b=>sC k a&&sC k b
 | .ia _ _| .ite _ _ _=>true
def sC (k:Nat):List SV->Bool
 |[]=>true
 |c::e=>c.bZ k&&sC k e
end
def bq.bZ (k:Nat):bq->Bool
 | .cells b _ _ a=>a||sC k b
 | .o5 _ _ _ t=>sC k t
 |_=>true
mutual
def SV.kW:SV->Bool
 | .ud| .sc _| .il .. | .si .. | .bl _| .sb _=>true
 | .agg a| .bI a=>CV a
 |_=>false
def CV:List SV->Bool
 |[]=>true
 |c::a=>c.kW&&CV a
end
def cu (k:IntKind) (n:Int):Prop:=
 match k with
 | .i64=> -9223372036854775808<=n/\n<=9223372036854775807
 |k=>k.wrap n=n
def vE (k:IntKind) (n:Int) (K:Int->Prop):Prop:=
 match k with
 | .u32=>K (n % 4294967296)
 | .u64=>K (n % 18446744073709551616)
 |k=>cu k n/\K n
structure OQ where
 pure:FuncId->List SV->(SV->Prop)->Prop
 own:FuncId->List SV->cj->(SV->cj->Prop)->Prop
structure ja where
 C:OQ
 ty:TypeId->Option bp
 mt:List Nat×Bool->Option (bp×bp)
 sp:Nat->Option (Nat×Nat×Nat):=λ_=>none
 it:FuncId->Option fz:=λ_=>none
 ro:FuncId->Bool:=λ_=>false
def sD (cs:List SV) (a:Nat):Option Nat->Option SV
 |none=>cs[a]?
 |some n=>if a+n<=cs.length then some (.agg ((cs.drop a).take n)) else none
def t8 (cs:List SV) (a:Nat):List SV->List SV
 |[]=>cs
 |v::b=>t8 (cs.set a v) (a+1) b
def jb {b:Type} (x:Option b) (K:b->Prop):Prop:=match x with|some a=>K a|none=>False
def vF {b:Type} (f:SV->(b->Prop)->Prop):List SV->(List b->Prop)->Prop
 |[],K=>K []
 |v::c,K=>f v λa=>vF f c λd=>K (a::d)
def rB (o:cj):Nat->SV->(SV->Prop)->Prop
 |_,.ud,K=>K .ud
 |_,.sc v,K=>match v with
  | .slice none 0 0=>K (.row (.i .i64) [])
  |v=>K (.sc v)
 |_,.il k n,K=>K (.il k n)
 |_,.si k n,K=>K (.si k n)
 |_,.bl b,K=>K (.bl b)
 |_,.sb b,K=>K (.sb b)
 |_,.row s l,K=>K (.row s l)
 |_,.ia t cs,K=>K (.ia t cs)
 |d+1,.agg cs,K=>vF (rB o d) cs λcs'=>K (.agg cs')
 |d+1,.bI cs,K=>vF (rB o d) cs λcs'=>K (.bI cs')
 |d+1,.fn f a b,K=>vF (rB o d) a λa'=>vF (rB o d) b λb'=>K (.fn f a' b')
 |_+1,.ow id n sz,K=>match o[id]? with
  |some (.row s l _ _)=>if sz=s.sz then n=l.length/\K (.row s l) else False
  |_=>False
 |_+1,.os id off len n sz,K=>match o[id]? with
  |some (.row s l _ _)=>if sz=s.sz then n=l.length/\off+len<=n/\K (.row s ((l.drop off).take len)) else False
  |_=>False
 |_,_,_=>False
def mI (o:cj) (a:SV) (n:Option Nat) (K:SV->Prop):Prop:=
 match a with
 | .ptr h b d=>match o[h]? with
  |some (.cells c _ _ _)=>if c.length=d then jb (sD c b n) K else False
  |_=>False
 | .ap h e g f d i=>match o[h]? with
  |some (.cells c _ _ _)=>if c.length=d/\e+g*f<=d then i<f/\zJ ((c.drop e).take (g*f)) g i n K else False
  |_=>False
 | .ep s l i b=>i<l.length/\jb (sD (encS s (bj l i s.dflt)) b n) K
 | .rp h i b m g=>match o[h]? with
  |some (.row s l _ _)=>if g=s.sz then m=l.length/\i<l.length/\jb (sD (encS s (bj l i s.dflt)) b n) K else False
  |_=>False
 |_=>False
where
 zJ (c:List SV) (g i:Nat) (n:Option Nat) (K:SV->Prop):Prop:=
  match n,g with
  |none,1=>match ints c with
   |some l=>K (.si .i64 (bj l i 0))
   |none=>match rowsOff c with
    |some l=>K (.row .off (bj l i []))
    |none=>False
  |_,_=>False;rowsOff:List SV->Option (List (List Off))
  |[]=>some []
  | .row .off l::c=>(rowsOff c).map (l::·)
  |_=>none
def mkK (bD:Nat) (x:bq) (o:cj) (K:cj->Prop):Prop:=
 match o[bD]? with
 |some .dead=>K (o.set bD x)
 |_=>False
def sE (a:List (Nat×Nat×SV)) (cs:List SV):Option (List SV):=
 match a with
 |[]=>some cs
 |(b,n,v)::c=>
  if v.cellsOf.length=n/\xw v.cellsOf=true/\b+n<=cs.length then sE c (t8 cs b v.cellsOf) else none
def ua (s:bp):Nat->List SV->Option (List s.T)
 |0,[]=>some []
 |n+1,a=>match jT s (a.take s.sz),ua s n (a.drop s.sz) with
  |some x,some l=>some (x::l)
  |_,_=>none
 |_,_=>none
def vG (o:cj) (s:bp) (x:SV) (K:List s.T->Prop):Prop:=
 match x with
 | .row a l=>jb (iH a s l) K
 | .ow d n e=>match o[d]? with
  |some (.row a l _ _)=>if e=a.sz then n=l.length/\jb (iH a s l) K else False
  |_=>False
 | .os d c b n e=>match o[d]? with
  |some (.row a l _ _)=>if e=a.sz then n=l.length/\c+b<=n/\jb (iH a s ((l.drop c).take b)) K else False
  |_=>False
 | .sc (.slice none 0 0)=>K []
 |_=>False
def OS (o:cj):SV->Option (List SV)
 | .ow j 1 a=>match o[j]? with
  |some (.o5 s [] _ t)=>if s.sz=a then some t else none
  |_=>none
 |_=>none
def SV.OT:SV->Bool
 | .ow .. =>true
 |_=>false
def zK:SV->Option Int
 | .si _ n=>some n
 | .il _ n=>some n
 |_=>none
def isNil:SV->Bool
 | .sc (.slice none 0 0)=>true
 |_=>false
def fY (e:BinOp) (x y:SV) (K:SV->Prop):Prop:=
 match x,y with
 | .il k a,.il d b=>match gV e (.int k a) (.int d b) with
  |some (.int k n)=>K (.il k n)
  |some (.bool c)=>K (.bl c)
  |_=>False
 | .si k a,.si d b=>go k a d b
 | .il k a,.si d b=>go k a d b
 | .si k a,.il d b=>go k a d b
 | .sc (.string a),.sc (.string b)=>match e with
  | .eql=>K (.sb (a.toList==b.toList))
  | .neq=>K (.sb (!(a.toList==b.toList)))
  |_=>False
 |_,_=>False
where
 go (k:IntKind) (a:Int) (d:IntKind) (b:Int):Prop:=
  match e with
  | .shl=>0<=b/\b<=k.bits/\vE k (a*2^b.toNat) λn=>K (.si k n)
  | .shr=>0<=b/\b<=k.bits/\K (.si k (a / 2^b.toNat))
  | .add=>if k=d then vE k (a+b) λn=>K (.si k n) else False
  | .sub=>if k=d then vE k (a - b) λn=>K (.si k n) else False
  | .mul=>if k=d then vE k (a*b) λn=>K (.si k n) else False
  | .quo=>if k=d then b≠0/\cu k (a.tdiv b)/\K (.si k (a.tdiv b)) else False
  | .rem=>if k=d then b≠0/\K (.si k (a.tmod b)) else False
  | .and=>if k=d then K (.si k (qx k a b)) else False
  | .or=>if k=d then K (.si k (nY k a b)) else False
  | .xor=>if k=d then K (.si k (GX k a b)) else False
  | .andNot=>if k=d then K (.si k (CW k a b)) else False
  | .eql=>if k=d then K (.sb (decide (a=b))) else False
  | .neq=>if k=d then K (.sb (decide (a≠b))) else False
  | .lss=>if k=d then K (.sb (decide (a<b))) else False
  | .leq=>if k=d then K (.sb (decide (a<=b))) else False
  | .gtr=>if k=d then K (.sb (decide (b<a))) else False
  | .geq=>if k=d then K (.sb (decide (b<=a))) else False;qx (k:IntKind) (a b:Int):Int:=eY k (γi k.bits a &&&γi k.bits b).toNat;nY (k:IntKind) (a b:Int):Int:=eY k (γi k.bits a |||γi k.bits b).toNat;GX (k:IntKind) (a b:Int):Int:=eY k (γi k.bits a ^^^γi k.bits b).toNat;CW (k:IntKind) (a b:Int):Int:=eY k (γi k.bits a &&&~~~(γi k.bits b)).toNat
def GY:SV->SV->Option Bool
 | .si k a,y=>(y.int k).map λb=>decide (a=b)
 | .il k a,y=>(y.int k).map λb=>decide (a=b)
 | .sb a,y=>y.boo.map λb=>a==b
 | .bl a,y=>y.boo.map λb=>a==b
 |_,_=>none
def ub:List SV->List SV->Option Bool
 |[],[]=>some true
 |x::d,y::c=>match GY x y,ub d c with
  |some a,some b=>some (a&&b)
  |_,_=>none
 |_,_=>none
def lx:List Nat->List SV->Bool
 |[],[]=>true
 |0::a,.si _ _::b=>lx a b
 |0::a,.il _ _::b=>lx a b
 |1::a,.sb _::b=>lx a b
 |1::a,.bl _::b=>lx a b
 |_,_=>false
def nZ (a sv:bp) (x:a.T) (es:List (a.T×sv.T)):Option sv.T:=(es.find? λp=>decide (p.1=x)).map (·.2)
def sG (a sv:bp) (x:a.T) (v:sv.T):List (a.T×sv.T)->List (a.T×sv.T)
 |[]=>[(x,v)]
 |p::r=>if p.1=x then(x,v)::r else p::sG a sv x v r
def vH (a:Bool):SV->Bool
 | .agg _=>a
 |_=>!a
def bp.keyed:bp->Bool
 | .key| .sit| .i _=>true
 |_=>false
def oa (d:Nat):Option SV->(Nat->Prop)->Prop
 |none,K=>K d
 |some (.il _ n),K=>if 0<=n then K n.toNat else False
 |some (.si _ n),K=>0<=n/\K n.toNat
 |_,_=>False
def uf:List Int->Nat->Int->Nat->List Int
 |[],_,_,_=>[]
 |a::l,i,v,j=>(if i=j then v else a)::uf l i v (j+1)
def CX:SV->(SV->Prop)->Prop
 | .ite c a b,K=>(c=true->CX a K)/\(c=false->CX b K)
 |v,K=>K v
def SV.G:SV->AV
 | .ite c a b=>match c with
  |true=>a.G
  |false=>b.G
 |v=>v.g
def eT (p:ja) (op:cJ) (ρ:Operand->SV) (o:cj) (bD:Nat) (K:SV->cj->Prop):Prop:=
 match op with
 | .uZ x=>K (ρ x) o
 | .pick c a b=>match ρ c with
  | .bl true=>K (ρ a) o
  | .bl false=>K (ρ b) o
  | .sb c=>(c=true->K (ρ a) o)/\(c=false->K (ρ b) o)
  |_=>False
 | .alloc z e pu=>mkK bD (.cells (z.map .o7) e z.length pu) o λo'=>K (.ptr bD 0 z.length) o'
 | .box e x=>if xw (ρ x).cellsOf then mkK bD (.cells (ρ x).cellsOf e (ρ x).cellsOf.length false) o λo'=>K (.ptr bD 0 (ρ x).cellsOf.length) o' else False
 | .build z parts=>jb (sE (parts.map λq=>(q.1,q.2.1,ρ q.2.2)) (z.map .o7)) λcs=>K (.agg cs) o
 | .pD z len parts e sz=>match p.ty e,sE (parts.map λq=>(q.1,sz,ρ q.2)) ((δ len (z.map SV.o7)).flatten) with
  |some s,some cs=>if s.sz=sz then(if cs.any SV.OT then(if cs.length=len*sz then mkK bD (.o5 s [] e cs) o λo'=>K (.ow bD len sz) o' else False) else jb (ua s len (cs.map SV.qn)) λl=>mkK bD (.row s l e true) o λo'=>K (.ow bD len sz) o') else False
  |_,_=>False
 | .tC z len parts e sz=>match p.ty e,sE (parts.map λq=>(q.1,sz,ρ q.2)) ((δ len (z.map SV.o7)).flatten) with
  |some s,some cs=>if s.sz=sz then jb (ua s len (cs.map SV.qn)) λl=>K (.row s l) o else False
  |_,_=>False
 | .load n a=>mI o (ρ a) n λv=>K v o
 | .store n a x=>match ρ a with
  | .ptr id off tot=>match o[id]? with
   |some (.cells cs e sz pu)=>
    if cs.length=tot/\(ρ x).cellsOf.length=n/\xw (ρ x).cellsOf=true/\off+n<=cs.length/\(pu=false\/zI (ρ x).cellsOf=true) then K .ud (o.set id (.cells (t8 cs off (if pu then(ρ x).cellsOf.map SV.qn else(ρ x).cellsOf)) e sz pu)) else False
   |_=>False
  | .rp id i off m sz=>match o[id]? with
   |some (.row s l e pu)=>
    if sz=s.sz/\(ρ x).cellsOf.length=n/\off+n<=s.sz then m=l.length/\i<l.length/\jb (jT s (t8 (encS s (bj l i s.dflt)) off (if pu then(ρ x).cellsOf.map SV.qn else(ρ x).cellsOf))) λv=>K .ud (o.set id (.row s (l.set i v) e pu)) else False
   |_=>False
  | .ap id base sz len tot i=>match o[id]? with
   |some (.cells cs e sz' pu)=>match n,sz,(ρ x).int .i64 with
    |1,1,some v=>match ints ((cs.drop base).take len) with
     |some l=>if cs.length=tot/\base+len<=tot then i<len/\K .ud (o.set id (.cells (t8 cs base ((uf l i v 0).map (SV.si .i64))) e sz' pu)) else False
     |none=>False
    |_,_,_=>False
   |_=>False
  |_=>False
 | .u7 x=>match ρ x with
  | .ptr a b c=>K (.ptr a b c) o
  | .rp a b c d e=>K (.rp a b c d e) o
  | .ep s l i f=>K (.ep s l i f) o
  |_=>False
 | .bin op x y=>fY op (ρ x) (ρ y) λv=>K v o
 | .beq neg x y=>match(ρ x).boo,(ρ y).boo with
  |some a,some b=>K (.sb (if neg then !(a==b) else a==b)) o
  |_,_=>False
 | .sf neg ks x y=>match ρ x,ρ y with
  | .agg a,.agg b=>if lx ks a&&lx ks b then jb (ub a b) λr=>K (.sb (if neg then !r else r)) o else False
  |_,_=>False
 | .tG neg x y=>match ρ x,ρ y with
  | .ptr _ _ _,.sc (.pointer none)=>K (.bl neg) o
  | .sc (.pointer none),.sc (.pointer none)=>K (.bl !neg) o
  |_,_=>False
 | .un op x=>match op,ρ x with
  | .not,.sb b=>K (.sb !b) o
  | .not,.bl b=>K (.bl !b) o
  | .neg,.si k n=>cu k (-n)/\K (.si k (-n)) o
  | .neg,.il k n=>K (.il k (eY k (0 - n))) o
  |_,_=>False
 | .conv k x=>match ρ x with
  | .il _ n=>K (.il k (eY k n)) o
  | .si .i64 n=>cu k n/\K (.si k n) o
  | .si _ n=>vE k n λm=>K (.si k m) o
  |_=>False
 | .vd off x=>match ρ x with
  | .ptr id b tot=>K (.ptr id (b+off) tot) o
  | .ep s l i b=>K (.ep s l i (b+off)) o
  | .rp id i b m sz=>K (.rp id i (b+off) m sz) o
  |_=>False
 | .field off n x=>match ρ x with
  | .agg cs=>jb (sD cs off n) λv=>K v o
  |_=>False
 | .ve len sz x i=>match ρ i with
  | .il _ n=>if 0<=n/\n<len then(match ρ x with
   | .ptr id b tot=>K (.ptr id (b+n.toNat*sz) tot) o
   | .ep s l j b=>K (.ep s l j (b+n.toNat*sz)) o
   | .rp id j b m sz'=>K (.rp id j (b+n.toNat*sz) m sz') o
   |_=>False) else False
  | .si _ n=>match ρ x with
   | .ptr id b tot=>0<=n/\n<len/\K (.ap id b sz len tot n.toNat) o
   |_=>False
  |_=>False
 | .sg sz x i=>match zK (ρ i) with
  |some n=>match ρ x with
   | .row s l=>if sz=s.sz then 0<=n/\n<l.length/\K (.ep s l n.toNat 0) o else False
   | .ow id m sz'=>match o[id]? with
    |some (.row s l _ _)=>if sz=s.sz/\sz'=s.sz then m=l.length/\0<=n/\n<l.length/\K (.rp id n.toNat 0 m sz) o else False
    |_=>False
   | .os id off len m sz'=>match o[id]? with
    |some (.row s l _ _)=>if sz=s.sz/\sz'=s.sz then m=l.length/\0<=n/\n<len/\off+len<=m/\K (.rp id (off+n.toNat) 0 m sz) o else False
    |_=>False
   | .oc id off len m sz'=>match o[id]? with
    |some (.row s l _ _)=>if sz=s.sz/\sz'=s.sz then m=l.length/\0<=n/\n<len/\off+len<=m/\K (.rp id (off+n.toNat) 0 m sz) o else False
    |_=>False
   |_=>False
  |none=>False
 | .idx len sz n x i=>match ρ i,ρ x with
  | .il _ k,.agg cs=>if 0<=k/\k<len then jb (sD cs (k.toNat*sz) n) λv=>K v o else False
  | .si _ k,.agg cs=>match n,sz,ints cs with
   |none,1,some l=>if l.length=len then 0<=k/\k<len/\K (.si .i64 (bj l k.toNat 0)) o else False
   |_,_,_=>False
  |_,_=>False
 | .qe z e sz bytes l c pu=>match zK (ρ l),zK (ρ c),p.ty e with
  |some n,some m,some s=>if s.sz=sz then jb (jT s (if pu then(z.map SV.o7).map SV.qn else z.map .o7)) λx=>0<=n/\n<=m/\m*bytes<=140737488355328/\m<=1000000000000/\
    mkK bD (.row s (δ n.toNat x) e pu) o λo'=>K (.ow bD n.toNat sz) o' else False
  |_,_,_=>False
 | .slice sz x lo hi=>match ρ x with
  | .row s l=>if sz=s.sz then oa 0 (lo.map ρ) λa=>oa l.length (hi.map ρ) λb=>a<=b/\b<=l.length/\K (.row s ((l.drop a).take (b - a))) o else False
  | .ow id m sz'=>match o[id]? with
   |some (.row s l _ _)=>if sz=s.sz/\sz'=s.sz then m=l.length/\oa 0 (lo.map ρ) λa=>oa m (hi.map ρ) λb=>a<=b/\b<=m/\K (.os id a (b - a) m sz) o else False
   |_=>False
  | .os id off len m sz'=>match o[id]? with
   |some (.row s l _ _)=>if sz=s.sz/\sz'=s.sz then m=l.length/\oa 0 (lo.map ρ) λa=>oa len (hi.map ρ) λb=>a<=b/\b<=len/\K (.os id (off+a) (b - a) m sz) o else False
   |_=>False
  |_=>False
 | .slice3 sz x lo hi mx=>match ρ x with
  | .row s l=>if sz=s.sz then oa 0 (lo.map ρ) λa=>oa l.length (some (ρ hi)) λb=>oa l.length (some (ρ mx)) λm=>a<=b/\b<=m/\m<=l.length/\K (.row s ((l.drop a).take (b - a))) o else False
  | .ow id n sz'=>match o[id]? with
   |some (.row s l _ _)=>if sz=s.sz/\sz'=s.sz then n=l.length/\oa 0 (lo.map ρ) λa=>oa n (some (ρ hi)) λb=>oa n (some (ρ mx)) λm=>a<=b/\b<=m/\m<=n/\K (.oc id a (b - a) n sz) o else False
   |_=>False
  |_=>False
 | .append e sz bytes s x pu=>match p.ty e,OS o (ρ x) with
  |some t,some tl=>match ρ s,ρ x with
   | .ow id n sz',.ow _ _ Zs=>match o[id]? with
    |some (.row t' l e' GZ)=>if e'=e/\t'.sz=sz/\sz'=sz/\Zs=sz/\t.sz=sz/\GZ=false/\tl.length=sz/\xw tl=true then n=l.length/\(l.length+1)*bytes<=140737488355328/\l.length+1<=1000000000000/\
      K (.ow id (l.length+1) sz) (o.set id (.o5 t' l e tl)) else False
    |_=>False
   |_,_=>False
  |some t,none=>if t.sz=sz then vG o t (ρ x) λnew=>match ρ s with
    | .sc (.slice none 0 0)=>(new.length=0->K (.sc zf) o)/\(new.length≠0->new.length*bytes<=140737488355328/\new.length<=1000000000000/\mkK bD (.row t new e pu) o λo'=>K (.ow bD new.length sz) o')
    | .ow id n sz'=>match o[id]? with
     |some (.row t' l e' GZ)=>if e'=e/\t'.sz=sz/\sz'=sz then n=l.length/\(l.length+new.length)*bytes<=140737488355328/\l.length+new.length<=1000000000000/\
       jb (iH t' t l) λl'=>K (.ow id (l'++new).length sz) (o.set id (.row t (l'++new) e GZ)) else False
     |_=>False
    | .row t' l=>new.length=0/\K (.row t' l) o
    |_=>False
   else False
  |none,_=>False
 | .len k x=>match k,ρ x with
  |0,.row _ l=>K (.si .i64 l.length) o
  |0,.ow _ n _=>K (.si .i64 n) o
  |0,.os _ _ len _ _=>K (.si .i64 len) o
  |0,.oc _ _ len _ _=>K (.si .i64 len) o
  |0,.sc (.slice none 0 0)=>K (.il .i64 0) o
  |1,.sc (.string s)=>K (.si .i64 s.size) o
  |2,.mp id=>match o[id]? with
   |some (.map _ _ _ es _ _)=>K (.si .i64 es.length) o
   |_=>False
  |_,_=>False
 | .vg n=>K (.il .i64 n) o
 | .mm mx x y=>match ρ x,ρ y with
  | .il k a,.il k' b=>if k=k' then K (.il k (if mx then(if b>a then b else a) else(if b<a then b else a))) o else False
  | .si k a,y=>jb (y.int k) λb=>K (.si k (if mx then max a b else min a b)) o
  | .il k a,y=>jb (y.int k) λb=>K (.si k (if mx then max a b else min a b)) o
  |_,_=>False
 | .call f args own=>zL p f (args.map ρ) o own K
 | .jS f args own=>match ρ f with
  | .fn (.func g) first captured=>zL p g (first++args.map ρ++captured) o own K
  |_=>False
 | .extract x i=>match ρ x with
  | .bI vs=>jb vs[i]? λv=>K v o
  |_=>False
 | .tH f first captured=>K (.fn f (first.map ρ) (captured.map ρ)) o
 | .vh t x=>match ρ x with
  | .agg cs=>if zI cs=true then K (.ia t cs) o else False
  |_=>False
 | .oQ tab x args=>match ρ x with
  | .ia t cs=>match vj tab t with
   |some f=>zL p f (.agg cs::args.map ρ) o false K
   |none=>False
  |_=>False
 | .qf kt pu=>match p.mt kt with
  |some (sk,sv)=>mkK bD (.map sk sv kt.2 [] kt pu) o λo'=>K (.mp bD) o'
  |none=>False
 | .lookup z agg ks ka x k ok=>match ρ x with
  | .mp id=>match o[id]? with
   |some (.map sk sv xx es kt _)=>
    if kt=(ks,ka)/\xx=ka/\sk.keyed=true/\sv.xu=true/\agg=false/\(ka=false->sk.sz=1)/\lx ks (ρ k).cellsOf=true/\vH ka (ρ k)=true then
     jb (jT sk (ρ k).cellsOf) λkv=>jb (jT sv (z.map .o7)) λzv=>
      let r:=(encS sv ((nZ sk sv kv es).getD zv)).headD .ud;K (if ok then .bI [r,.sb (nZ sk sv kv es).isSome] else r) o
    else False
   |_=>False
  |_=>False
 | .q9 ks ka x k v=>match ρ x with
  | .mp id=>match o[id]? with
   |some (.map sk sv xx es kt pu)=>
    if kt=(ks,ka)/\xx=ka/\sk.keyed=true/\sv.xu=true/\(ka=false->sk.sz=1)/\lx ks (ρ k).cellsOf=true/\vH ka (ρ k)=true/\vH false (ρ v)=true then
     jb (jT sk (ρ k).cellsOf) λkv=>jb (jT sv (ρ v).cellsOf) λvv=>K .ud (o.set id (.map sk sv xx (sG sk sv kv vv es) kt pu))
    else False
   |_=>False
  |_=>False
 |_=>False
where
 zL (p:ja) (f:FuncId) (args:List SV) (o:cj) (own:Bool) (K:SV->cj->Prop):Prop:=
  if own then p.C.own f args o K
  else vF (rB o 6) args λargs'=>p.C.pure f args' λr=>if(args.flatMap (λv=>fw (o.map bq.g) 6 v.g)).isEmpty||r.kW then K r o else False
def xy:fD->Nat->SV->fD
 |[],_,_=>[]
 |p::r,s,v=>bif δs p.1 s then(p.1,v)::r else p::xy r s v
def G0 (env:fD) (g:Option (Option Nat×Bool)) (K:fD->Bool->Prop):Prop:=
 match g with
 |none=>K env true
 |some (none,_)=>False
 |some (some s,b)=>match jU env s with
  | .bl c=>K env (c==b)
  | .sb c=>(c=true->K (xy env s (.bl true)) (true==b))/\(c=false->K (xy env s (.bl false)) (false==b))
  | .bI []=>K env false
  |_=>False
def SV.same (v w:SV):Prop:=v.g=w.g
def SV.sH (v:SV):SV->Prop
 | .ite c a b=>(c=true->v.sH a)/\(c=false->v.sH b)
 |w=>v.same w
def bq.same (x y:bq):Prop:=x.g=y.g
def kH:cj->cj->Prop
 |[],[]=>True
 |x::o,y::a=>x.same y/\kH o a
 |_,_=>False
def OU (p:ja) (a:cJ) (o o':cj) (K:Bool->Prop):Prop:=
 match a with
 | .call f _ true=>if p.ro f=true then kH o o'/\K true else K false
 |_=>K false
def xA (p:ja) (base:Nat):List dC->cy->Trace->(cy->Trace->Prop)->Prop
 |[],b,c,K=>K b c
 |i::r,b,c,K=>G0 b.env i.guard λa w=>
   if w then eT p i.op (jI a) b.o (base+i.bD) λv d=>OU p i.op b.o d λe=>xA p base r ⟨vD a i.dst v,d⟩ ((i.idx,dR i.op (λx=>(jI a x).g) (b.o.map bq.g) (base+i.bD),if e then[] else wrt i.op (λx=>(jI a x).g) (b.o.map bq.g) (base+i.bD))::c) K
   else xA p base r ⟨vD a i.dst (.bI []),b.o⟩ ((i.idx,[],[])::c) K
def bq.mZ:bq->Bool
 | .dead=>true
 |_=>false
def G2 (base:Nat) (o:cj):cj:=if(o.drop base).all (·.mZ) then o.take base else o
def G3 (p:ja) (k:Nat) (c:List dC) (b:List (Nat×Nat)) (st:cy) (K:cy->Prop):Prop:=
 xA p st.o.length c ⟨st.env,st.o++δ k .dead⟩ [] λa d=>
  if b.isEmpty||tL (st.o.length+k) d.reverse b then K ⟨a.env,if k=0 then a.o else G2 st.o.length a.o⟩ else False
mutual
def jJ (id:Nat) (s:bp) (l:List s.T):SV->(SV->Prop)->Prop
 | .ow j n m,K=>if j=id then(if m=s.sz then n=l.length/\K (.row s l) else False) else K (.ow j n m)
 | .os j h g n m,K=>if j=id then(if m=s.sz then n=l.length/\h+g<=n/\K (.row s ((l.drop h).take g)) else False) else K (.os j h g n m)
 | .oc j h g n m,K=>if j=id then False else K (.oc j h g n m)
 | .rp j i f n m,K=>if j=id then False else K (.rp j i f n m)
 | .ptr j f t,K=>if j=id then False else K (.ptr j f t)
 | .ap j a b c d e,K=>if j=id then False else K (.ap j a b c d e)
 | .agg o,K=>rC id s l o λk=>K (.agg k)
 | .bI o,K=>rC id s l o λk=>K (.bI k)
 | .fn f a b,K=>rC id s l a λp=>rC id s l b λr=>K (.fn f p r)
 |v,K=>K v
def rC (id:Nat) (s:bp) (l:List s.T):List SV->(List SV->Prop)->Prop
 |[],K=>K []
 |c::o,K=>jJ id s l c λq=>rC id s l o λk=>K (q::k)
end
def zM (id:Nat) (s:bp) (l:List s.T):fD->(fD->Prop)->Prop
 |[],K=>K []
 |(k,v)::r,K=>jJ id s l v λa=>zM id s l r λb=>K ((k,a)::b)
def ob (id:Nat) (s:bp) (l:List s.T):Nat->cj->(cj->Prop)->Prop
 |_,[],K=>K []
 |i,x::r,K=>match x with
  | .cells g e h b=>if b then(if i=id then False else ob id s l (i+1) r λa=>K (.cells g e h b::a)) else rC id s l g λd=>ob id s l (i+1) r λa=>K (.cells d e h b::a)
  | .o5 c f e t=>if i=id then False else rC id s l t λj=>match ua c 1 j with
   |some m=>ob id s l (i+1) r λa=>K (.row c (f++m) e false::a)
   |none=>False
  | .row c f e b=>if i=id then(if b then ob id s l (i+1) r λa=>K (.dead::a) else False) else ob id s l (i+1) r λa=>K (.row c f e b::a)
  |x=>ob id s l (i+1) r λa=>K (x::a)
def ug (p:ja) (lo:Nat) (h:kB) (st:cy) (K:cy->Prop):Prop:=
 if h.own then match h.off with
  |none=>if isNil (jU st.env h.slot) then(match p.ty h.e with
    |some s=>if s.sz=h.sz then K ⟨(h.slot,.ow st.o.length 0 h.sz)::st.env,st.o++[.row s [] h.e h.pu]⟩ else False
    |none=>False) else if h.sz=0 then(match jU st.env h.slot with
     | .ow a _ _=>match st.o[a]? with
      |some (.row s l e true)=>K ⟨st.env,st.o.set a (.row s l e false)⟩
      |_=>False
     |_=>False) else K st
  |some k=>match jU st.env h.slot with
   | .ptr a b c=>match st.o[a]? with
    |some (.cells d e i f)=>if(d[b+k]?).any isNil then(if d.length=c/\f=false then(match p.ty h.e with
      |some s=>if s.sz=h.sz then K ⟨st.env,(st.o.set a (.cells (d.set (b+k) (.ow st.o.length 0 h.sz)) e i f))++[.row s [] h.e h.pu]⟩ else False
      |none=>False) else False) else K st
    |_=>False
   |_=>False
 else match OV h st with
  |some (some a)=>if Nat.ble lo a then(match st.o[a]? with
   |some (.row s l e f)=>zM a s l st.env λg=>ob a s l 0 (if f then st.o else st.o.set a (.row s l e true)) λo=>K ⟨g,o⟩
   |_=>False) else K st
  |some none=>K st
  |none=>False
where
 xB:SV->Option Nat
  | .ow a .. =>some a
  | .os a .. =>some a
  | .oc a .. =>some a
  |_=>none;OV (h:kB) (st:cy):Option (Option Nat):=
  match h.off with
  |none=>some (xB (jU st.env h.slot))
  |some k=>match jU st.env h.slot with
   | .ptr a b c=>match st.o[a]? with
    |some (.cells d _ _ _)=>if d.length=c then(d[b+k]?).map xB else none
    |_=>none
   |_=>none
def zO (p:ja) (lo:Nat):List kB->cy->(cy->Prop)->Prop
 |[],st,K=>K st
 |h::hs,st,K=>ug p lo h st λst'=>zO p lo hs st' K
def G4 (a:List Nat) (env:fD):fD:=a.map λs=>(s,jU env s)
def trimS (k:Nat) (st:cy):cy:=
 if st.o.length<=k then st
 else if(st.env.all λp=>p.2.bZ k)&&((st.o.take k).all λx=>x.bZ k) then⟨st.env,st.o.take k⟩ else st
def xC:fD->fD->Prop
 |[],[]=>True
 |(k,v)::e,(b,c)::a=>if k=b then v.same c/\xC e a else False
 |_,_=>False
def zP (s t:cy):Prop:=xC s.env t.env/\kH s.o t.o
def iS (s:cy) (k:Nat):Int:=match jU s.env k with
 | .si _ n=>n
 | .il _ n=>n
 |_=>0
def bS (s:cy) (k:Nat):Bool:=match jU s.env k with
 | .sb b=>b
 | .bl b=>b
 |_=>false
def rS (t:bp) (s:cy) (k:Nat):List t.T:=match jU s.env k with
 | .row a l=>match iH a t l with
  |some l=>l
  |none=>[]
 |_=>[]
def oS (t:bp) (s:cy) (id:Nat):List t.T:=match s.o[id]? with
 |some (.row a l _ _)=>match iH a t l with
  |some l=>l
  |none=>[]
 |_=>[]
def splitN (v:Int) (n:Nat) (K:Nat->Prop):Nat->Prop
 |0=>0<=v/\v<n
 |j+1=>(v=(n - (j+1):Nat)->K (n - (j+1)))/\splitN v n K j
def splitK (x:Option (Nat×Nat×Nat)) (st:cy) (K:cy->Prop):Prop:=
 match x with
 |none=>K st
 |some (b,a,n)=>match st.o[b]? with
  |some (.cells c e f d)=>match c[a]? with
   |some (.si k v)=>splitN v n (λj=>K ⟨st.env,st.o.set b (.cells (c.set a (.il k j)) e f d)⟩) n
   |_=>False
  |_=>False
inductive cG where
 |qy (n:Nat)
 |look
 |inv (X:Type) (shape:X->cy) (next:cy->X) (J:X->Prop) (m:X->Nat) (inner:X->Nat->cG)
def Look (_:cy):Prop:=False
def vI:IR->Nat
 | .region c .. =>c
 | .seq .skip b=>vI b
 | .seq a _=>vI a
 | .block _ b=>vI b
 | .loop b=>vI b
 | .turns _ b=>vI b
 |_=>0
def G5 (W:cy->(Out->cy->Prop)->Prop) (Q:Out->cy->Prop):Nat->cy->Prop
 |0,_=>False
 |n+1,b=>W b λa s=>match a with
  | .norm=>G5 W Q n (trimS b.o.length s)
  |o=>Q o s
def zQ (t:Nat):fD->fD
 |[]=>[]
 |p::r=>bif δs p.1 t then zQ t r else p::zQ t r
def xE (x:Operand) (env:fD):fD:=
 match x with
 | .tmp t=>zQ t env
 |_=>env
def CY (env:fD) (x:Operand) (v:SV):fD:=
 match x with
 | .tmp t=>xy env t v
 |_=>env
def wpS (p:ja) (lo:Nat):IR->(Nat->cG)->cy->(Out->cy->Prop)->Prop
 | .skip,_,st,Q=>Q .norm st
 | .region id draw k ops kC live pre post,_,st,Q=>splitK (p.sp id) st λst0=>zO p lo pre st0 λst1=>G3 p k ops kC st1 λst2=>zO p lo post ⟨G4 live st2.env,st2.o⟩ λG6=>Q .norm G6
 | .seq a b,Λ,st,Q=>wpS p lo a Λ st λout s=>match out with
  | .norm=>wpS p lo b Λ s Q
  |o=>Q o s
 | .cond x a b,Λ,st,Q=>match jI st.env x with
  | .bl true=>wpS p lo a Λ ⟨xE x st.env,st.o⟩ Q
  | .bl false=>wpS p lo b Λ ⟨xE x st.env,st.o⟩ Q
  | .sb c=>(c=true->wpS p lo a Λ ⟨xE x st.env,st.o⟩ Q)/\(c=false->wpS p lo b Λ ⟨xE x st.env,st.o⟩ Q)
  |_=>False
 | .block id b,Λ,st,Q=>wpS p lo b Λ st λout s=>Q (out.inBlock id) s
 | .loop b,Λ,st,Q=>match Λ (vI b) with
  | .qy n=>G5 (wpS p lo b Λ) Q n st
  | .look=>Look st
  | .inv _ shape next J m inner=>(zP st (shape (next st))/\J (next st))/\∀x,J x->wpS p lo b (inner x) (shape x) λout s=>match out with
   | .norm=>zP (trimS (shape x).o.length s) (shape (next (trimS (shape x).o.length s)))/\J (next (trimS (shape x).o.length s))/\m (next (trimS (shape x).o.length s))<m x
   |o=>Q o s
 | .exit id,_,st,Q=>Q (.exit id) st
 | .ret,_,st,Q=>Q .ret st
 | .goto l,_,st,Q=>Q (.goto l) st
 | .oR x a b,Λ,st,Q=>match jI st.env x with
  | .bl true=>wpS p lo a Λ st Q
  | .bl false=>wpS p lo b Λ st Q
  | .sb c=>(c=true->wpS p lo a Λ ⟨CY st.env x (.bl true),st.o⟩ Q)/\(c=false->wpS p lo b Λ ⟨CY st.env x (.bl false),st.o⟩ Q)
  |_=>False
 | .turns none b,Λ,st,Q=>wpS p lo b Λ st λout s=>match out with
  | .goto _=>False
  |o=>Q o s
 | .turns (some l) b,Λ,st,Q=>match Λ (vI b) with
  | .inv _ shape next J m inner=>(zP st (shape (next st))/\J (next st))/\∀x,J x->wpS p lo b (inner x) (shape x) λout s=>match out with
   | .goto l'=>l'=l/\zP (trimS (shape x).o.length s) (shape (next (trimS (shape x).o.length s)))/\J (next (trimS (shape x).o.length s))/\m (next (trimS (shape x).o.length s))<m x
   |o=>Q o s
  |_=>Look st
 | .tJ ..,_,_,_=>False
def nu:Nat->List SV->fD
 |_,[]=>[]
 |i,v::a=>(i,v)::nu (i+1) a
def od (st:cy) (a:List ng) (K:SV->Prop):Prop:=
 goK a λl=>match l with
  |[v]=>K v
  |l=>K (.bI l)
where
 goK:List ng->(List SV->Prop)->Prop
  |[],K=>K []
  |r::a,K=>OW r λv=>goK a λl=>K (v::l);OW (r:ng) (K:SV->Prop):Prop:=match r.cell with
  |none=>K (jU st.env r.slot)
  |some n=>mI st.o (jU st.env r.slot) n K
def uh (p:ja) (Λ:Nat->cG) (F:fz) (args:List SV) (Q:SV->Prop):Prop:=
 wpS p 0 F.body Λ ⟨nu 0 args,[]⟩ λa b=>match a with
  | .exit _=>False
  | .goto _=>False
  |_=>od b F.res λr=>rB b.o 6 r Q
def zR (p:ja) (Λ:Nat->cG) (F:fz) (args:List SV) (o:cj) (Q:SV->cj->Prop):Prop:=
 wpS p o.length F.body Λ ⟨nu 0 args,o⟩ λb a=>match b with
  | .exit _=>False
  | .goto _=>False
  |_=>od a F.res λr=>if r.bZ o.length&&a.o.all (λx=>x.bZ o.length)&&decide (o.length<=a.o.length) then Q r (a.o.take o.length) else False
def gE (env:fD):jD:=env.map λp=>(p.1,p.2.g)
def gO (o:cj):Store:=o.map bq.g
def cy.g (st:cy):St:=⟨gE st.env,gO st.o⟩
theorem og:∀(env:fD) (s:Nat),dL (gE env) s=(jU env s).g
 |[],_=>by simp[gE,dL,jU,γF];|p::r,s=>by
  have:=og r s;grind[gE,dL,jU]
theorem OX (env:fD) (d:Option Nat) (v:SV):gE (vD env d v)=oP (gE env) d v.g:=by
 cases d<;>simp[vD,oP,gE]
theorem OY (v:Value):(SV.o7 v).g= .sc v:=by cases v<;>simp[SV.o7,γF]
theorem G7 (l:List Value):(l.map SV.o7).map γF=l.map .sc:=by simp[OY]
theorem zS (env:fD) (x:Operand):eK (gE env) x=(jI env x).g:=by
 cases x with
 |tmp t=>simp[eK,jI,og];|const v=>
  cases v<;>simp[eK,jI,AV.uY,SV.uY,γF];split<;>simp[γF,gl,OY];|global g=>simp[eK,jI,γF];|func f=>simp[eK,jI,γF,gL]
theorem OZ (env:fD):eK (gE env)=λx=>(jI env x).g:=funext λx=>zS env x
theorem CZ (v:SV):v.g.cellsOf=gL v.cellsOf:=by
 cases v<;>simp[γF,AV.cellsOf,SV.cellsOf,gL]
theorem Zt (v:SV):v.g.one=v.one:=by
 cases v<;>simp[γF,AV.one,SV.one,Value.oneCell']
theorem C0 (l:List SV):eM (gL l)=xw l:=by
 induction l<;>grind[gL,eM,xw,Zt]
theorem G8:∀(l:List SV),zI l=true->dB (gL l)=true
 |[],_=>by simp[gL,dB];|v::l,h=>by
  simp only[zI,θ] at h;simp only[gL,dB,G8 l h.2,δT];have a:=h.1;cases v<;>simp[SV.pure] at a<;>simp[γF,AV.pure,o6]
mutual
theorem zT (k:Nat):∀(v:SV),v.g.bZ k=v.bZ k
 | .agg c=>by simp only[γF,AV.bZ,SV.bZ];exact vJ k c;| .bI c=>by simp only[γF,AV.bZ,SV.bZ];exact vJ k c;| .fn _ a b=>by simp only[γF,AV.bZ,SV.bZ,vJ k a,vJ k b];| .ud| .sc _| .il .. | .si .. | .bl _| .sb _| .row .. | .ep .. | .ptr .. | .ap .. | .rp .. | .ow .. | .os .. | .oc .. | .mp _| .ia _ _| .ite _ _ _=>by simp[γF,AV.bZ,SV.bZ]
theorem vJ (k:Nat):∀(l:List SV),ez k (gL l)=sC k l
 |[]=>by simp[gL,ez,sC];|v::l=>by simp only[gL,ez,sC,zT k v,vJ k l]
end
theorem Zu (k:Nat) {b sv:bp} (c:Bool) (es:List (b.T×sv.T)):ez k ((es.map λp=>(pM b c p.1,nn sv p.2)).map (·.2))=true:=
 GU λa h=>by
  simp only[γO,Θ,Function.comp] at h;grind[nn,AV.bZ]
theorem C2 (k:Nat) (x:bq):x.g.bZ k=x.bZ k:=by
 cases x with
 |dead=>rfl;|cells n e m d=>simp[bq.g,bR.bZ,bq.bZ,vJ];|row s l e d=>simp[bq.g,bR.bZ,bq.bZ,OL];|o5 s l e t=>
  have c:∀a b:List AV,ez k (a++b)=(ez k a&&ez k b):=λa b=>by
   induction a<;>grind[ez]
  grind[bq.g,bR.bZ,bq.bZ,OL,vJ];|map i o f j h d=>simp only[bq.g,bR.bZ,bq.bZ,Zu,Bool.or_true]
mutual
theorem O0:∀(v:SV),v.kW=true->v.g.kW=true
 | .agg a,h=>by simp only[SV.kW] at h;simp only[γF,AV.kW];exact G9 a h;| .bI a,h=>by simp only[SV.kW] at h;simp only[γF,AV.kW];exact G9 a h;| .ud,_| .sc _,_| .il ..,_| .si ..,_| .bl _,_| .sb _,_=>by simp[γF,AV.kW];| .row ..,h| .ep ..,h| .ptr ..,h| .ap ..,h| .rp ..,h| .ow ..,h| .os ..,h| .oc ..,h| .mp _,h| .fn ..,h| .ia _ _,h| .ite _ _ _,h=>by simp[SV.kW] at h
theorem G9:∀(l:List SV),CV l=true->vi (gL l)=true
 |[],_=>by simp[gL,vi];|v::l,h=>by
  simp only[CV,θ] at h;simp only[gL,vi,O0 v h.1,G9 l h.2,δT]
end
theorem jW (l:List SV):(gL l).length=l.length:=by simp[gl]
theorem ui (l:List SV) (i:Nat):(gL l)[i]?=(l[i]?).map γF:=by simp[gl]
theorem uj (a b:List SV):gL (a++b)=gL a++gL b:=by simp[gl]
theorem C4 {cs:List SV} {a:Nat} {n:Option Nat} {v:SV} (h:sD cs a n=some v):gu (gL cs) a n=some v.g:=by
 cases n with
 |none=>grind[sD,gu,ui];|some m=>
  simp only[sD] at h;split at h
  ·rename_i b;simp only[γ] at h;subst h;simp_all[gu,γF,gl]
  ·cases h
theorem zU:∀(vs cs:List SV) (a:Nat),gL (t8 cs a vs)=gi (gL cs) a (gL vs)
 |[],cs,a=>by simp[t8,gL,gi];|v::vs,cs,a=>by
  simp only[t8,gL,gi];rw[zU vs];simp_all[gl]
theorem Ha (cs:List SV):gL (cs.map SV.qn)=(gL cs).map AV.qn:=by
 simp_all[gl,Zr]
theorem He (pu:Bool) (cs:List SV):gL (if pu then cs.map SV.qn else cs)=eF pu (gL cs):=by
 grind[eF,Ha]
theorem Zv {c:AV} (h:Plain c.qn):c.one=true/\c.pure=true:=by
 by_cases a:c.qn=c
 ·rw[a] at h;exact⟨h.one,h.pure⟩
 ·unfold AV.qn at a;split at a;·exact⟨rfl,rfl⟩
  simp_all
theorem Hf {pu:Bool} {cs:List AV} (h:∀c∈eF pu cs,Plain c):eM cs=true/\dB cs=true:=by
 have b:∀c∈cs,c.one=true/\c.pure=true:=by
  intro c a;unfold eF at h;split at h;·grind[Zv]
  ·exact⟨(h c a).one,(h c a).pure⟩
 grind[eM,CS]
theorem Hh:∀(vs a b c:List AV) (d:Nat),d+vs.length<=b.length->gi (a++b++c) (a.length+d) vs=a++gi b d vs++c
 |[],a,b,c,d,_=>rfl
 |v::vs,a,b,c,d,h=>by
  simp only[γD] at h;simp only[gi];have e:(a++b++c).set (a.length+d) v=a++b.set d v++c:=by
   grind
  rw[e,εX,Hh vs a (b.set d v) c (d+1) (by simp;omega)]
theorem O1 {s:bp} {l:List s.T} {i:Nat} (h:i<l.length):cF s l=cF s (l.take i)++dP s (bj l i s.dflt)++cF s (l.drop (i+1)):=by
 have a:l=l.take i++l[i]::l.drop (i+1):=by simp
 grind[cT,cF]
theorem take_len {a:Type} {l:List a} {i:Nat} (h:i<l.length):(l.take i).length=i:=by simp;omega
theorem Zw {s:bp} {l:List s.T} {i a:Nat} {v:s.T} {vs:List AV} (h:i<l.length) (e:a+vs.length<=s.sz) (c:gi (dP s (bj l i s.dflt)) a vs=dP s v):
  gi (cF s l) (i*s.sz+a) vs=cF s (l.set i v):=by
 have d:(cF s (l.take i)).length=i*s.sz:=by rw[fe,take_len h]
 rw[O1 h,<-d,Hh _ _ _ _ _ (by grind[lT]),c];have b:i<(l.set i v).length:=by simpa using h
 rw[O1 b,cT b];simp[List.take_set_of_le,List.drop_set_of_lt]
theorem O2 {s:bp} {l:List s.T} {i b:Nat} {n:Option Nat} {v:SV} (h:i<l.length) (e:sD (encS s (bj l i s.dflt)) b n=some v):gu (cF s l) (i*s.sz+b) n=some v.g:=by
 have a:=C4 e;rw[gl,t7] at a;have c:=OP (s:=s) h;have d:(cF s l).length=i*s.sz+(s.sz+(cF s (l.drop (i+1))).length):=by
  have:=congrArg γc c;grind[lT]
 cases n with
 |none=>
  simp only[gu] at a ⊢;rw[<-List.getElem?_drop,c,List.getElem?_append_left]<;>grind;|some m=>
  simp only[gu,lT] at a;split at a
  ·rename_i f;simp only[gu];rw[if_pos (by omega),<-δj,c,List.drop_append_of_le_length (by grind[lT]),List.take_append_of_le_length (by grind[lT])];exact a
  ·cases a
theorem jo {b:Type} {x:Option b} {K:b->Prop} (h:jb x K):∃a,x=some a/\K a:=by
 cases x with
 |none=>exact h.elim;|some a=>exact⟨a,rfl,h⟩
theorem Hj (o:cj) (i:Nat):(gO o)[i]?=(o[i]?).map bq.g:=by simp[gO]
theorem oh (o:cj):(gO o).length=o.length:=by simp[gO]
theorem qA (o:cj) (i:Nat) (x:bq):gO (o.set i x)=(gO o).set i x.g:=by simp[gO]
theorem fR {o:cj} {i:Nat} {x:bq} (h:o[i]?=some x):(gO o)[i]?=some x.g:=by grind[Hj]
theorem O3:∀{cs:List SV} {l:List Int},ints cs=some l->cs.length=l.length/\∀i,i<l.length->(cs[i]?).map γF=some (.sc (.int .i64 (bj l i 0))):=by
 intro cs l h;have a:=CP h;have c:cs.length=l.length:=by simpa using congrArg γc a
 refine⟨c,λi b=>?_⟩;have:=congrArg (λl=>l[i]?) a;simp only[List.getElem?_map] at this;rw[this,μ b,cT b];rfl
theorem O4:∀{cs:List SV} {l:List (List Off)},mI.rowsOff cs=some l->cs.length=l.length/\∀i,i<l.length->cs[i]?=some (.row .off (bj l i []))
 |[],l,h=>by grind[mI.rowsOff];|c::cs,l,h=>by
  cases c with
  |row s x=>
   cases s<;>simp only[mI.rowsOff,reduceCtorEq] at h;obtain⟨e,a,rfl⟩:=ε.1 h;obtain⟨b,d⟩:=O4 a;grind[bj];|_=>simp[mI.rowsOff] at h
theorem Zx {cs:List SV} {sz i:Nat} {n:Option Nat} {K:SV->Prop} (h:mI.zJ cs sz i n K) (d:i*sz<cs.length):∃v,gu (gL cs) (i*sz) n=some v.g/\K v:=by
 unfold mI.zJ at h;split at h
 ·rw[Nat.mul_one] at d ⊢;split at h
  ·rename_i l a;obtain⟨b,c⟩:=O3 a;grind[gu,ui,γF]
  ·split at h
   ·rename_i l a;obtain⟨b,c⟩:=O4 a;grind[gu,ui]
   simp_all
 simp_all
theorem Zy {cs:List AV} {base a m:Nat} {v:AV} (h:gu ((cs.drop base).take m) a none=some v):gu cs (base+a) none=some v:=by
 grind[gu]
theorem O5 {o:cj} {a:SV} {n:Option Nat} {K:SV->Prop} (h:mI o a n K):∃cs b v,behind (gO o) a.g=some (cs,b)/\gu cs b n=some v.g/\K v:=by
 cases a with
 |ptr x b t=>
  simp only[mI] at h;split at h
  ·rename_i cs e f z y;split at h
   ·rename_i D;obtain⟨v,k,j⟩:=jo h;exact⟨gL cs,b,v,by simp_all[behind,γF,fR,bq.g,jW],C4 k,j⟩
   simp_all
  simp_all;|ap x c f d t i=>
  simp only[mI] at h;split at h
  ·rename_i cs e A z y;split at h
   ·rename_i D;obtain⟨C,p⟩:=h;have w:(i+1)*f<=d*f:=γM _ C;rw[Nat.succ_mul] at w;have F:f*d=d*f:=Nat.mul_comm ..;by_cases E:f=0;·grind[mI.zJ]
    ·have q:i*f<((cs.drop c).take (f*d)).length:=by grind
     obtain⟨v,k,j⟩:=Zx p q;have B:n=none:=by
      grind[mI.zJ]
     subst B;refine⟨gL cs,c+i*f,v,by simp_all[behind,γF,fR,bq.g,jW],?_,j⟩;have:gL ((cs.drop c).take (f*d))=((gL cs).drop c).take (f*d):=by simp[gl]
     grind[Zy]
   simp_all
  simp_all;|ep s l i b=>
  simp only[mI] at h;obtain⟨u,p⟩:=h;obtain⟨v,k,j⟩:=jo p;exact⟨cF s l,i*s.sz+b,v,by simp[behind,γF],O2 u k,j⟩;|rp x i b m f=>
  simp only[mI] at h;split at h
  ·rename_i s l e z y;split at h
   ·rename_i r;subst r;obtain⟨w,u,p⟩:=h;obtain⟨v,k,j⟩:=jo p;exact⟨cF s l,i*s.sz+b,v,by simp_all[behind,γF,fR,bq.g,fe],O2 u k,j⟩
   simp_all
  simp_all;|_=>simp only[mI] at h
theorem O6 (o:Store) (d:Nat) {v:Value} (h:v≠ .slice none 0 0):freeze o d (.sc v)=some (.sc v):=by
 grind[freeze]
theorem O7 (o:Store) (d:Nat) {a:AV} (h:Plain a):freeze o d a=some a:=by
 rcases h with⟨v,rfl,_,h⟩|⟨n,b,rfl,_⟩<;>grind[O6,freeze]
theorem Hk {f:AV->Option AV}:∀{l:List AV},(∀a∈l,f a=some a)->l.mapM f=some l
 |[],_=>by simp;|a::l,h=>by simp[List.mapM_cons,h a (by simp),Hk (l:=l) λb c=>h b (by simp[c])]
theorem xF {o:Store} {d:Nat} {f:SV->(SV->Prop)->Prop} (c:∀v K,f v K->∃b:SV,freeze o d v.g=some b.g/\K b):
  ∀{l:List SV} {K:List SV->Prop},vF f l K->∃a,(gL l).mapM (freeze o d)=some (gL a)/\K a
 |[],K,h=>⟨[],by simp[gL],h⟩
 |v::l,K,h=>by
  obtain⟨b,j,i⟩:=c v _ h;obtain⟨a,k,e⟩:=xF c i;exact⟨b::a,by simp_all[gL],e⟩
theorem zV {s:bp} {l:List s.T} {b a:Nat}:((cF s l).drop (b*s.sz)).take (a*s.sz)=cF s ((l.drop b).take a):=by
 rw[GV,OO]
theorem Hl {o:cj}:∀{d:Nat} {v:SV} {K:SV->Prop},rB o d v K->∃y,freeze (gO o) d v.g=some y.g/\K y:=by
 intro d;induction d with
 |zero=>
  intro v K h;cases v<;>simp only[rB] at h<;>grind[rB,γF,freeze,cF,O6];|succ d p=>
  intro v K h;cases v<;>simp only[rB] at h;case sc v=>
   grind[γF,freeze,cF]
  case agg B=>
   obtain⟨A,z,r⟩:=xF (λv K m=>p m) h;grind[γF,freeze]
  case bI B=>
   obtain⟨A,z,r⟩:=xF (λv K m=>p m) h;grind[γF,freeze]
  case fn f a b=>
   obtain⟨I,z,r⟩:=xF (λv K m=>p m) h;obtain⟨J,L,H⟩:=xF (λv K m=>p m) r;grind[γF,freeze]
  case ow E n F=>
   split at h
   ·rename_i s l e G w;split at h
    ·rename_i k;obtain⟨rfl,t⟩:=h;subst k;refine⟨_,?_,t⟩;have i:(cF s l).mapM (freeze (gO o) d)=some (cF s l):=Hk λa C=>by
      grind[O7,np]
     have D:Δ (l.length*s.sz) (cF s l)=cF s l:=γq (by grind[fe]);simp_all[γF,freeze,fR,bq.g,fe,o6]
    simp_all
   simp_all
  case os E j c n F=>
   split at h
   ·rename_i s l e G w;split at h
    ·rename_i k;obtain⟨rfl,u,t⟩:=h;subst k;refine⟨_,?_,t⟩;have i:(cF s ((l.drop j).take c)).mapM (freeze (gO o) d)=some (cF s ((l.drop j).take c)):=Hk λa C=>by
      grind[O7,np]
     have x:(j+c)*s.sz<=l.length*s.sz:=γM _ u;rw[δV] at x;have q:((l.drop j).take c).length=c:=by simp;omega
     simp only[γF,freeze,fR w,bq.g,fe,x,and_self,if_true,zV,i,o6,q];simp_all
    simp_all
   simp_all
  all_goals grind[γF,freeze]
theorem C5 {k:IntKind} {n:Int} (h:cu k n):eY k n=n:=by
 cases k<;>simp only[cu,eY] at h ⊢<;>simp_all
theorem ny {c:Prop} [Decidable c] {A:Prop} (h:if c then A else False):c/\A:=by
 simp_all
theorem aiD {b:Int} {k:Nat} (h:b<=k):min b.toNat k=b.toNat:=by omega
theorem Zz (a b:Int):(a==b)=decide (a=b):=rfl
theorem ZA (a b:Int):(a !=b)=decide (a≠b):=by
 grind
theorem zW {k:IntKind} {n:Int} {K:Int->Prop} (h:vE k n K):K (eY k n):=by
 have a:k= .u32->eY k n=n % 4294967296:=by
  grind[sy,IntKind.wrap,IntKind.bits,IntKind.signed]
 have b:k= .u64->eY k n=n % 18446744073709551616:=by
  grind[sy,IntKind.wrap,IntKind.bits,IntKind.signed]
 unfold vE at h;grind[C5]
theorem go_sound {e:BinOp} {k i:IntKind} {a b:Int} {K:SV->Prop} (h:fY.go e K k a i b):∃v f:_,gV e (.int k a) (.int i b)=some v/\f.g= .sc v/\K f:=by
 cases e<;>simp only[fY.go] at h;case shl=>
  obtain⟨j,m,l⟩:=h;refine⟨.int k (eY k (a*2^b.toNat)),.si k (eY k (a*2^b.toNat)),?_,rfl,zW l⟩;simp_all[gV,F3]
 case shr=>
  obtain⟨j,m,n⟩:=h;refine⟨.int k (a / 2^b.toNat),_,?_,rfl,n⟩;have:a.fdiv (2^b.toNat)=a / 2^b.toNat:=Int.fdiv_eq_ediv_of_nonneg _ (by grind);simp_all[gV,F3]
 case add=>
  obtain⟨d,c⟩:=ny h;subst d;exact⟨.int k (eY k (a+b)),.si k (eY k (a+b)),by simp only[gV,if_true,lq],rfl,zW c⟩
 case sub=>
  obtain⟨d,c⟩:=ny h;subst d;exact⟨.int k (eY k (a - b)),.si k (eY k (a - b)),by simp only[gV,if_true,lq],rfl,zW c⟩
 case mul=>
  obtain⟨d,c⟩:=ny h;subst d;exact⟨.int k (eY k (a*b)),.si k (eY k (a*b)),by simp only[gV,if_true,lq],rfl,zW c⟩
 case quo=>
  obtain⟨d,c⟩:=ny h;subst d;exact⟨.int k (a.tdiv b),_,by simp_all[gV,lq,C5],rfl,c.2.2⟩
 case rem=>
  obtain⟨d,c⟩:=ny h;subst d;exact⟨.int k (a.tmod b),_,by simp_all[gV,lq],rfl,c.2⟩
 case and=>
  obtain⟨d,c⟩:=ny h;subst d;exact⟨.int k (fY.qx k a b),_,by simp only[gV,if_true,lq,fY.qx],rfl,c⟩
 case or=>
  obtain⟨d,c⟩:=ny h;subst d;exact⟨.int k (fY.nY k a b),_,by simp only[gV,if_true,lq,fY.nY],rfl,c⟩
 case xor=>
  obtain⟨d,c⟩:=ny h;subst d;exact⟨.int k (fY.GX k a b),_,by simp only[gV,if_true,lq,fY.GX],rfl,c⟩
 case andNot=>
  obtain⟨d,c⟩:=ny h;subst d;exact⟨.int k (fY.CW k a b),_,by simp only[gV,if_true,lq,fY.CW],rfl,c⟩
 case eql=>
  obtain⟨d,c⟩:=ny h;subst d;exact⟨.bool (decide (a=b)),_,by simp_all[gV,lq,Zz],rfl,c⟩
 case neq=>
  obtain⟨d,c⟩:=ny h;subst d;exact⟨.bool (decide (a≠b)),_,by simp_all[gV,lq,ZA],rfl,c⟩
 case lss=>
  obtain⟨d,c⟩:=ny h;subst d;exact⟨.bool (decide (a<b)),_,by simp only[gV,if_true,lq],rfl,c⟩
 case leq=>
  obtain⟨d,c⟩:=ny h;subst d;exact⟨.bool (decide (a<=b)),_,by simp only[gV,if_true,lq],rfl,c⟩
 case gtr=>
  obtain⟨d,c⟩:=ny h;subst d;exact⟨.bool (decide (b<a)),_,by simp only[gV,if_true,lq],rfl,c⟩
 case geq=>
  obtain⟨d,c⟩:=ny h;subst d;exact⟨.bool (decide (b<=a)),_,by simp only[gV,if_true,lq],rfl,c⟩
theorem ZB {j:BinOp} {x y:SV} {K:SV->Prop} (h:fY j x y K):∃a b v c,x.g= .sc a/\y.g= .sc b/\gV j a b=some v/\c.g= .sc v/\K c:=by
 unfold fY at h;split at h
 ·split at h;·rename_i i;exact⟨_,_,_,_,rfl,rfl,i,rfl,h⟩
  ·rename_i i;exact⟨_,_,_,_,rfl,rfl,i,rfl,h⟩
  simp_all
 ·obtain⟨v,c,d,e,f⟩:=go_sound h;exact⟨_,_,v,c,rfl,rfl,d,e,f⟩
 ·obtain⟨v,c,d,e,f⟩:=go_sound h;exact⟨_,_,v,c,rfl,rfl,d,e,f⟩
 ·obtain⟨v,c,d,e,f⟩:=go_sound h;exact⟨_,_,v,c,rfl,rfl,d,e,f⟩
 ·split at h;·exact⟨_,_,_,_,rfl,rfl,by grind[gV],rfl,h⟩
  ·exact⟨_,_,_,_,rfl,rfl,by grind[gV],rfl,h⟩
  simp_all
 simp_all
theorem zY {k:IntKind} {a b:Int}:seq1 (.int k a) (.int k b)=some (decide (a=b)):=by
 simp only[seq1,if_true,γ];rfl
theorem ZC {x y:SV} {r:Bool} (h:GY x y=some r):∃a b,x.g= .sc a/\y.g= .sc b/\seq1 a b=some r:=by
 cases x<;>simp only[GY,reduceCtorEq] at h;all_goals
  obtain⟨b,c,rfl⟩:=ε.1 h;first
   |exact⟨_,_,rfl,iO c,zY⟩;|exact⟨_,_,rfl,vC c,by simp[seq1]⟩
theorem O8:∀{x y:List SV} {r:Bool},ub x y=some r->∃a b,gL x=a.map .sc/\gL y=b.map .sc/\fN a b=some r
 |[],[],r,h=>by simp[ub] at h;subst h;exact⟨[],[],rfl,rfl,rfl⟩;|[],_::_,r,h=>by grind[ub];|_::_,[],r,h=>by grind[ub];|x::l,y::n,r,h=>by
  simp only[ub] at h;split at h
  ·rename_i a b e f;simp only[γ] at h;subst h;obtain⟨u,v,g,j,k⟩:=ZC e;obtain⟨d,c,i,o,m⟩:=O8 f;exact⟨u::d,v::c,by grind[gL],by grind[gL],by grind[fN]⟩
  ·cases h
theorem Hm:∀(l:List Value),sj (l.map .sc)=some l
 |[]=>rfl
 |v::l=>by simp[sj,Hm l]
theorem uk:∀{a b:List Value},a.map δe=b.map δe->a=b
 |[],[],_=>rfl
 |[],_::_,h=>by simp at h;|_::_,[],h=>by simp at h;|x::a,y::b,h=>by
  simp only[ξ,Γ,δd] at h;rw[h.1,uk h.2]
theorem vK:∀{e:List Nat} {x:List SV} {a:List Value},lx e x=true->gL x=a.map .sc->eG e a=true
 |[],[],a,_,h=>by
  cases a with
  |nil=>rfl;|cons a i=>simp[gL] at h
 |[],_::_,a,h,_=>by grind[lx];|_::_,[],a,h,_=>by grind[lx];|k::e,x::j,a,h,f=>by
  cases a with
  |nil=>grind[gL];|cons a i=>
   simp only[gL,ξ,Γ] at f;obtain⟨c,d⟩:=f;match k,x,h with
   |0,.si k n,h=>simp only[lx] at h;simp only[γF,δd] at c;subst c;simpa[eG] using vK h d;|0,.il k n,h=>simp only[lx] at h;simp only[γF,δd] at c;subst c;simpa[eG] using vK h d;|1,.sb b,h=>simp only[lx] at h;simp only[γF,δd] at c;subst c;simpa[eG] using vK h d;|1,.bl b,h=>simp only[lx] at h;simp only[γF,δd] at c;subst c;simpa[eG] using vK h d
theorem ZD {c:List Nat} {a b:List SV} {r:Bool} (d:(lx c a&&lx c b)=true) (h:ub a b=some r):wR c (gL a) (gL b)=some r:=by
 obtain⟨u,v,f,e,g⟩:=O8 h;simp only[θ] at d;rw[f,e];simp only[wR,Hm,vK d.1 f,vK d.2 e,Bool.and_self,if_true,g]
theorem ZE {s s':bp} {l:List s.T} {a:List s'.T} (h:iH s s' l=some a):s=s'/\HEq l a:=by
 unfold iH at h;grind
theorem zZ {s s':bp} {l:List s.T} {l':List s'.T} (h:iH s s' l=some l'):s'=s/\cF s' l'=cF s l/\l'.length=l.length:=by
 grind[ZE]
theorem Hn:∀{a:List (Nat×Nat×SV)} {cs b:List SV},sE a cs=some b->lu (a.map λq=>(q.1,q.2.1,q.2.2.g)) (gL cs)=some (gL b)
 |[],cs,b,h=>by simp[sE] at h;subst h;rfl;|(d,n,v)::r,cs,b,h=>by
  simp only[sE] at h;split at h
  ·rename_i c;obtain⟨i,f,e⟩:=c;have:=Hn h;simp_all[lu,CZ,jW,C0,zU]
  ·cases h
theorem C6 {s:bp}:∀{n:Nat} {cs:List SV} {l:List s.T},ua s n cs=some l->gL cs=cF s l/\l.length=n
 |0,[],l,h=>by grind[ua,gL,cF];|0,_::_,l,h=>by simp[ua] at h;|n+1,cs,l,h=>by
  simp only[ua] at h;split at h
  ·rename_i x f a b;simp only[γ] at h;subst h;obtain⟨d,c⟩:=C6 b;have e:=nX a;refine⟨?_,by simp[c]⟩;rw[gl] at d ⊢;conv=>lhs;rw[<-γK s.sz cs]
   grind[cF]
  ·cases h
theorem ZF {o:cj} {s:bp} {x:SV} {K:List s.T->Prop} (h:vG o s x K):∃l,nf (gO o) s.sz x.g=some (l.length,cF s l)/\K l:=by
 cases x with
 |row q l=>
  simp only[vG] at h;obtain⟨f,c,w⟩:=jo h;obtain⟨rfl,p,m⟩:=zZ c;exact⟨f,by simp_all[γF,nf,fe],w⟩;|ow y n u=>
  simp only[vG] at h;split at h
  ·rename_i q l e A B;split at h
   ·rename_i b;subst b;obtain⟨rfl,k⟩:=h;obtain⟨f,c,i⟩:=jo k;obtain⟨rfl,p,m⟩:=zZ c;refine⟨f,?_,i⟩;have t:Δ (l.length*s.sz) (cF s l)=cF s l:=γq (by grind[fe]);simp_all[γF,nf,fR,bq.g,fe]
   simp_all
  simp_all;|os y d a n u=>
  simp only[vG] at h;split at h
  ·rename_i q l e A B;split at h
   ·rename_i b;subst b;obtain⟨rfl,j,k⟩:=h;obtain⟨f,c,i⟩:=jo k;obtain⟨rfl,p,m⟩:=zZ c;refine⟨f,?_,i⟩;have r:(d+a)*s.sz<=l.length*s.sz:=γM _ j;rw[δV] at r;have z:((l.drop d).take a).length=a:=by simp;omega
    simp_all[γF,nf,fR,bq.g,fe,zV]
   simp_all
  simp_all;|sc v=>
  grind[vG,γF,nf,cF];|_=>simp only[vG] at h
theorem Ho {v:SV} {n:Int} (h:zK v=some n):ik v.g=some n:=by
 cases v<;>simp[zK] at h<;>simp[γF,ik,h]
theorem pN {d:Nat} {x:Option SV} {K:Nat->Prop} (h:oa d x K):∃n,iq d (x.map γF)=some n/\K n:=by
 unfold oa at h;grind[γF,iq]
theorem vM {bD:Nat} {x:bq} {o:cj} {K:cj->Prop} (h:mkK bD x o K):∃o',kU bD x.g (gO o)=some (gO o')/\K o':=by
 grind[mkK,kU,fR,bq.g,qA]
theorem ZG {s:bp} (e:s.keyed=true) (x y:s.T):fN (dy s x) (dy s y)=some (decide (x=y)):=by
 cases s<;>simp only[bp.keyed,reduceCtorEq] at e;·grind[dy,fN,zY]
 ·obtain⟨b,⟨m,o,a,l,c,i⟩⟩:=x;obtain⟨g,⟨k,h,j,n,d,f⟩⟩:=y;simp_all[dy,iv,fN,zY]
 ·obtain⟨b,⟨m,o,a,l,c,i⟩,⟨C,t,B,A,D,w⟩⟩:=x;obtain⟨g,⟨k,h,j,n,d,f⟩,⟨p,z,r,u,v,q⟩⟩:=y;simp only[dy,iv,fN,zY,γ,δT];grind
theorem ZH {s:bp} {a:Bool} (d:s.keyed=true) (b:a=false->s.sz=1) (x y:s.T):keq (pM s a x) (pM s a y)=some (decide (x=y)):=by
 cases a with
 |true=>grind[pM,keq,ZG];|false=>
  have c:=b rfl;cases s<;>simp only[bp.keyed,reduceCtorEq] at d<;>simp only[bp.sz,reduceCtorEq,Nat.reduceEqDiff] at c;simp_all[pM,dy,keq,zY]
theorem Hq {a sv:bp} {c:Bool} (f:a.keyed=true) (e:c=false->a.sz=1) (x:a.T):∀(es:List (a.T×sv.T)) (i:Nat),
  ∃r,mB (pM a c x) (es.map λp=>(pM a c p.1,nn sv p.2)) i=some r/\(match nZ a sv x es with|some v=>∃j,r=some (i+j,nn sv v)/\(∃p,es[j]?=some p/\p.1=x)/\(∀g<j,∀p,es[g]?=some p->p.1≠x)|none=>r=none/\∀p∈es,p.1≠x)
 |[],i=>⟨none,by simp[mB],by simp[nZ]⟩
 |p::es,i=>by
  simp only[ξ,mB,ZH f e];by_cases b:p.1=x
  ·refine⟨some (i,nn sv p.2),by simp[b],?_⟩;simp only[nZ,List.find?_cons,b,decide_true,ν];exact⟨0,by simp,⟨p,by simp,b⟩,by simp⟩
  ·obtain⟨r,m,k⟩:=Hq f e x es (i+1);have d:¬x=p.1:=λh=>b h.symm;refine⟨r,by simp[d,m],?_⟩;have n:nZ a sv x (p::es)=nZ a sv x es:=by grind[nZ]
   rw[n];split at k
   ·obtain⟨j,w,⟨q,t,l⟩,o⟩:=k;refine⟨j+1,by grind,⟨q,by simp_all,l⟩,λg u s y=>?_⟩;grind
   grind
theorem Hr {a sv:bp} {x:a.T} {v:sv.T}:∀{es:List (a.T×sv.T)},(∀p∈es,p.1≠x)->sG a sv x v es=es++[(x,v)]
 |[],_=>rfl
 |p::es,h=>by
  simp only[sG,if_neg (h p (by simp)),γJ];rw[Hr λq b=>h q (by simp[b])]
theorem O9 {a sv:bp} {x:a.T} {v:sv.T}:∀{es:List (a.T×sv.T)} {j:Nat},(∃p,es[j]?=some p/\p.1=x)->(∀b<j,∀p,es[b]?=some p->p.1≠x)->sG a sv x v es=es.modify j λ_=>(x,v)
 |[],j,⟨p,h,_⟩,_=>by simp at h;|p::es,0,⟨q,h,d⟩,_=>by
  grind[sG];|p::es,j+1,⟨q,h,d⟩,c=>by
  have g:=c 0 (by omega) p (by simp);simp only[sG,if_neg g,ζI];rw[O9 (j:=j) ⟨q,by simpa using h,d⟩ λb i e f=>c (b+1) (by omega) e (by simp_all)]
theorem Pe {f:List Nat} {d:Bool} {s:bp} {v:SV} {x:s.T} (e:lx f v.cellsOf=true) (o:vH d v=true) (p:s.flat=true) (n:jT s v.cellsOf=some x):qk f d v.g=some (pM s d x):=by
 have k:=nX n;have c:gL v.cellsOf=(dy s x).map .sc:=by grind[gl,CO]
 have i:=vK e c;by_cases l:∃h,v= .agg h
 ·obtain⟨h,rfl⟩:=l;simp_all[SV.cellsOf,vH,γF,qk,Hm,pM]
 ·have b:d=false:=by
   simp_all[vH]
  subst b;have j:v.cellsOf=[v]:=by
   cases v<;>first|rfl|simp_all
  rw[j] at c;simp only[gL] at c;cases m:dy s x with
  |nil=>simp_all;|cons a r=>
   rw[m] at c i;simp only[ξ,Γ] at c;simp_all[qk,pM]
theorem Pg {s:bp} (h:s.xu=true) (x:s.T):((encS s x).headD .ud).g=nn s x:=by
 cases s<;>simp[bp.xu] at h<;>simp[encS,nn,dy,γF]
theorem Ph {s:bp} (h:s.xu=true) (x:s.T):dP s x=[nn s x]:=by
 cases s<;>simp[bp.xu] at h<;>simp[dP,nn,dy]
theorem Pj {s:bp} (h:s.keyed=true):s.flat=true:=by
 cases s<;>simp[bp.keyed] at h<;>rfl
structure pO (call:di) (C:OQ):Prop where
 pure:∀f args K,C.pure f args K->∃r:SV,call f (gL args) [] false=some (r.g,[])/\K r
 own:∀f args o K,C.own f args o K->∃(r:SV) (o':cj),iN call f (gL args) (gO o)=some (r.g,gO o')/\K r o'
section
variable {call:di} {p:ja} {o:cj} {bD:Nat} {K:SV->cj->Prop}
theorem Ht (j:pO call p.C) {f:FuncId} {args:List SV} {own:Bool} (h:eT.zL p f args o own K):
  ∃(v:SV) (o':cj),gK call f (gL args) (gO o) own=some (v.g,gO o')/\K v o':=by
 unfold eT.zL at h;split at h
 ·rename_i c;obtain⟨r,o',k,e⟩:=j.own _ _ _ _ h;exact⟨r,o',by simp_all[gK],e⟩
 ·rename_i c;have c:own=false:=by simp_all
  subst c;obtain⟨b,k,e⟩:=xF (o:=gO o) (d:=6) (λv K m=>Hl m) h;obtain⟨r,l,i⟩:=j.pure _ _ _ e;split at i
  ·rename_i a;refine⟨r,o,?_,i⟩;simp only[gK,ψ,if_false,k,l];rw[if_pos];simp only[δx] at a ⊢;rcases a with a|a
   ·left;rw[gl,List.flatMap_map];exact a
   grind[O0]
  simp_all
theorem C7 (ρ:Operand->SV) (l:List Operand):gL (l.map ρ)=l.map λx=>(ρ x).g:=by simp[gl]
theorem ZI {a:List (Nat×Nat×Operand)} {ρ:Operand->SV} {cs b:List SV} (h:sE (a.map λq=>(q.1,q.2.1,ρ q.2.2)) cs=some b):
  lu (a.map λq=>(q.1,q.2.1,(ρ q.2.2).g)) (gL cs)=some (gL b):=by
 have:=Hn h;grind[δg]
theorem Hu {a:List (Nat×Operand)} {sz:Nat} {ρ:Operand->SV} {cs b:List SV} (h:sE (a.map λq=>(q.1,sz,ρ q.2)) cs=some b):
  lu (a.map λq=>(q.1,sz,(ρ q.2).g)) (gL cs)=some (gL b):=by
 have:=Hn h;grind[δg]
theorem Hv (z:List Value):gL (z.map SV.o7)=z.map .sc:=by rw[gl,G7]
theorem Hw (a:Nat) (z:List Value):gL ((δ a (z.map SV.o7)).flatten)=(δ a (z.map δe)).flatten:=by
 rw[gl,List.map_flatten,List.map_replicate,G7]
theorem ZJ (s:bp) (x:s.T) (n:Nat):(δ n (dP s x)).flatten=cF s (δ n x):=by
 induction n<;>grind[cF]
theorem Aa {ρ:Operand->SV} (l:Option Operand):(l.map ρ).map γF=l.map λx=>(ρ x).g:=by cases l<;>rfl
theorem ZK:∀{l:List Int} {i:Nat} {v:Int},i<l.length->gi (l.map λn=>δe (iv n)) 0 ((l.set i v).map λn=>δe (iv n))=(l.map λn=>δe (iv n)).set i (.sc (iv v)):=by
 intro l i v e;have d:∀(b a c:List AV),b.length=c.length->gi (a++c) a.length b=a++b:=by
  intro b;induction b with
  |nil=>grind[gi];|cons w b f=>
   intro a c h;cases c with
   |nil=>simp at h;|cons y c=>
    simp only[γD,ζp] at h;simp only[gi];have:(a++y::c).set a.length w=(a++[w])++c:=by
     simp_all
    grind
 have:=d ((l.set i v).map λn=>δe (iv n)) [] (l.map λn=>δe (iv n)) (by simp);simp_all
theorem Pm {b c:Type} (f:b->c) (x:b):∀(l:List b) (j:Nat),(l.modify j λ_=>x).map f=(l.map f).modify j λ_=>f x
 |[],j=>by simp;|a::l,0=>by simp_all;|a::l,j+1=>by simp only[ζI,ξ,Pm f x l j]
theorem ZL (v:Value):(δe v).cellsOf=[.sc v]:=rfl
theorem Pn:∀{l:List Int} {i j:Nat} {v:Int},uf l (i+j) v j=l.set i v
 |[],_,_,_=>rfl
 |a::l,0,j,v=>by
  have h:∀(l:List Int) (c:Nat),j<c->uf l j v c=l:=by
   intro l;induction l with
   |nil=>intro _ _;rfl;|cons b l d=>intro c e;simp only[uf,if_neg (show ¬j=c by omega),d (c+1) (by omega)]
  simp_all[uf];|a::l,i+1,j,v=>by
  simp only[uf,if_neg (show ¬i+1+j=j by omega),List.set_cons_succ];rw[show i+1+j=i+(j+1) from by omega,Pn]
theorem ZM {ρ:Operand->SV} {n:Nat} {a x:Operand} (h:eT p (.store n a x) ρ o bD K):
  ∃(v:SV) (o':cj),bK call (.store n a x) (λx=>(ρ x).g) (gO o) bD=some (v.g,gO o')/\K v o':=by
 simp only[eT] at h;split at h
 ·rename_i W b L B;split at h
  ·rename_i f e Y E z;split at h
   ·rename_i D;obtain⟨V,C,X,P,R⟩:=D;refine⟨.ud,_,?_,h⟩;simp only[bK,B,γF,fR z,bq.g,CZ,jW,C0];rw[if_pos ⟨V,C,X,P,R.imp (λq=>q) λhp=>G8 _ hp⟩,qA,bq.g,zU,He]
   simp_all
  simp_all
 ·rename_i W i b m Y B;split at h
  ·rename_i s l e E z;split at h
   ·rename_i D;obtain⟨rfl,C,X⟩:=D;obtain⟨rfl,N,P⟩:=h;obtain⟨v,hv,R⟩:=jo P;refine⟨.ud,_,?_,R⟩;have T:=nX hv;rw[<-gl,zU,He] at T;have O:gL (encS s (bj l i s.dflt))=dP s (bj l i s.dflt):=by rw[gl,t7]
    rw[O] at T;have y:(i+1)*s.sz<=l.length*s.sz:=γM _ N;rw[Nat.succ_mul] at y;have u:∀c∈eF E (gL (ρ x).cellsOf),Plain c:=by
     intro c hc;obtain⟨j,hj⟩:=List.mem_iff_getElem?.1 hc;have U:=(ζ.1 hj).1;rw[tO,jW,C] at U;have a1:(gi (dP s (bj l i s.dflt)) b (eF E (gL (ρ x).cellsOf)))[b+j]?=some c:=by
      have a0:∀(r f:List AV) (b j:Nat) (c:AV),r[j]?=some c->b+r.length<=f.length->(gi f b r)[b+j]?=some c:=by
       intro r;induction r with
       |nil=>simp_all;|cons w r ih=>
        intro f b j c h M;simp only[γD] at M;simp only[gi];cases j with
        |zero=>
         simp only[List.getElem?_cons_zero,γ] at h;subst h;have F:∀(r f:List AV) (Z k:Nat),k<Z->(gi f Z r)[k]?=f[k]?:=by
          intro r;induction r<;>grind[gi]
         grind;|succ j=>
         have:=ih (f.set b w) (b+1) j c (by simpa using h) (by simp;omega);grind
      grind[tO,jW,lT]
     grind[zH]
    obtain⟨G,Q⟩:=Hf u;simp only[bK,B,γF,fR z,bq.g,CZ,fe,jW];rw[if_pos ⟨trivial,C,G,by omega,.inr Q⟩,qA,bq.g,Zw N (by grind[tO,jW]) T]
   simp_all
  simp_all
 ·rename_i W d Y t L i B;split at h
  ·rename_i f e a3 E z;split at h
   ·rename_i v H;split at h
    ·rename_i l M;split at h
     ·rename_i D;obtain⟨V,C⟩:=D;rw[show uf l i v 0=l.set i v from Pn (j:=0)] at h;obtain⟨N,hk⟩:=h;refine⟨.ud,_,?_,hk⟩;have S:(ρ x).cellsOf=[ρ x]:=by
       cases hr:ρ x<;>rw[hr] at H<;>simp[SV.int] at H<;>rfl
      have I:(ρ x).g= .sc (iv v):=iO H;have A:=CP M;have a2:l.length=t:=by
       have:=congrArg γc A;grind
      have J:gL f=gL (f.take d)++(l.map λn=>δe (iv n))++gL (f.drop (d+t)):=by
       rw[<-A,gl,gl,gl,<-γa,<-γa];congr 1;rw[<-δj,List.append_assoc,γK,γK]
      have a4:(gL (f.take d)).length=d:=by grind[jW]
      have hq:eF E [δe (iv v)]=[δe (iv v)]:=by unfold eF;split<;>rfl
      simp only[bK,B,γF,fR z,bq.g,I,ZL,List.length_singleton,jW,hq];rw[if_pos ⟨V,trivial,by simp[eM,AV.one,iv,Value.oneCell'],by omega,.inr (by simp[dB,AV.pure])⟩,qA,bq.g,zU];congr 4;have e1:gL ((l.set i v).map (SV.si .i64))=(l.set i v).map λn=>δe (iv n):=by
       rw[gl,γO];rfl
      rw[e1,J];have hm:=Hh ((l.set i v).map λn=>δe (iv n)) (gL (f.take d)) (l.map λn=>δe (iv n)) (gL (f.drop (d+t))) 0 (by simp);grind[ZK,gi]
     simp_all
    simp_all
   simp_all
  simp_all
 simp_all
theorem ZN {ρ:Operand->SV} {e:TypeId} {sz b:Nat} {s x:Operand} {pu:Bool} (h:eT p (.append e sz b s x pu) ρ o bD K):
  ∃(v:SV) (o':cj),bK call (.append e sz b s x pu) (λx=>(ρ x).g) (gO o) bD=some (v.g,gO o')/\K v o':=by
 simp only[eT] at h;split at h
 ·rename_i t tl U a;split at h
  ·rename_i S n G j m R k M;split at h
   ·rename_i O l Z I H;split at h
    ·rename_i F;obtain⟨rfl,q,rfl,rfl,rfl,rfl,i,w⟩:=F;obtain⟨rfl,C,y,B⟩:=h;rw[M] at a;unfold OS at a;split at a
     ·rename_i j' W Y;injection Y with e1 N e3;subst e1 N e3;split at a
      ·rename_i s2 N L D;split at a
       ·rename_i A;injection a with a;subst a;refine⟨_,_,?_,B⟩;have E:nf (gO o) t.sz (.os j 0 1 (1*t.sz))=some (1,gL L):=by
         simp only[nf,fR D,bq.g,cF,ζD,δK,jW];rw[if_pos ⟨by omega,A,by omega⟩,εo,γq (by grind[jW])]
        have J:eM (gL L)=true:=by grind[C0]
        simp only[bK,k,M,γF,qh];simp only[E,J,ζV,if_false,fR H,bq.g,fe,q];rw[if_pos ⟨trivial,trivial,trivial,trivial,C,y,.inl trivial⟩,qA,bq.g];grind
       ·cases a
      ·cases a
     ·cases a
    simp_all
   simp_all
  simp_all
 ·rename_i t U _;split at h
  ·rename_i z;subst z;obtain⟨f,V,d⟩:=ZF h;have r:eM (cF t f)=true:=CU _ _;have c:dB (cF t f)=true:=o6 _ _;simp only[bK,qh,V,r,ζV,if_false];split at d
   ·rename_i k;rw[k];simp only[γF];by_cases u:f.length=0;·exact⟨_,_,by simp only[u,if_true];rfl,d.1 u⟩
    ·obtain⟨q,i,w⟩:=d.2 u;obtain⟨o',P,Q⟩:=vM w;refine⟨_,o',?_,Q⟩;simp only[bq.g] at P;rw[if_neg u,if_pos ⟨q,i,.inr c⟩,P];rfl
   ·rename_i S n G k;split at d
    ·rename_i O l Z I H;split at d
     ·rename_i F;obtain⟨rfl,q,rfl⟩:=F;obtain⟨rfl,i,w,C⟩:=d;obtain⟨l',y,B⟩:=jo C;obtain⟨rfl,T,X⟩:=zZ y;refine⟨_,_,?_,B⟩;rw[k];simp only[γF,fR H,bq.g,fe];rw[if_pos ⟨trivial,trivial,trivial,trivial,i,w,.inr c⟩,qA,bq.g,OM,T];grind
     simp_all
    simp_all
   ·rename_i O l k;obtain⟨q,i⟩:=d;refine⟨_,_,?_,i⟩;simp_all[γF]
   simp_all
  simp_all
 simp_all
theorem Po {mx:Bool} {a b:Int}:(if mx then(if b>a then b else a) else(if b<a then b else a))=if mx then max a b else min a b:=by
 grind
theorem ZO (hC:pO call p.C) {op:cJ} {ρ:Operand->SV} (h:eT p op ρ o bD K):
  ∃(v:SV) (o':cj),bK call op (λx=>(ρ x).g) (gO o) bD=some (v.g,gO o')/\K v o':=by
 cases op with
 |uZ x=>exact⟨_,_,rfl,h⟩;|pick c a b=>
  simp only[eT] at h;split at h;·rename_i hc;exact⟨_,_,by simp only[bK,hc,γF],h⟩
  ·rename_i hc;exact⟨_,_,by simp only[bK,hc,γF],h⟩
  ·rename_i c hc;cases c with
   |true=>exact⟨_,_,by simp only[bK,hc,γF],h.1 rfl⟩;|false=>exact⟨_,_,by simp only[bK,hc,γF],h.2 rfl⟩
  ·exact h.elim;|alloc z e pu=>
  obtain⟨o',hm,hk⟩:=vM h;simp only[bq.g,Hv] at hm;exact⟨_,o',by simp only[bK,hm,ν,γF],hk⟩;|box e x=>
  simp only[eT] at h;split at h
  ·rename_i h1;obtain⟨o',hm,hk⟩:=vM h;simp only[bq.g] at hm;exact⟨_,o',by simp only[bK,CZ,C0,h1,if_true,jW,hm,ν,γF],hk⟩
  ·exact h.elim;|build z parts=>
  simp only[eT] at h;obtain⟨cs,h1,h2⟩:=jo h;have:=ZI h1;rw[Hv] at this;exact⟨_,_,by simp only[bK,this,ν,γF],h2⟩;|pD z len parts e sz=>
  simp only[eT] at h;split at h
  ·rename_i s cs hs hf;split at h
   ·rename_i hsz;split at h
    ·rename_i hany;split at h
     ·rename_i hlen;obtain⟨o',hm,hk⟩:=vM h;simp only[bq.g,cF,ζD,δK] at hm;have hfa:=Hu hf;rw[Hw] at hfa;refine⟨_,o',?_,hk⟩;subst hsz;have hp:dB (gL cs)=false:=by
       clear hf hfa hm hlen h;induction cs with
       |nil=>simp at hany;|cons c cs ih=>
        simp only[List.any_cons,δx] at hany;simp only[gL,dB];rcases hany with hc|hc
        ·have h9:c.g.pure=false:=by
          cases c with
          |ow a b d=>simp[γF,AV.pure];|_=>simp[SV.OT] at hc
         rw[h9,Bool.false_and]
        ·have ih2:=ih hc;rw[ih2,Bool.and_false]
      simp only[bK,hfa,hp,eF,ψ,if_false,hm,ν,γF]
     ·exact h.elim
    obtain⟨l,h1,h2⟩:=jo h;obtain⟨h3,h4⟩:=C6 h1;obtain⟨o',hm,hk⟩:=vM h2;simp only[bq.g] at hm;have hfa:=Hu hf;rw[Hw] at hfa;refine⟨_,o',?_,hk⟩;subst hsz;rw[Ha] at h3;have hp:dB (gL cs)=true:=(Hf (pu:=true) (cs:=gL cs) λc hc=>np (s:=s) (l:=l) (by rw[<-h3];exact hc)).2;have hq:eF true (gL cs)=cF s l:=h3;simp only[bK,hfa,hp,hq,hm,ν,γF]
   ·exact h.elim
  ·exact h.elim;|tC z len parts e sz=>
  simp only[eT] at h;split at h
  ·rename_i s cs hs hf;split at h
   ·rename_i hsz;obtain⟨l,h1,h2⟩:=jo h;obtain⟨h3,h4⟩:=C6 h1;have hfa:=Hu hf;rw[Hw] at hfa;rw[Ha] at h3;have hp:dB (gL cs)=true:=(Hf (pu:=true) (cs:=gL cs) λc hc=>np (s:=s) (l:=l) (by rw[<-h3];exact hc)).2;have hq:eF true (gL cs)=cF s l:=h3;exact⟨_,_,by simp only[bK,hfa,hp,hq,if_true,γF,h4],h2⟩
   ·exact h.elim
  ·exact h.elim;|load n a=>
  simp only[eT] at h;obtain⟨cs,off,v,h1,h2,h3⟩:=O5 h;exact⟨v,o,by simp only[bK,h1,h2,ν],h3⟩;|store n a x=>exact ZM h;|u7 x=>
  simp only[eT] at h;split at h;·rename_i hx;exact⟨_,_,by simp only[bK,hx,γF],h⟩
  ·rename_i hx;exact⟨_,_,by simp only[bK,hx,γF],h⟩
  ·rename_i hx;exact⟨_,_,by simp only[bK,hx,γF],h⟩
  ·exact h.elim;|bin op x y=>
  simp only[eT] at h;obtain⟨a,b,v,v',h1,h2,h3,h4,h5⟩:=ZB h;exact⟨v',o,by simp only[bK,h1,h2,h3,ν,h4],h5⟩;|beq neg x y=>
  simp only[eT] at h;split at h
  ·rename_i a b h1 h2;exact⟨_,_,by simp only[bK,vC h1,vC h2,γF],h⟩
  ·exact h.elim;|sf neg ks x y=>
  simp only[eT] at h;split at h
  ·rename_i a b h1 h2;split at h
   ·rename_i hk;obtain⟨r,hr,h3⟩:=jo h;exact⟨_,_,by simp only[bK,h1,h2,γF,ZD hk hr,ν],h3⟩
   ·exact h.elim
  ·exact h.elim;|tG neg x y=>
  simp only[eT] at h;split at h
  ·rename_i h1 h2;exact⟨_,_,by simp only[bK,h1,h2,γF],h⟩
  ·rename_i h1 h2;exact⟨_,_,by simp only[bK,h1,h2,γF],h⟩
  ·exact h.elim;|un op x=>
  simp only[eT] at h;split at h;·rename_i hx;exact⟨_,_,by simp only[bK,hx,γF,tK,ν],h⟩
  ·rename_i hx;exact⟨_,_,by simp only[bK,hx,γF,tK,ν],h⟩
  ·rename_i k n hx;refine⟨_,_,?_,h.2⟩;have:(0:Int) - n= -n:=by omega
   simp only[bK,hx,γF,tK,ν,this,C5 h.1]
  ·rename_i hx;exact⟨_,_,by simp only[bK,hx,γF,tK,ν],h⟩
  ·exact h.elim;|conv k x=>
  simp only[eT] at h;split at h;·rename_i hx;exact⟨_,_,by simp only[bK,hx,γF],h⟩
  ·rename_i hx;exact⟨_,_,by simp only[bK,hx,γF,C5 h.1],h.2⟩
  ·rename_i kk n _ hx;exact⟨.si k (eY k n),_,by simp only[bK,hx,γF],zW h⟩
  ·exact h.elim;|vd off x=>
  simp only[eT] at h;split at h;·rename_i hx;exact⟨_,_,by simp only[bK,hx,γF,nc,ν],h⟩
  ·rename_i hx;exact⟨_,_,by simp only[bK,hx,γF,nc,ν,εX],h⟩
  ·rename_i hx;exact⟨_,_,by simp only[bK,hx,γF,nc,ν,εX],h⟩
  ·exact h.elim;|field off n x=>
  simp only[eT] at h;split at h
  ·rename_i cs hx;obtain⟨v,h1,h2⟩:=jo h;exact⟨_,_,by simp only[bK,hx,γF,C4 h1,ν],h2⟩
  ·exact h.elim;|ve len sz x i=>
  simp only[eT] at h;split at h
  ·rename_i k n hi;split at h
   ·rename_i hn;split at h;·rename_i hx;exact⟨_,_,by simp only[bK,hi,hx,γF,ik,if_pos hn,nc,ν],h⟩
    ·rename_i hx;exact⟨_,_,by simp only[bK,hi,hx,γF,ik,if_pos hn,nc,ν,εX],h⟩
    ·rename_i hx;exact⟨_,_,by simp only[bK,hi,hx,γF,ik,if_pos hn,nc,ν,εX],h⟩
    ·exact h.elim
   ·exact h.elim
  ·rename_i k n hi;split at h;·rename_i hx;exact⟨_,_,by simp only[bK,hi,hx,γF,ik,if_pos (γl h.1 h.2.1),nc,ν],h.2.2⟩
   ·exact h.elim
  ·exact h.elim;|sg sz x i=>
  simp only[eT] at h;split at h
  ·rename_i n hi;have hi:=Ho hi;split at h
   ·rename_i s l hx;split at h
    ·rename_i hsz;subst hsz;obtain⟨h1,h2,h3⟩:=h;refine⟨_,_,?_,h3⟩;simp only[bK,hi,hx,γF,qg,fe];rw[if_pos ⟨h1,h2,trivial⟩];simp
    ·exact h.elim
   ·rename_i id m sz' hx;split at h
    ·rename_i s l e pu ho;split at h
     ·rename_i hsz;obtain⟨rfl,rfl⟩:=hsz;obtain⟨rfl,h1,h2,h3⟩:=h;refine⟨_,_,?_,h3⟩;simp only[bK,hi,hx,γF,qg,fR ho,bq.g,fe];rw[pI (Nat.zero_le _),if_pos ⟨trivial,trivial,h1,h2,by omega⟩];simp
     ·exact h.elim
    ·exact h.elim
   ·rename_i id off len m sz' hx;split at h
    ·rename_i s l e pu ho;split at h
     ·rename_i hsz;obtain⟨rfl,rfl⟩:=hsz;obtain⟨rfl,h1,h2,h4,h3⟩:=h;refine⟨_,_,?_,h3⟩;have hm:(off+len)*s.sz<=l.length*s.sz:=γM _ h4;rw[δV] at hm;simp only[bK,hi,hx,γF,qg,fR ho,bq.g,fe];rw[pI (by omega),if_pos ⟨trivial,trivial,h1,h2,hm⟩];simp[δV]
     ·exact h.elim
    ·exact h.elim
   ·rename_i id off len m sz' hx;split at h
    ·rename_i s l e pu ho;split at h
     ·rename_i hsz;obtain⟨rfl,rfl⟩:=hsz;obtain⟨rfl,h1,h2,h4,h3⟩:=h;refine⟨_,_,?_,h3⟩;have hm:(off+len)*s.sz<=l.length*s.sz:=γM _ h4;have hp:=GQ s;rw[δV] at hm;simp only[bK,hi,hx,γF,qg,fR ho,bq.g,fe];rw[B0 (by omega),show off*s.sz+(l.length*s.sz+s.sz) - l.length*s.sz - s.sz=off*s.sz by omega,if_pos ⟨trivial,trivial,h1,h2,hm⟩];simp[δV]
     ·exact h.elim
    ·exact h.elim
   ·exact h.elim
  ·exact h.elim;|idx len sz n x i=>
  simp only[eT] at h;split at h
  ·rename_i k' k cs hi hx;split at h
   ·rename_i hk;obtain⟨v,h1,h2⟩:=jo h;exact⟨_,_,by simp only[bK,hi,hx,γF,ik,if_pos hk,C4 h1,ν],h2⟩
   ·exact h.elim
  ·rename_i k' k cs hi hx;split at h
   ·rename_i l _ _ hl;split at h
    ·rename_i hll;obtain⟨h1,h2,h3⟩:=h;refine⟨_,_,?_,h3⟩;obtain⟨h4,h5⟩:=O3 hl;have h6:=h5 k.toNat (by omega);simp only[bK,hi,hx,γF,ik,if_pos (γl h1 h2),Nat.mul_one,gu,ui,h6,ν]
    ·exact h.elim
   ·exact h.elim
  ·exact h.elim;|wQ x i=>simp only[eT] at h;|qe z e sz bytes l c pu=>
  simp only[eT] at h;split at h
  ·rename_i n m s hn hm hs;have hn:=Ho hn;have hm:=Ho hm;split at h
   ·rename_i hsz;subst hsz;obtain⟨x,hx,h1,h2,h3,h4,h5⟩:=jo h;obtain⟨o',hmk,hk⟩:=vM h5;refine⟨_,o',?_,hk⟩;have hd:=nX hx;rw[<-gl,He,Hv] at hd;simp only[bq.g] at hmk;simp only[bK,hn,hm];rw[if_pos ⟨h1,h2,h3,h4⟩,hd,ZJ,hmk];simp[γF]
   ·exact h.elim
  ·exact h.elim;|slice sz x lo hi=>
  simp only[eT] at h;split at h
  ·rename_i s l hx;split at h
   ·rename_i hsz;subst hsz;obtain⟨a,ha,h1⟩:=pN h;obtain⟨b,hb,h2,h3,h4⟩:=pN h1;refine⟨_,_,?_,h4⟩;rw[Aa] at ha hb;have hlen:((l.drop a).take (b - a)).length=b - a:=by simp;omega
    simp only[bK,hx,γF,qj,ha,hb,fe,and_true,if_pos (γl h2 h3),ν,zV,hlen]
   ·exact h.elim
  ·rename_i id m sz' hx;split at h
   ·rename_i s l e pu ho;split at h
    ·rename_i hsz;obtain⟨rfl,rfl⟩:=hsz;obtain⟨rfl,h⟩:=h;obtain⟨a,ha,h1⟩:=pN h;obtain⟨b,hb,h2,h3,h4⟩:=pN h1;refine⟨_,_,?_,h4⟩;rw[Aa] at ha hb;simp only[bK,hx,γF,qj,ha,hb,fR ho,bq.g,fe];rw[if_pos ⟨h2,h3,trivial,trivial⟩];simp
    ·exact h.elim
   ·exact h.elim
  ·rename_i id off len m sz' hx;split at h
   ·rename_i s l e pu ho;split at h
    ·rename_i hsz;obtain⟨rfl,rfl⟩:=hsz;obtain⟨rfl,h⟩:=h;obtain⟨a,ha,h1⟩:=pN h;obtain⟨b,hb,h2,h3,h4⟩:=pN h1;refine⟨_,_,?_,h4⟩;rw[Aa] at ha hb;simp only[bK,hx,γF,qj,ha,hb,fR ho,bq.g,fe];rw[if_pos ⟨h2,h3,trivial,trivial⟩];simp[δV]
    ·exact h.elim
   ·exact h.elim
  ·exact h.elim;|slice3 sz x lo hi mx=>
  simp only[eT] at h;split at h
  ·rename_i s l hx;split at h
   ·rename_i hsz;subst hsz;obtain⟨a,ha,h1⟩:=pN h;obtain⟨b,hb,h2⟩:=pN h1;obtain⟨m,hm,h3,h4,h5,h6⟩:=pN h2;refine⟨_,_,?_,h6⟩;rw[Aa] at ha;simp only[ν] at hb hm;have hlen:((l.drop a).take (b - a)).length=b - a:=by simp;omega
    simp only[bK,hx,γF,su,ha,hb,hm,fe,and_true,if_pos (γl h3 (γl h4 h5)),ν,zV,hlen]
   ·exact h.elim
  ·rename_i id n sz' hx;split at h
   ·rename_i s l e pu ho;split at h
    ·rename_i hsz;obtain⟨rfl,rfl⟩:=hsz;obtain⟨rfl,h⟩:=h;obtain⟨a,ha,h1⟩:=pN h;obtain⟨b,hb,h2⟩:=pN h1;obtain⟨m,hm,h3,h4,h5,h6⟩:=pN h2;refine⟨_,_,?_,h6⟩;rw[Aa] at ha;simp only[ν] at hb hm;simp only[bK,hx,γF,su,ha,hb,hm,fR ho,bq.g,fe];rw[if_pos ⟨h3,h4,h5,trivial,trivial,by omega,GQ _⟩];simp
    ·exact h.elim
   ·exact h.elim
  ·exact h.elim;|vf x lo hi=>simp only[eT] at h;|append e sz bytes s x pu=>exact ZN h;|len k x=>
  simp only[eT] at h;split at h;·rename_i hx;exact⟨_,_,by simp only[bK,hx,γF,lr,ν],h⟩
  ·rename_i hx;exact⟨_,_,by simp only[bK,hx,γF,lr,ν],h⟩
  ·rename_i hx;exact⟨_,_,by simp only[bK,hx,γF,lr,ν],h⟩
  ·rename_i hx;exact⟨_,_,by simp only[bK,hx,γF,lr,ν],h⟩
  ·rename_i hx;exact⟨_,_,by simp only[bK,hx,γF,lr,ν];rfl,h⟩
  ·rename_i hx;exact⟨_,_,by simp only[bK,hx,γF,lr,ν],h⟩
  ·rename_i id hx;split at h
   ·rename_i sk sv ka es kt pu ho;exact⟨_,_,by simp only[bK,hx,γF,lr,fR ho,bq.g,List.length_map,ν],h⟩
   ·exact h.elim
  ·exact h.elim;|vg n=>exact⟨_,_,rfl,h⟩;|mm mx x y=>
  simp only[eT] at h;split at h
  ·rename_i hx hy;split at h
   ·rename_i hk;exact⟨_,_,by simp only[bK,hx,hy,γF,if_pos hk],h⟩
   ·exact h.elim
  ·rename_i k a hx;obtain⟨b,hb,h2⟩:=jo h;exact⟨_,_,by simp only[bK,hx,iO hb,γF,if_true,Po],h2⟩
  ·rename_i k a hx _;obtain⟨b,hb,h2⟩:=jo h;exact⟨_,_,by simp only[bK,hx,iO hb,γF,if_true,Po],h2⟩
  ·exact h.elim;|call f args own=>
  simp only[eT] at h;obtain⟨v,o',h1,h2⟩:=Ht hC h;rw[C7] at h1;exact⟨v,o',by simp only[bK,h1],h2⟩;|jS f args own=>
  simp only[eT] at h;split at h
  ·rename_i g first captured hf;obtain⟨v,o',h1,h2⟩:=Ht hC h;rw[uj,uj,C7] at h1;exact⟨v,o',by simp only[bK,hf,γF,h1],h2⟩
  ·exact h.elim;|extract x i=>
  simp only[eT] at h;split at h
  ·rename_i vs hx;obtain⟨v,h1,h2⟩:=jo h;exact⟨_,_,by simp only[bK,hx,γF,ui,h1,ν],h2⟩
  ·exact h.elim;|tH f first captured=>exact⟨_,_,by simp only[bK,γF,C7],h⟩;|vh t x=>
  simp only[eT] at h;split at h
  ·rename_i cs hx;split at h
   ·rename_i hp;exact⟨_,_,by simp only[bK,hx,γF,if_pos (G8 cs hp)],h⟩
   ·exact h.elim
  ·exact h.elim;|oQ tab x args=>
  simp only[eT] at h;split at h
  ·rename_i t cs hx;split at h
   ·rename_i f hf;obtain⟨v,o',h1,h2⟩:=Ht hC h;simp only[gL,γF,C7] at h1;exact⟨v,o',by simp only[bK,hx,γF,hf,h1],h2⟩
   ·exact h.elim
  ·exact h.elim;|qf kt pu=>
  simp only[eT] at h;split at h
  ·rename_i sk sv hs;obtain⟨o',hm,hk⟩:=vM h;simp only[bq.g,γv] at hm;exact⟨_,o',by simp only[bK,hm,ν,γF],hk⟩
  ·exact h.elim;|lookup z agg ks ka x k ok=>
  simp only[eT] at h;split at h
  ·rename_i id hx;split at h
   ·rename_i sk sv xx es kt pu ho;split at h
    ·rename_i hh;obtain⟨rfl,rfl,h1,h2,rfl,h4,h5,h6⟩:=hh;obtain⟨kv,hkv,h7⟩:=jo h;obtain⟨zv,hzv,h8⟩:=jo h7;have hkey:=Pe h5 h6 (Pj h1) hkv;have hz:ra z false=some (nn sv zv):=by
      have hd:=nX hzv;rw[G7,Ph h2] at hd;cases z with
      |nil=>simp at hd;|cons a r=>
       cases r with
       |nil=>simp only[ξ,γv,Γ,and_true] at hd;simp[ra,hd];|cons=>simp at hd
     obtain⟨r,hr,hm⟩:=Hq (sv:=sv) h1 h4 kv es 0;refine⟨_,_,?_,h8⟩;simp only[bK,hx,γF,hkey,fR ho,bq.g,if_true,hr,hz];cases hf:nZ sk sv kv es with
     |some v=>
      rw[hf] at hm;obtain⟨j,rfl,_⟩:=hm;simp only[Option.getD_some];cases ok<;>simp only[ψ,if_false,if_true,γF,gL,Pg h2,ζW,ζd];|none=>
      rw[hf] at hm;obtain⟨rfl,_⟩:=hm;simp only[Option.getD_none];cases ok<;>simp only[ψ,if_false,if_true,γF,gL,Pg h2,ζW,ζd]
    ·exact h.elim
   ·exact h.elim
  ·exact h.elim;|q9 ks ka x k v=>
  simp only[eT] at h;split at h
  ·rename_i id hx;split at h
   ·rename_i sk sv xx es kt pu ho;split at h
    ·rename_i hh;obtain⟨rfl,rfl,h1,h2,h4,h5,h6,h9⟩:=hh;obtain⟨kv,hkv,h7⟩:=jo h;obtain⟨vv,hvv,h8⟩:=jo h7;have hkey:=Pe h5 h6 (Pj h1) hkv;have hv:(ρ v).g=nn sv vv:=by
      have hd:=nX hvv;rw[Ph h2] at hd;have hc:(ρ v).cellsOf=[ρ v]:=by
       revert h9;cases ρ v<;>simp[SV.cellsOf,vH]
      rw[hc] at hd;simpa using hd
     obtain⟨r,hr,hm⟩:=Hq (sv:=sv) h1 h4 kv es 0;refine⟨_,_,?_,h8⟩;have hpure:(nn sv vv).pure=true:=by simp[nn,AV.pure]
     simp only[bK,hx,γF,hkey,fR ho,bq.g,hv,hpure,hr,qA];rw[if_neg (by simp)];cases hf:nZ sk sv kv es with
     |some w=>
      rw[hf] at hm;obtain⟨j,rfl,h10,h11⟩:=hm;rw[O9 h10 h11];simp only[Nat.zero_add];rw[Pm];|none=>
      rw[hf] at hm;obtain⟨rfl,h10⟩:=hm;rw[Hr h10];simp
    ·exact h.elim
   ·exact h.elim
  ·exact h.elim
end
mutual
theorem Hy {o:Store} {k:Nat}:∀{v:AV},v.bZ k=true->v.bU o (λi=>decide (k<=i))=some v
 | .os m d j e,h=>by
  simp_all[AV.bZ,AV.bU,if_neg];| .ptr m d e,h=>by
  simp_all[AV.bZ,AV.bU,if_neg];| .agg g,h=>by simp only[AV.bZ] at h;simp only[AV.bU,xG h,ν];| .bI g,h=>by simp only[AV.bZ] at h;simp only[AV.bU,xG h,ν];| .fn f a b,h=>by
  simp only[AV.bZ,θ] at h;simp only[AV.bU,xG h.1,xG h.2];| .ud,_| .sc _,_| .sl _ _,_| .ep _ _,_| .mp _,_| .jm _ _,_=>by simp only[AV.bU]
theorem xG {o:Store} {k:Nat}:∀{l:List AV},ez k l=true->gW o (λi=>decide (k<=i)) l=some l
 |[],_=>by simp[gW];|c::g,h=>by
  simp only[ez,θ] at h;simp only[gW,Hy h.1,xG h.2]
end
theorem Pq {o:Store} {k:Nat}:∀{l:List (Value×AV)},ez k (l.map (·.2))=true->qo o (λi=>decide (k<=i)) l=some l
 |[],_=>by simp[qo];|(q,c)::a,h=>by
  simp only[ξ,ez,θ] at h;simp only[qo,Hy h.1,Pq h.2]
theorem ZP {o:Store} {k:Nat} {x:bR} (h:x.bZ k=true):x.bU o (λi=>decide (k<=i))=some x:=by
 cases x with
 |dead=>rfl;|cells b e f a=>
  cases a with
  |true=>simp only[bR.bU,if_true];|false=>simp_all[bR.bZ,bR.bU,xG]
 |map d c a=>
  cases a with
  |true=>simp only[bR.bU,if_true];|false=>simp_all[bR.bZ,bR.bU,Pq]
theorem Pv {o:Store} {k:Nat}:∀{r:Store},(∀x∈r,x.bZ k=true)->jE o (λi=>decide (k<=i)) r=some r
 |[],_=>rfl
 |x::r,h=>by
  simp only[jE,ZP (h x (by simp)),Pv (r:=r) λy a=>h y (by simp[a])]
theorem Px {k:Nat}:∀{o:Store} {i:Nat},(fQ (λj=>decide (k<=j)) i o).take (k - i)=o.take (k - i)
 |[],i=>by simp[fQ];|x::r,i=>by
  simp only[fQ];by_cases a:i<k
  ·rw[show k - i=(k - (i+1))+1 from by omega,δt,δt,Px];grind
  simp_all
theorem aiE {k i:Nat} (h:i<k):(ω k).contains i=true:=by simp[h]
theorem Py {o:Store} {k:Nat}:∀{d:Nat} {vs:List AV},ez k vs=true->cY o d vs (ω k)=ω k:=by
 intro d;induction d with
 |zero=>grind[cY];|succ d e=>
  intro vs h;cases vs with
  |nil=>simp[cY];|cons v vs=>
   simp only[ez,θ] at h;have i:=h.1;simp only[cY];cases v with
   |agg g=>grind[AV.bZ];|bI g=>grind[AV.bZ];|fn f a b=>grind[AV.bZ];|ptr c _ _=>simp_all[AV.bZ];|os c _ _ _=>simp_all[AV.bZ];|mp c=>simp_all[AV.bZ];|_=>simp only[e h.2]
theorem Pz:∀{n s i p:Nat},s<=i->i<s+n->idxOf (ζy s n) i p=some (p+(i - s))
 |0,s,i,p,a,b=>by omega;|n+1,s,i,p,a,b=>by
  simp only[εt,idxOf];by_cases h:s=i;·subst h;simp
  ·have:(s==i)=false:=by simpa using h
   rw[this];simp only[ψ,if_false];rw[Pz (by omega) (by omega)];grind
theorem Hz {k i:Nat} (h:i<k):idxOf (ω k) i=some i:=by
 rw[δE,Pz (by omega) (by omega)];simp
mutual
theorem C9 {k:Nat}:∀{v:AV},v.bZ k=true->v.ren (λj=>idxOf (ω k) j)=some v
 | .os g d m e,h=>by simp_all[AV.bZ,δw,Hz];| .ptr g d e,h=>by simp_all[AV.bZ,δw,Hz];| .mp g,h=>by simp_all[AV.bZ,δw,Hz];| .agg i,h=>by simp only[AV.bZ] at h;simp only[δw,xH h,ν];| .bI i,h=>by simp only[AV.bZ] at h;simp only[δw,xH h,ν];| .fn f a b,h=>by
  simp only[AV.bZ,θ] at h;simp only[δw,xH h.1,xH h.2];| .ud,_| .sc _,_| .sl _ _,_| .ep _ _,_| .jm _ _,_=>by simp only[δw]
theorem xH {k:Nat}:∀{l:List AV},ez k l=true->iM (λj=>idxOf (ω k) j) l=some l
 |[],_=>by simp[iM];|c::i,h=>by
  simp only[ez,θ] at h;simp only[iM,C9 h.1,xH h.2]
end
theorem PD {k:Nat}:∀{l:List (Value×AV)},ez k (l.map (·.2))=true->oU (λj=>idxOf (ω k) j) l=some l
 |[],_=>by simp[oU];|(q,c)::a,h=>by
  simp only[ξ,ez,θ] at h;simp only[oU,C9 h.1,PD h.2]
theorem ZQ {k:Nat} {x:bR} (h:x.bZ k=true):x.ren (λj=>idxOf (ω k) j)=some x:=by
 cases x with
 |dead=>rfl;|cells b e f a=>
  cases a with
  |true=>simp only[bR.ren,if_true];|false=>simp_all[bR.bZ,bR.ren,xH]
 |map d c a=>
  cases a with
  |true=>simp only[bR.ren,if_true];|false=>simp_all[bR.bZ,bR.ren,PD]
theorem HA {k:Nat} {o:Store} (a:∀x∈o.take k,x.bZ k=true) (c:k<=o.length):∀{n s:Nat},s+n=k->kV o (ω k) (ζy s n)=some ((o.take k).drop s)
 |0,s,h=>by
  grind[kV];|n+1,s,h=>by
  simp only[εt,kV];have d:s<o.length:=by omega
  have e:o[s]?=some o[s]:=μ d;rw[e,HA a c (by omega)];have f:o[s]∈o.take k:=by
   rw[List.mem_take_iff_getElem];grind
  simp only[ZQ (a _ f),ν];congr 1;have b:s<(o.take k).length:=by simp;omega
  rw[List.drop_eq_getElem_cons b];simp
theorem nodup_range':∀{n s:Nat},iN.pE (ζy s n)=true
 |0,_=>by simp[iN.pE];|n+1,s=>by
  simp only[εt,iN.pE,nodup_range',δT,Bool.not_eq_true'];grind
theorem PE {k:Nat}:∀{a b:List AV},ez k a=true->ez k b=true->ez k (a++b)=true
 |[],b,_,h=>h
 |x::a,b,h,c=>by
  simp only[ez,θ] at h;simp only[γJ,ez,h.1,PE h.2 c,Bool.and_self]
theorem HB {k:Nat}:∀{o:Store},(∀x∈o,x.bZ k=true)->ez k (o.flatMap lM.bR.zi)=true
 |[],_=>by simp[ez];|x::o,h=>by
  simp only[δZ];refine PE ?_ (HB λy a=>h y (by simp[a]));have b:=h x (by simp);cases x<;>grind[lM.bR.zi,ez,bR.bZ]
theorem PG {k:Nat} {r:AV} {o:Store} (e:r.bZ k=true) (b:∀x∈o,x.bZ k=true) (j:k<=o.length):lM k r o=some (r,o.take k):=by
 unfold lM;rw[Hy e,Pv b];simp only;have a:(fQ (λi=>decide (k<=i)) 0 o).take k=o.take k:=by simpa using Px (k:=k) (o:=o) (i:=0)
 have d:∀{o:Store} {i:Nat},(fQ (λi=>decide (k<=i)) i o).length=o.length:=by
  intro o;induction o with
  |nil=>intro i;rfl;|cons x o l=>simp_all[fQ]
 have h:∀x∈o.take k,x.bZ k=true:=λx g=>b x (List.mem_of_mem_take g);rw[a,Py (by grind[ez,HB])];have f:iN.pE (ω k)=true:=by rw[δE];exact nodup_range'
 rw[if_pos f,C9 e];have c:=HA (k:=k) (o:=fQ (λi=>decide (k<=i)) 0 o) (by simp_all) (by simp_all) (n:=k) (s:=0) (by omega);rw[<-δE,a,εo] at c;rw[c]
theorem HC:∀{env:fD} {s:Nat} {v:SV},(jU env s).g=v.g->gE (xy env s v)=gE env
 |[],_,_,_=>rfl
 |p::r,s,v,h=>by
  simp only[xy,jU] at h ⊢;cases a:δs p.1 s with
  |true=>
   simp_all[gE];|false=>
   rw[a] at h;simp only[cond_false] at h ⊢;have:=HC h;grind[gE]
theorem ZR {env:fD} {g:Option (Option Nat×Bool)} {K:fD->Bool->Prop} (h:G0 env g K):∃a w,gE a=gE env/\mC (gE env) g=some w/\K a w:=by
 unfold G0 at h;split at h;·exact⟨_,_,rfl,rfl,h⟩
 ·exact h.elim
 ·rename_i s b;split at h;·grind[mC,og,γF]
  ·rename_i c d;cases c<;>grind[HC,mC,og,γF]
  all_goals grind[mC,og,γF,gL]
section
variable {call:di} {p:ja}
theorem PH:∀{a b:cj},kH a b->gO a=gO b
 |[],[],_=>rfl
 |x::a,y::b,h=>by
  obtain⟨c,d⟩:=h;have e:x.g=y.g:=c;simp only[gO,ξ,e];congr 1;exact PH d
def vN:Trace->Trace->Prop
 |[],[]=>True
 |x::a,y::b=>(x.1=y.1/\x.2.1=y.2.1/\∀j∈x.2.2,j∈y.2.2)/\vN a b
 |_,_=>False
theorem vN.look:∀{a b:Trace} {i:Nat},vN a b->(qm a i).1=(qm b i).1/\∀j∈(qm a i).2,j∈(qm b i).2
 |[],[],_,_=>⟨rfl,λj h=>h⟩
 |(k,x)::a,(g,y)::b,i,h=>by
  obtain⟨⟨c,e,d⟩,f⟩:=h;simp only at c e d;subst c;simp only[qm];split;·exact⟨e,d⟩
  ·exact vN.look f
theorem ZS {a b d c:List Nat} (f:∀j∈a,j∈d) (e:∀j∈b,j∈c) (h:wS d c=true):wS a b=true:=by
 grind[wS]
theorem ZT {n:Nat} {a b:Trace} {c:List (Nat×Nat)} (h:vN a b) (d:tL n b c=true):tL n a c=true:=by
 unfold tL at d ⊢;rw[List.all_eq_true] at d ⊢;intro p e;have l:=d p e;obtain⟨g,k⟩:=h.look (i:=p.1);obtain⟨f,j⟩:=h.look (i:=p.2);grind[ZS]
theorem HD (u:pO call p.C) {base:Nat}:∀{d:List dC} {st:cy} {l:Trace} {K:cy->Trace->Prop},xA p base d st l K->
  ∃st' T,gj call base d st.g=some st'.g/\vN (mD call base d st.g) T/\K st' (T.reverse++l)
 |[],st,l,K,h=>⟨st,[],rfl,trivial,h⟩
 |i::r,st,l,K,h=>by
  simp only[xA] at h;obtain⟨a,w,B,s,q⟩:=ZR h;have A:st.g=⟨gE a,gO st.o⟩:=by grind[cy.g]
  rw[<-B] at s;cases w with
  |true=>
   simp only[if_true] at q;obtain⟨v,y,E,c⟩:=ZO u q;have b:iu call base i st.g=some (cy.g ⟨vD a i.dst v,y⟩):=by
    grind[iu,OZ,zg,cy.g,OX]
   have k:∀W:List Nat,(∀j∈eA call i.op (λx=>(jI a x).g) (gO st.o) (base+i.bD),j∈W)->
     xA p base r ⟨vD a i.dst v,y⟩ ((i.idx,dR i.op (λx=>(jI a x).g) (st.o.map bq.g) (base+i.bD),W)::l) K->
     ∃st' T,gj call base (i::r) st.g=some st'.g/\vN (mD call base (i::r) st.g) T/\K st' (T.reverse++l):=λW G c=>by
    obtain⟨st',T,D,z,F⟩:=HD u c;refine⟨st',(i.idx,dR i.op (λx=>(jI a x).g) (st.o.map bq.g) (base+i.bD),W)::T,by grind[gj],?_,?_⟩
    ·simp only[mD,b];rw[A];simp only[s,OZ];exact⟨⟨rfl,rfl,G⟩,z⟩
    simp_all
   unfold OU at c;split at c
   ·rename_i f n t;split at c
    ·obtain⟨H,c⟩:=c;refine k [] (λj m=>?_) c;rw[t] at E m;have e:iN call f (n.map λx=>(jI a x).g) (gO st.o)=some (v.g,gO y):=by simp_all[bK,gK]
     simp only[eA,e,List.mem_filter,decide_eq_true_eq] at m;grind[PH]
    ·exact k _ (λj m=>Gy m) c
   ·exact k _ (λj m=>Gy m) c;|false=>
   simp only[ψ,if_false] at q;obtain⟨st',T,D,z,F⟩:=HD u q;have b:iu call base i st.g=some (cy.g ⟨vD a i.dst (.bI []),st.o⟩):=by
    grind[iu,cy.g,OX,γF,gL]
   refine⟨st',(i.idx,[],[])::T,by grind[gj],?_,?_⟩
   ·simp only[mD,b];rw[A];simp only[s];exact⟨⟨rfl,rfl,λj h=>h⟩,z⟩
   simp_all
theorem ZU (k:Nat):gO (δ k .dead)=gk k:=by simp[gO,gk,bq.g]
theorem PI (a b:cj):gO (a++b)=gO a++gO b:=by simp[gO]
theorem ZV (x:bq):x.g.mZ=x.mZ:=by cases x<;>rfl
theorem ZW (base:Nat) (o:cj):gO (G2 base o)=rb base (gO o):=by
 unfold G2 rb;have:((gO o).drop base).all (·.mZ)=(o.drop base).all (·.mZ):=by
  simp only[gO,<-List.map_drop,ζ3];grind[ZV]
 rw[this];cases(o.drop base).all (·.mZ);·rfl
 ·simp[gO]
theorem ZX (i:pO call p.C) {k:Nat} {b:List dC} {a:List (Nat×Nat)} {st:cy} {K:cy->Prop} (h:G3 p k b a st K):∃st',pF call k b a st.g=some st'.g/\K st':=by
 unfold G3 at h;obtain⟨st',T,f,j,d⟩:=HD i h;rw[List.append_nil,List.reverse_reverse] at d;have e:(cy.mk st.env (st.o++δ k .dead)).g=⟨st.g.env,st.g.o++gk k⟩:=by simp[cy.g,PI,ZU]
 rw[e] at f j;have c:st.g.o.length=st.o.length:=by simp[cy.g,oh]
 split at d
 ·rename_i l;refine⟨_,?_,d⟩;simp only[pF,c];rw[f];simp only;rw[if_pos (by
   grind[gk,ZT])];grind[cy.g,ZW]
 simp_all
end
theorem Da {v:SV}:isNil v=true↔v.g= .sc (.slice none 0 0):=by
 constructor
 ·intro h;unfold isNil at h;split at h;·rfl
  ·cases h
 ·intro h;cases v<;>simp only[γF,reduceCtorEq,δd] at h;subst h;rfl
section
variable {o:cj} {id:Nat} {s:bp} {l:List s.T} {e:TypeId}
def pid (id:Nat):Nat->Bool:=λi=>i==id
mutual
theorem PK (r:o[id]?=some (.row s l e true)):∀{v:SV} {K:SV->Prop},jJ id s l v K->∃E:SV,v.g.bU (gO o) (pid id)=some E.g/\K E
 | .ow j n A,K,h=>by
  simp only[jJ] at h;split at h
  ·rename_i q;subst q;split at h
   ·rename_i u;subst u;obtain⟨rfl,D⟩:=h;refine⟨_,?_,D⟩;have I:Δ (l.length*s.sz) (cF s l)=cF s l:=γq (by grind[fe]);simp_all[γF,AV.bU,pid,fR,bq.g,fe]
   simp_all
  ·rename_i q;refine⟨_,?_,h⟩;simp_all[γF,AV.bU,pid];| .os j w p n A,K,h=>by
  simp only[jJ] at h;split at h
  ·rename_i q;subst q;split at h
   ·rename_i u;subst u;obtain⟨rfl,C,D⟩:=h;refine⟨_,?_,D⟩;have F:(w+p)*s.sz<=l.length*s.sz:=γM _ C;rw[δV] at F;have B:((l.drop w).take p).length=p:=by simp;omega
    simp only[γF,AV.bU,pid,BEq.rfl,if_true,fR r,bq.g,fe,F,and_self,zV,B]
   simp_all
  ·rename_i q;refine⟨_,?_,h⟩;simp_all[γF,AV.bU,pid];| .oc j w p n A,K,h=>by
  simp only[jJ] at h;split at h;·exact h.elim
  ·rename_i q;exact⟨_,by simp_all[γF,AV.bU,pid],h⟩;| .rp j i f n A,K,h=>by
  simp only[jJ] at h;split at h;·exact h.elim
  ·rename_i q;exact⟨_,by simp_all[γF,AV.bU,pid],h⟩;| .ptr j f t,K,h=>by
  simp only[jJ] at h;split at h;·exact h.elim
  ·rename_i q;exact⟨_,by simp_all[γF,AV.bU,pid],h⟩;| .ap j a b c d i,K,h=>by
  simp only[jJ] at h;split at h;·exact h.elim
  ·rename_i q;exact⟨_,by simp_all[γF,AV.bU,pid],h⟩;| .agg x,K,h=>by
  simp only[jJ] at h;obtain⟨m,z,y⟩:=vO r h;grind[γF,AV.bU];| .bI x,K,h=>by
  simp only[jJ] at h;obtain⟨m,z,y⟩:=vO r h;grind[γF,AV.bU];| .fn f a b,K,h=>by
  simp only[jJ] at h;obtain⟨M,z,y⟩:=vO r h;obtain⟨L,G,H⟩:=vO r y;grind[γF,AV.bU];| .ud,K,h=>⟨.ud,by grind[γF,AV.bU],by grind[jJ]⟩
 | .sc v,K,h=>⟨.sc v,by grind[γF,AV.bU],by grind[jJ]⟩
 | .il k n,K,h=>⟨.il k n,by grind[γF,AV.bU],by grind[jJ]⟩
 | .si k n,K,h=>⟨.si k n,by grind[γF,AV.bU],by grind[jJ]⟩
 | .bl b,K,h=>⟨.bl b,by grind[γF,AV.bU],by grind[jJ]⟩
 | .sb b,K,h=>⟨.sb b,by grind[γF,AV.bU],by grind[jJ]⟩
 | .row s l,K,h=>⟨.row s l,by grind[γF,AV.bU],by grind[jJ]⟩
 | .ep s l i f,K,h=>⟨.ep s l i f,by grind[γF,AV.bU],by grind[jJ]⟩
 | .mp i,K,h=>⟨.mp i,by grind[γF,AV.bU],by grind[jJ]⟩
 | .ia t x,K,h=>⟨.ia t x,by grind[γF,AV.bU],by grind[jJ]⟩
 | .ite c a b,K,h=>⟨.ite c a b,by grind[γF,AV.bU],by grind[jJ]⟩
theorem vO (r:o[id]?=some (.row s l e true)):∀{x:List SV} {K:List SV->Prop},rC id s l x K->∃m:List SV,gW (gO o) (pid id) (gL x)=some (gL m)/\K m
 |[],K,h=>⟨[],by simp[gL,gW],by grind[rC]⟩
 |c::x,K,h=>by
  simp only[rC] at h;obtain⟨J,z,y⟩:=PK r h;obtain⟨m,G,H⟩:=vO r y;grind[gL,gW]
end
theorem HE (b:o[id]?=some (.row s l e true)):∀{env:fD} {K:fD->Prop},zM id s l env K->∃a,vk (gO o) (pid id) (gE env)=some (gE a)/\K a
 |[],K,h=>⟨[],rfl,h⟩
 |(k,v)::r,K,h=>by
  simp only[zM] at h;obtain⟨f,d,c⟩:=PK b h;obtain⟨j,g,i⟩:=HE b c;grind[gE,vk]
theorem Db {o:Store} {q:Nat->Bool}:∀{cs:List AV},(∀a∈cs,Plain a)->gW o q cs=some cs
 |[],_=>by simp[gW];|a::cs,h=>by
  have d:=Db (o:=o) (q:=q) (cs:=cs) λb c=>h b (by simp[c]);rcases h a (by simp) with⟨v,rfl,_⟩|⟨n,e,rfl,_⟩<;>simp only[gW,AV.bU,d]
theorem HF {o:Store} {q:Nat->Bool}:∀{es:List (Value×AV)},(∀a∈es,∃v,a.2= .sc v)->qo o q es=some es
 |[],_=>by simp[qo];|(k,a)::es,h=>by
  obtain⟨v,b⟩:=h (k,a) (by simp);simp only at b;subst b;simp only[qo,AV.bU,HF (es:=es) λa c=>h a (by simp[c])]
theorem sJ (j:o[id]?=some (.row s l e true)):∀{i:Nat} {r:cj} {K:cj->Prop},ob id s l i r K->∃r' mid,jE (gO o) (pid id) (gO r)=some mid/\fQ (pid id) i mid=gO r'/\K r'
 |i,[],K,h=>⟨[],[],rfl,rfl,h⟩
 |i,x::r,K,h=>by
  cases x with
  |dead=>
   simp only[ob] at h;obtain⟨r',mid,w,n,f⟩:=sJ j h;grind[gO,bq.g,jE,bR.bU,fQ];|cells N p F d=>
   simp only[ob] at h;cases d with
   |true=>
    simp only[if_true] at h;split at h;·exact h.elim
    ·rename_i B;obtain⟨r',mid,w,n,f⟩:=sJ j h;refine⟨_,.cells (gL N) p F true::mid,?_,?_,f⟩;all_goals simp_all[gO,bq.g,jE,bR.bU,fQ,pid];|false=>
    simp only[ψ,if_false] at h;obtain⟨A,z,k⟩:=vO j h;obtain⟨r',mid,w,n,f⟩:=sJ j k;refine⟨_,.cells (gL A) p F false::mid,?_,?_,f⟩;all_goals simp_all[gO,bq.g,jE,bR.bU,fQ]
  |o5 v u p t=>
   simp only[ob] at h;split at h;·exact h.elim
   ·obtain⟨O,z,k⟩:=vO j h;split at k
    ·rename_i m M;obtain⟨L,_⟩:=C6 M;obtain⟨r',mid,w,n,f⟩:=sJ j k;refine⟨_,(bq.row v (u++m) p false).g::mid,?_,?_,f⟩
     ·simp only[gO,ξ,bq.g] at w z ⊢;have G:∀(a b c:List AV),gW (γb bq.g o) (pid id) a=some a->gW (γb bq.g o) (pid id) b=some c->gW (γb bq.g o) (pid id) (a++b)=some (a++c):=λa b c w n=>by
       induction a<;>grind[gW]
      have P:gW (γb bq.g o) (pid id) (cF v u)=some (cF v u):=Db (λa C=>np C);simp_all[jE,bR.bU,OM]
     ·simp only[bq.g,fQ,n];rfl
    simp_all;|row v u p d=>
   simp only[ob] at h;have y:(bq.row v u p d).g.bU (gO o) (pid id)=some (bq.row v u p d).g:=by
    cases d with
    |true=>simp only[bq.g,bR.bU,if_true];|false=>
     simp only[bq.g,bR.bU,ψ,if_false];grind[Db,np]
   split at h
   ·rename_i B;cases d with
    |false=>simp_all;|true=>
     simp only[if_true] at h;obtain⟨r',mid,w,n,f⟩:=sJ j h;refine⟨_,(bq.row v u p true).g::mid,?_,?_,f⟩;all_goals simp_all[gO,jE,bq.g,fQ,pid]
   ·rename_i B;obtain⟨r',mid,w,n,f⟩:=sJ j h;refine⟨_,(bq.row v u p d).g::mid,?_,?_,f⟩;·grind[gO,jE]
    ·cases d<;>simp only[bq.g,fQ,n,pid,beq_iff_eq,if_neg B]<;>rfl;|map H D I E J d=>
   simp only[ob] at h;have y:(bq.map H D I E J d).g.bU (gO o) (pid id)=some (bq.map H D I E J d).g:=by
    cases d with
    |true=>simp only[bq.g,bR.bU,if_true];|false=>
     simp only[bq.g,bR.bU,ψ,if_false];rw[HF (λa C=>by obtain⟨q,_,rfl⟩:=Θ.1 C;exact⟨_,rfl⟩),ν]
   obtain⟨r',mid,w,n,f⟩:=sJ j h;grind[gO,jE,bq.g,fQ]
end
theorem ZY {v:SV}:(∃id,ug.xB v=some id/\∃a b c,v.g= .os id a b c)\/(ug.xB v=none/\∀id a b c,v.g≠ .os id a b c):=by
 cases v<;>simp[ug.xB,γF]
theorem PL {p:ja} {lo:Nat} {h:kB} {st:cy} {K:cy->Prop} {v:SV} (t:h.own=false) (f:BN h st.g=some v.g)
  (d:match ug.xB v with
   |some id=>if Nat.ble lo id then(match st.o[id]? with
    |some (.row s l e pu)=>zM id s l st.env λenv=>ob id s l 0 (if pu then st.o else st.o.set id (.row s l e true)) λo=>K ⟨env,o⟩
    |_=>False) else K st
   |none=>K st):∃st',j8 lo h st.g=st'.g/\K st':=by
 let _:=p;unfold j8;rw[if_neg (by simp[t]),f];rcases @ZY v with⟨id,w,a,b,c,x⟩|⟨w,x⟩
 ·rw[w] at d;rw[x];simp only at d ⊢;split at d
  ·rename_i q;rw[if_pos q];split at d
   ·rename_i s l e pu m;have D:(λi=>i==id)=pid id:=rfl;cases pu with
    |true=>
     simp only[if_true] at d;obtain⟨j,A,n⟩:=HE m d;obtain⟨B,u,C,y,r⟩:=sJ m n;refine⟨_,?_,r⟩;simp_all[zh,cy.g,fR,bq.g,BQ];|false=>
     simp only[ψ,if_false] at d;have z:id<st.o.length:=(ζ.1 m).1;have k:(st.o.set id (.row s l e true))[id]?=some (.row s l e true):=by simp_all
     obtain⟨j,A,n⟩:=HE (o:=st.o.set id (.row s l e true)) k d;obtain⟨B,u,C,y,r⟩:=sJ k n;refine⟨_,?_,r⟩;simp_all[zh,cy.g,fR,bq.g,o6,qA,BQ]
   simp_all
  grind
 grind
section
variable {p:ja} {lo:Nat}
theorem ZZ {h:kB} {st:cy} {K:cy->Prop} (a:ug p lo h st K):∃st',j8 lo h st.g=st'.g/\K st':=by
 unfold ug at a;split at a
 ·rename_i f;unfold j8;rw[if_pos f];unfold BP;split at a
  ·rename_i b;simp only[b];split at a
   ·rename_i r;have t:=Da.1 r;rw[<-og] at t;have B:dL st.g.env h.slot= .sc (.slice none 0 0):=t;rw[B];split at a
    ·rename_i s J;split at a
     ·rename_i w;refine⟨_,?_,a⟩;simp[cy.g,gE,gO,γF,bq.g,cF,w]
     simp_all
    simp_all
   ·rename_i r;split at a
    ·rename_i z;split at a
     ·rename_i m G D d;have n:dL st.g.env h.slot= .os m 0 G (G*D):=by
       show dL (gE st.env) h.slot=_;rw[og,d];rfl
      rw[n];split at a
      ·rename_i s l e y;refine⟨_,?_,a⟩;simp_all[BO,cy.g,fR,bq.g,qA]
      simp_all
     simp_all
    ·rename_i z;refine⟨st,?_,a⟩;split
     ·rename_i L;have:dL (gE st.env) h.slot= .sc (.slice none 0 0):=L;grind[og,Da]
     all_goals simp_all
  ·rename_i k b;simp only[b];split at a
   ·rename_i m c j d;have n:dL st.g.env h.slot= .ptr m c j:=by
     show dL (gE st.env) h.slot=_;rw[og,d];rfl
    rw[n];split at a
    ·rename_i i e F E y;have u:st.g.o[m]?=some (.cells (gL i) e F E):=fR y;simp only[u];split at a
     ·rename_i r;cases C:i[c+k]? with
      |none=>simp_all;|some v=>
       rw[C] at r;simp only[Option.any_some] at r;have M:=Da.1 r;have A:(gL i)[c+k]?=some (.sc (.slice none 0 0)):=by grind[ui]
       simp only[A,jW];split at a
       ·rename_i I;rw[if_pos I];split at a
        ·rename_i s J;split at a
         ·rename_i w;refine⟨_,?_,a⟩;have N:gL (i.set (c+k) (.ow st.o.length 0 h.sz))=(gL i).set (c+k) (.os st.o.length 0 0 0):=by
           simp_all[gl,γF]
          simp_all[cy.g,bq.g,gO,cF]
         simp_all
        simp_all
       simp_all
     grind[ui,Da]
    simp_all
   simp_all
 ·rename_i f;have f:h.own=false:=by simpa using f
  unfold ug.OV at a;cases b:h.off with
  |none=>
   rw[b] at a;simp only at a;refine PL (p:=p) (v:=jU st.env h.slot) f ?_ ?_;all_goals grind[BN,cy.g,og];|some k=>
   rw[b] at a;simp only at a;cases q:jU st.env h.slot with
   |ptr m c j=>
    rw[q] at a;simp only at a;cases y:st.o[m]? with
    |none=>simp_all;|some x=>
     rw[y] at a;cases x with
     |cells i e F E=>
      simp only at a;by_cases H:i.length=j
      ·rw[if_pos H] at a;cases C:i[c+k]? with
       |none=>simp_all;|some v=>
        rw[C] at a;refine PL (p:=p) (v:=v) f ?_ ?_
        ·unfold BN;rw[b];have:dL st.g.env h.slot= .ptr m c j:=by
          show dL (gE st.env) h.slot=_;rw[og,q];rfl
         have u:st.g.o[m]?=some (.cells (gL i) e F E):=fR y;simp_all[behind,jW,ui]
        grind
      simp_all;|_=>exact a.elim
   |_=>rw[q] at a;exact a.elim
theorem HG:∀{hs:List kB} {st:cy} {K:cy->Prop},zO p lo hs st K->∃st',hs.foldl (λs h=>j8 lo h s) st.g=st'.g/\K st'
 |[],st,K,h=>⟨st,rfl,h⟩
 |h::hs,st,K,hk=>by
  simp only[zO] at hk;obtain⟨st1,h1,h2⟩:=ZZ hk;obtain⟨st2,h3,h4⟩:=HG h2;exact⟨st2,by rw[List.foldl_cons,h1,h3],h4⟩
theorem Z1 (a:List Nat) (env:fD):gE (G4 a env)=prune a (gE env):=by
 simp[G4,prune,gE,<-og]
theorem HH (k:Nat) (st:cy):(trimS k st).g=trim k st.g:=by
 unfold trimS trim;have b:st.g.o.length=st.o.length:=by simp[cy.g,oh]
 have c:(st.g.env.all λp=>p.2.bZ k)=(st.env.all λp=>p.2.bZ k):=by
  simp only[cy.g,gE,ζ3];grind[zT]
 have d:((st.g.o.take k).all λx=>x.bZ k)=((st.o.take k).all λx=>x.bZ k):=by
  simp only[cy.g,gO,<-List.map_take,ζ3];grind[C2]
 rw[b,c,d];by_cases a:st.o.length<=k;·simp_all
 ·rw[if_neg a,if_neg a];split;·simp[cy.g,gO]
  ·rfl
variable {T:Tab}
theorem PN {v:Int} {n:Nat} {K:Nat->Prop}:∀{j:Nat},j<=n->splitN v n K j->(n - j:Nat)<=v->∃i:Nat,v=i/\K i
 |0,_,h,a=>by
  grind[splitN];|j+1,c,h,a=>by
  simp only[splitN] at h;by_cases b:v=(n - (j+1):Nat);·grind
  ·exact PN (by omega) h.2 (by omega)
theorem PO {v:Int} {n:Nat} {K:Nat->Prop}:∀{j:Nat},splitN v n K j->0<=v
 |0,h=>h.1
 |j+1,h=>PO h.2
theorem Z2 {x:Option (Nat×Nat×Nat)} {st:cy} {K:cy->Prop} (h:splitK x st K):∃st',st'.g=st.g/\K st':=by
 unfold splitK at h;split at h;·grind
 ·rename_i p a n;split at h
  ·rename_i c e q r b;split at h
   ·rename_i k v o;obtain⟨i,rfl,f⟩:=PN (Nat.le_refl _) h (by have:=PO h;omega);refine⟨_,?_,f⟩;have l:gL (c.set a (.il k i))=gL c:=by
     rw[gl,gl,List.map_set];apply δa;grind[γF]
    simp only[cy.g,qA,bq.g,l,cy.mk.injEq,St.mk.injEq,true_and];apply δa;intro j;rw[List.getElem?_set];split
    ·rename_i d;subst d;have m:=(ζ.1 b).1;rw[if_pos (by grind[oh]),Hj,b];rfl
    ·rfl
   simp_all
  simp_all
theorem PQ:∀{e a:fD},xC e a->gE e=gE a
 |[],[],_=>rfl
 |[],_::_,h=>by grind[xC];|_::_,[],h=>by grind[xC];|(k,v)::e,(d,c)::a,h=>by
  simp only[xC] at h;split at h
  ·rename_i b;subst b;have:=PQ h.2;simp only[gE,ξ] at this ⊢;rw[this,show v.g=c.g from h.1]
  simp_all
theorem xI:∀{o o':cj},kH o o'->gO o=gO o'
 |[],[],_=>rfl
 |[],_::_,h=>by grind[kH];|_::_,[],h=>by grind[kH];|x::o,y::o',h=>by
  simp only[kH] at h;have:=xI h.2;simp only[gO,ξ] at this ⊢;rw[this,show x.g=y.g from h.1]
theorem Dc {s t:cy} (h:zP s t):s.g=t.g:=by
 simp only[cy.g,PQ h.1,xI h.2]
theorem aiF (env:fD) (args:List Operand):args.map (eK (gE env))=gL (args.map (jI env)):=by
 simp_all[gl,zS]
theorem vP (hC:pO T.K p.C) (hI:∀f F,p.it f=some F->T.fn f=some F):∀{c:IR} {Λ:Nat->cG} {st:cy} {Q:Out->cy->Prop},wpS p lo c Λ st Q->VW T zG lo c st.g λout s=>∃ss,s=ss.g/\Q out ss:=by
 intro c;induction c with
 |skip=>intro Λ st Q h;exact VW.skip ⟨st,rfl,h⟩;|exit id=>intro Λ st Q h;exact VW.exit ⟨st,rfl,h⟩;|ret=>intro Λ st Q h;exact VW.ret ⟨st,rfl,h⟩;|goto l=>intro Λ st Q h;exact VW.goto ⟨st,rfl,h⟩;|oR x a b iha ihb=>
  intro Λ st Q h;simp only[wpS] at h;have hx:eK st.g.env x=(jI st.env x).g:=zS _ _;split at h
  ·rename_i he;rw[he] at hx;exact VW.oR hx (by rw[if_pos rfl];exact iha h)
  ·rename_i he;rw[he] at hx;exact VW.oR hx (by rw[if_neg (by simp)];exact ihb h)
  ·rename_i c he;rw[he] at hx;have hset:∀v:SV,(SV.sb c).g=v.g->(cy.mk (CY st.env x v) st.o).g=st.g:=λv hv=>by
    cases x with
    |tmp t=>
     have:jU st.env t= .sb c:=he;simp only[cy.g,CY];rw[HC (by rw[this];exact hv)];|_=>rfl
   refine VW.oR hx ?_;cases c with
   |true=>
    have:=iha (h.1 rfl);rw[hset (.bl true) rfl] at this;rw[if_pos rfl];exact this;|false=>
    have:=ihb (h.2 rfl);rw[hset (.bl false) rfl] at this;rw[if_neg (by simp)];exact this
  ·exact h.elim;|turns l b ih=>
  intro Λ st Q h;cases l with
  |none=>
   simp only[wpS] at h;refine VW.Zm ((ih h).mono ?_);rintro out s ⟨ss,rfl,h2⟩;cases out with
   |norm=>exact⟨by simp,ss,rfl,h2⟩;|exit id=>exact⟨by simp,ss,rfl,h2⟩;|ret=>exact⟨by simp,ss,rfl,h2⟩;|goto l=>exact h2.elim
  |some l=>
   simp only[wpS] at h;split at h
   ·rename_i X shape next J m inner _;obtain⟨⟨h0,hx⟩,hstep⟩:=h;refine VW.Zn (λk s=>∃x,s=(shape x).g/\J x/\m x=k) ?_ (m (next st)) _ ⟨next st,Dc h0,hx,rfl⟩;rintro k s ⟨x,rfl,hj,rfl⟩;refine(ih (hstep x hj)).mono ?_;rintro out s ⟨ss,rfl,h2⟩;cases out with
    |goto l'=>
     obtain⟨rfl,h3,h4,h5⟩:=h2;refine .inl ⟨rfl,_,h5,_,?_,h4,rfl⟩;have h6:=Dc h3;rw[<-h6,HH,show(shape x).o.length=(shape x).g.o.length from by simp[cy.g,oh]];|norm=>exact .inr ⟨by simp,ss,rfl,h2⟩;|exit id=>exact .inr ⟨by simp,ss,rfl,h2⟩;|ret=>exact .inr ⟨by simp,ss,rfl,h2⟩
   ·exact h.elim
 |region id draw k ops kC live pre post=>
  intro Λ st Q h;simp only[wpS] at h;obtain⟨st0,h0,h⟩:=Z2 h;obtain⟨st1,h1,h2⟩:=HG h;obtain⟨st2,h3,h4⟩:=ZX hC h2;obtain⟨G6,h5,h6⟩:=HG h4;refine VW.region ?_;rw[<-h0,h1,h3];refine⟨G6,?_,h6⟩;rw[<-h5];simp only[cy.g,Z1];|tJ g caps d a b _ _=>intro Λ st Q h;exact h.elim;|seq a b iha ihb=>
  intro Λ st Q h;simp only[wpS] at h;refine VW.seq ((iha h).mono ?_);rintro out s ⟨ss,rfl,h2⟩;cases out with
  |norm=>rw[if_pos rfl];exact ihb h2;|exit id=>rw[if_neg (by simp)];exact⟨ss,rfl,h2⟩;|ret=>rw[if_neg (by simp)];exact⟨ss,rfl,h2⟩;|goto l=>rw[if_neg (by simp)];exact⟨ss,rfl,h2⟩
 |cond x a b iha ihb=>
  intro Λ st Q h;simp only[wpS] at h;have hx:eK st.g.env x=(jI st.env x).g:=zS _ _;have hdr:(cy.mk (xE x st.env) st.o).g=⟨pG x st.g.env,st.g.o⟩:=by
   have:∀(t:Nat) (env:fD),(zQ t env).map (λp=>(p.1,p.2.g))=ri t (env.map λp=>(p.1,p.2.g)):=by
    intro t env;induction env with
    |nil=>rfl;|cons p env ih=>
     simp only[zQ,ri,ξ];cases δs p.1 t with
     |true=>simpa using ih;|false=>simpa using ih
   cases x with
   |tmp t=>simp only[cy.g,gE,xE,pG];rw[this];|_=>rfl
  split at h
  ·rename_i he;rw[he] at hx;exact VW.cond hx (by rw[if_pos rfl,<-hdr];exact iha h)
  ·rename_i he;rw[he] at hx;exact VW.cond hx (by rw[if_neg (by simp),<-hdr];exact ihb h)
  ·rename_i c he;rw[he] at hx;refine VW.cond hx ?_;cases c with
   |true=>rw[if_pos rfl,<-hdr];exact iha (h.1 rfl);|false=>rw[if_neg (by simp),<-hdr];exact ihb (h.2 rfl)
  ·exact h.elim;|block id b ih=>
  intro Λ st Q h;simp only[wpS] at h;exact VW.block ((ih h).mono λout s ⟨ss,e,h2⟩=>⟨ss,e,h2⟩);|loop b ih=>
  intro Λ st Q h;simp only[wpS] at h;split at h
  ·rename_i n Z3;clear Z3;induction n generalizing st with
   |zero=>exact h.elim;|succ n ihn=>
    simp only[G5] at h;refine VW.loop ((ih h).mono ?_);rintro out s ⟨ss,rfl,h2⟩;cases out with
    |norm=>
     rw[if_pos rfl];have:=ihn h2;rwa [HH,show st.o.length=st.g.o.length from by simp[cy.g,oh]] at this;|exit id=>rw[if_neg (by simp)];exact⟨ss,rfl,h2⟩;|ret=>rw[if_neg (by simp)];exact⟨ss,rfl,h2⟩;|goto l=>rw[if_neg (by simp)];exact⟨ss,rfl,h2⟩
  ·exact h.elim
  ·rename_i X shape next J m inner _;obtain⟨⟨h0,hx⟩,hstep⟩:=h;refine VW.Zl (λk s=>∃x,s=(shape x).g/\J x/\m x=k) ?_ (m (next st)) _ ⟨next st,Dc h0,hx,rfl⟩;rintro k s ⟨x,rfl,hj,rfl⟩;refine(ih (hstep x hj)).mono ?_;rintro out s ⟨ss,rfl,h2⟩;cases out with
   |norm=>
    rw[if_pos rfl];obtain⟨h3,h4,h5⟩:=h2;refine⟨_,h5,_,?_,h4,rfl⟩;have h6:=Dc h3;rw[<-h6,HH,show(shape x).o.length=(shape x).g.o.length from by simp[cy.g,oh]];|exit id=>rw[if_neg (by simp)];exact⟨ss,rfl,h2⟩;|ret=>rw[if_neg (by simp)];exact⟨ss,rfl,h2⟩;|goto l=>rw[if_neg (by simp)];exact⟨ss,rfl,h2⟩
theorem PR {st:cy}:∀{a:List ng} {K:List SV->Prop},od.goK st a K->∃l,a.mapM (rc st.g)=some (gL l)/\K l
 |[],K,h=>⟨[],by simp[gL],h⟩
 |r::a,K,h=>by
  simp only[od.goK] at h;have b:∃v,rc st.g r=some v.g/\od.goK st a λl=>K (v::l):=by
   unfold od.OW at h;unfold rc;split at h
   ·rename_i c;rw[c];exact⟨_,by grind[cy.g,og],h⟩
   grind[O5,cy.g,og]
  obtain⟨v,i,d⟩:=b;obtain⟨l,f,e⟩:=PR d;exact⟨v::l,by simp_all[gL],e⟩
theorem xJ {st:cy} {b:List ng} {K:SV->Prop} (h:od st b K):∃r,nU st.g b=some r.g/\K r:=by
 unfold od at h;obtain⟨l,c,a⟩:=PR h;unfold nU;rw[c];match l,a with
 |[],a=>exact⟨_,rfl,a⟩;|[v],a=>exact⟨v,rfl,a⟩;|v::w::l,a=>exact⟨_,rfl,a⟩
theorem vQ:∀(i:Nat) (args:List SV),gE (nu i args)=iw i (gL args)
 |_,[]=>rfl
 |i,v::a=>by
  have:=vQ (i+1) a;grind[gE,nu,gL,iw]
theorem HI {Λ:Nat->cG} {P:Program} (hT:kG P T) (hC:pO T.K p.C) (hI:∀f F,p.it f=some F->T.fn f=some F) {f:FuncId} {F:fz} (hF:T.fn f=some F) {args:List SV} {r:AV} (hK:T.K f (gL args) [] false=none) (hlen:args.length=F.params)
  {Q:SV->Prop} (hQ:∀v,Q v->v.g=r) (h:uh p Λ F args Q):gX P f=true/\kF P f (gL args) [] r []:=by
 unfold uh at h;have hw:=vP hC hI h;have hst:(cy.mk (nu 0 args) []).g=⟨iw 0 (gL args),[]⟩:=by simp[cy.g,vQ,gO]
 rw[hst] at hw;obtain⟨h1,h2,_⟩:=CN hT hF (o:=[]) (own:=false) hK (by rw[jW];exact hlen) (v:=r) (o':=[]) (hw.mono λout s hs=>by
  obtain⟨ss,rfl,hq⟩:=hs;cases out with
  |exit id=>exact hq.elim;|goto l=>exact hq.elim;|norm=>
   obtain⟨r0,h1,h2⟩:=xJ hq;obtain⟨v,h3,h4⟩:=Hl h2;refine⟨.inl rfl,?_⟩;rw[h1];show finish false 0 r0.g ss.g.o=_;have:freeze ss.g.o 6 r0.g=some v.g:=h3;simp[finish,this,hQ _ h4];|ret=>
   obtain⟨r0,h1,h2⟩:=xJ hq;obtain⟨v,h3,h4⟩:=Hl h2;refine⟨.inr rfl,?_⟩;rw[h1];show finish false 0 r0.g ss.g.o=_;have:freeze ss.g.o 6 r0.g=some v.g:=h3;simp[finish,this,hQ _ h4]);exact⟨h1,h2⟩
end
structure qB (α:Type) where
 put:α->SV
 dec:SV->Option α
 ok:∀v a,dec v=some a->v.g=(put a).g
 inj:∀a b,(put a).g=(put b).g->a=b
structure qC (α:Type) where
 put:α->List SV
 dec:List SV->Option α
 ok:∀v a,dec v=some a->gL v=gL (put a)
 inj:∀a b,gL (put a)=gL (put b)->a=b
def qC.one {d:Type} (c:qB d):qC d where
 put a:=[c.put a];dec
  |[v]=>c.dec v
  |_=>none;ok v a h:=by
  match v,h with
  |[v],h=>simp only[gL,c.ok v a h]
 inj a b h:=by
  simp only[gL,Γ,and_true] at h;exact c.inj a b h
def qC.cons {f g:Type} (c:qB f) (d:qC g):qC (f×g) where
 put a:=c.put a.1::d.put a.2;dec
  |v::e=>match c.dec v,d.dec e with
   |some a,some b=>some (a,b)
   |_,_=>none
  |[]=>none;ok v a h:=by
  match v,h with
  |v::e,h=>
   simp only at h;split at h
   ·rename_i x y j i;simp only[γ] at h;subst h;simp only[gL,c.ok v x j,d.ok e y i]
   ·cases h
 inj a b h:=by
  simp only[gL,Γ] at h;exact Prod.ext (c.inj _ _ h.1) (d.inj _ _ h.2)
def qC.nil:qC Unit where
 put _:=[];dec
  |[]=>some ()
  |_=>none;ok v a h:=by
  grind
 inj a b h:=rfl
structure bM where
 f:FuncId
 α:Type
 A:qC α
 dom:α->Prop
 res:α->SV
def Holds (P:Program) (c:bM):Prop:=∀a,c.dom a->gX P c.f=true/\kF P c.f (gL (c.A.put a)) [] (c.res a).G []
def pP (f:FuncId):List bM->Option bM
 |[]=>none
 |c::r=>bif δs c.f f then some c else pP f r
def vR (L:List bM) (f:FuncId) (args:List SV) (K:SV->Prop):Prop:=
 match pP f L with
 |some c=>jb (c.A.dec args) λa=>c.dom a/\CX (c.res a) K
 |none=>False
structure nz where
 K:FuncId->List AV->Store->Option (AV×Store)
 C:FuncId->List SV->cj->(SV->cj->Prop)->Prop
def nz.none:nz:=⟨λ_ _ _=> .none,λ_ _ _ _=>False⟩
noncomputable def sK (L:List bM) (W:nz):di:=λf args o own=>
 if own then W.K f args o
 else match o with
  |[]=>match pP f L with
   |some c=>(ans (λa=>gL (c.A.put a)) c.dom (λa=>(c.res a).G) args).map λv=>(v,[])
   |none=> .none
  |_=> .none
noncomputable def qD (a:FuncId->Option fz) (L:List bM) (W:nz):Tab:=⟨a,sK L W⟩
structure qE (P:Program) (W:nz):Prop where
 K:∀f args o r o',W.K f args o=some (r,o')->gX P f=true/\kF P f args o r o'
 C:∀(call:di),(∀f args o,call f args o true=W.K f args o)->∀f args o K,W.C f args o K->∃(r:SV) (o':cj),iN call f (gL args) (gO o)=some (r.g,gO o')/\K r o'
theorem qE.none (P:Program):qE P nz.none where
 K:=λ_ _ _ _ _ h=>by cases h
 C:=λ_ _ _ _ _ _ h=>h.elim
theorem PS:∀{L:List bM} {f:FuncId} {c:bM},pP f L=some c->c.f=f/\c∈L
 |[],_,_,h=>by cases h;|d::L,f,c,h=>by
  simp only[pP] at h;cases a:δs d.f f with
  |true=>
   simp_all;|false=>
   rw[a] at h;simp only[cond_false] at h;obtain⟨b,e⟩:=PS h;simp_all
theorem HJ:∀{v:SV} {K:SV->Prop},CX v K->∃w:SV,w.g=v.G/\K w
 | .ite c a b,K,h=>by
  cases c with
  |true=>exact HJ (v:=a) (h.1 rfl);|false=>exact HJ (v:=b) (h.2 rfl)
 | .ud,_,h| .sc _,_,h| .il _ _,_,h| .si _ _,_,h| .bl _,_,h| .sb _,_,h| .agg _,_,h| .bI _,_,h| .row _ _,_,h| .ep _ _ _ _,_,h| .ptr _ _ _,_,h| .ap _ _ _ _ _ _,_,h| .rp _ _ _ _ _,_,h| .ow _ _ _,_,h| .os _ _ _ _ _,_,h| .oc _ _ _ _ _,_,h| .mp _,_,h| .fn _ _ _,_,h| .ia _ _,_,h=>⟨_,rfl,h⟩
theorem Ab:∀{w v:SV},v.sH w->v.g=w.G
 | .ite c a b,v,h=>by
  cases c with
  |true=>exact Ab (w:=a) (h.1 rfl);|false=>exact Ab (w:=b) (h.2 rfl)
 | .ud,_,h| .sc _,_,h| .il _ _,_,h| .si _ _,_,h| .bl _,_,h| .sb _,_,h| .agg _,_,h| .bI _,_,h| .row _ _,_,h| .ep _ _ _ _,_,h| .ptr _ _ _,_,h| .ap _ _ _ _ _ _,_,h| .rp _ _ _ _ _,_,h| .ow _ _ _,_,h| .os _ _ _ _ _,_,h| .oc _ _ _ _ _,_,h| .mp _,_,h| .fn _ _ _,_,h| .ia _ _,_,h=>h
variable {P:Program} {L:List bM} {W:nz} {fn:FuncId->Option fz}
theorem vS (j:qE P W) (k:∀c∈L,Holds P c) (n:kG P ⟨fn,λ_ _ _ _=>none⟩):kG P (qD fn L W) where
 fn:=n.fn;K:=λg e o b r q h=>by
  simp only[qD,sK] at h;cases b with
  |true=>
   simp only[if_true] at h;obtain⟨p,d⟩:=j.K _ _ _ _ _ h;simp_all;|false=>
   simp only[ψ,if_false] at h;split at h
   ·split at h
    ·rename_i c l;obtain⟨rfl,f⟩:=PS l;obtain⟨v,m,d⟩:=ε.1 h;simp only[Prod.mk.injEq] at d;obtain⟨rfl,rfl⟩:=d;obtain⟨a,rfl,i,rfl⟩:=Zp m;obtain⟨t,s⟩:=k c f a i;simp_all
    ·cases h
   ·cases h
theorem vT (hW:qE P W):pO (qD fn L W).K ⟨vR L,W.C⟩ where
 pure:=λf args K h=>by
  simp only[vR] at h;split at h
  ·rename_i c hc;obtain⟨a,h1,h2,h3⟩:=jo h;obtain⟨r,h4,h5⟩:=HJ h3;refine⟨r,?_,h5⟩;have:=c.A.ok _ _ h1;simp only[qD,sK,ψ,if_false,hc,this];rw[Zo (enc:=λa=>gL (c.A.put a)) c.A.inj h2,h4];rfl
  ·exact h.elim
 own:=λf args o K h=>hW.C _ (λf args o=>by simp[qD,sK]) f args o K h
theorem HK {f:FuncId} {args:List AV} (h:pP f L=none):(qD fn L W).K f args [] false=none:=by
 simp[qD,sK,h]
def om (L:List bM) (W:nz) (a:TypeId->Option bp) (c:List Nat×Bool->Option (bp×bp)) (b:FuncId->Option fz):ja:=⟨⟨vR L,W.C⟩,a,c,λ_=>none,b,λ_=>false⟩
theorem holds_of (c:bM) {F:fz} {ty:TypeId->Option bp} {mt:List Nat×Bool->Option (bp×bp)} {Λ:c.α->Nat->cG} (h0:kG P ⟨fn,λ_ _ _ _=>none⟩) (hW:qE P W) (hL:∀c∈L,Holds P c)
  (hF:fn c.f=some F) (hfr:pP c.f L=none) (hlen:∀a,(c.A.put a).length=F.params)
  (h:∀a,c.dom a->uh (om L W ty mt fn) (Λ a) F (c.A.put a) λv=>v.sH (c.res a)):Holds P c:=by
 intro a hd;exact HI (p:=om L W ty mt fn) (Λ:=Λ a) (vS hW hL h0) (vT hW) (λ_ _ h=>h) hF (HK hfr) (hlen a) (λ_ h=>Ab h) (h a hd)
def HL (L:List bM) (W:nz) (a:TypeId->Option bp) (c:List Nat×Bool->Option (bp×bp)) (b:FuncId->Option fz) (d:FuncId->Bool):ja:=⟨⟨vR L,W.C⟩,a,c,λ_=>none,b,d⟩
theorem Z4 (c:bM) {F:fz} {ty:TypeId->Option bp} {mt:List Nat×Bool->Option (bp×bp)} {ro:FuncId->Bool} {Λ:c.α->Nat->cG} (h0:kG P ⟨fn,λ_ _ _ _=>none⟩) (hW:qE P W) (hL:∀c∈L,Holds P c)
  (hF:fn c.f=some F) (hfr:pP c.f L=none) (hlen:∀a,(c.A.put a).length=F.params)
  (h:∀a,c.dom a->uh (HL L W ty mt fn ro) (Λ a) F (c.A.put a) λv=>v.sH (c.res a)):Holds P c:=by
 intro a hd;exact HI (p:=HL L W ty mt fn ro) (Λ:=Λ a) (vS hW hL h0) (vT hW) (λ_ _ h=>h) hF (HK hfr) (hlen a) (λ_ h=>Ab h) (h a hd)
def eU (k:IntKind):qB Int where
 put n:=.si k n;dec v:=v.int k;ok v a h:=by rw[iO h];rfl
 inj a b h:=by grind[γF]
def PT:qB Bool where
 put b:=.sb b;dec v:=v.boo;ok v a h:=by rw[vC h];rfl
 inj a b h:=by grind[γF]
theorem sL:(s:bp)->(x y:s.T)->dy s x=dy s y->(e:s.flat=true:=by rfl)->x=y
 | .i k,x,y,h,_=>by grind[dy];| .b,x,y,h,_=>by grind[dy];| .fi,⟨o,B,r,f,j,q⟩,⟨p,l,g,u,A,z⟩,h,_=>by
  simp_all[dy,iv];| .off,⟨b,⟨o,B,r,f,j,q⟩,v⟩,⟨c,⟨p,l,g,u,A,z⟩,w⟩,h,_=>by
  simp_all[dy,iv];| .need,⟨a,b⟩,⟨c,d⟩,h,_=>by
  simp_all[dy,iv];| .key,⟨b,⟨o,B,r,f,j,q⟩⟩,⟨c,⟨p,l,g,u,A,z⟩⟩,h,_=>by
  simp_all[dy,iv];| .sit,⟨m,⟨o,B,r,f,j,q⟩,⟨K,F,G,N,L,P⟩⟩,⟨n,⟨p,l,g,u,A,z⟩,⟨O,J,M,I,H,E⟩⟩,h,_=>by
  simp_all[dy,iv];| .bB _,_,_,_,e=>by grind[bp.flat];| .pair s t,(a,b),(c,d),h,e=>by
  simp only[bp.flat,θ] at e;simp only[dy] at h;obtain⟨D,C⟩:=εD h (by grind[GR]);rw[sL s a c D e.1,sL t b d C e.2]
theorem HM {d i:Type} {n:Nat} {f:d->List i} (a:∀x,(f x).length=n) (c:∀x y,f x=f y->x=y):∀{l m:List d},l.length=m.length->l.flatMap f=m.flatMap f->l=m
 |[],[],_,_=>rfl
 |[],_::_,h,_=>by simp at h;|_::_,[],h,_=>by simp at h;|x::l,y::m,b,h=>by
  simp only[δZ] at h;obtain⟨e,g⟩:=εD h (by rw[a,a]);simp only[γD,ζp] at b;rw[c x y e,HM a c b g]
theorem xK:(s:bp)->(x y:s.T)->(h:dP s x=dP s y)->x=y
 | .bB s,x,y,h=>by
  simp only[dP,Γ,AV.sl.injEq,and_true] at h;exact HM (lT s) (xK s) h.1 h.2;| .pair s t,(a,b),(c,d),h=>by
  simp only[dP] at h;obtain⟨e,f⟩:=εD h (by grind[lT]);rw[xK s a c e,xK t b d f];| .i k,x,y,h=>sL (.i k) x y (uk h)
 | .b,x,y,h=>sL .b x y (uk h)
 | .fi,x,y,h=>sL .fi x y (uk h)
 | .off,x,y,h=>sL .off x y (uk h)
 | .need,x,y,h=>sL .need x y (uk h)
 | .key,x,y,h=>sL .key x y (uk h)
 | .sit,x,y,h=>sL .sit x y (uk h)
theorem ly (s:bp) {l m:List s.T} (a:l.length=m.length) (h:cF s l=cF s m):l=m:=
 HM (lT s) (xK s) a h
def ei (s:bp):qB s.T where
 put x:=.agg (encS s x);dec
  | .agg c=>jT s c
  |_=>none;ok v a h:=by
  grind[γF,gl,nX,t7]
 inj a b h:=by
  grind[γF,gl,t7,xK]
theorem o8 {s:bp} {v:SV} {l:List s.T} (h:jH s v=some l):v.g=(SV.row s l).g:=by
 cases v<;>simp only[jH,reduceCtorEq] at h;grind[zZ,γF,cF]
def dG (s:bp):qB (List s.T) where
 put l:=.row s l;dec:=jH s;ok v a h:=o8 h;inj a b h:=by
  grind[γF,ly]
end Go.Vi
