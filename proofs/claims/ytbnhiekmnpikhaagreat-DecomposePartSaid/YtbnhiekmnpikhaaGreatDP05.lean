/-
  The symbolic run: its operations, and what must hold for a piece of code to come to a post. Plain definitions: no proof stands here.
  Conditions: none.
-/
import Derived.Test.YtbnhiekmnpikhaaGreatDP04
set_option maxRecDepth 100000
set_option maxHeartbeats 4000000
set_option linter.all false
open And renaming intro->γj
open BitVec renaming ofInt->γn
open Bool renaming and_eq_true->θ,and_true->δQ,false_eq_true->χ,or_eq_true->δv,true_eq_false->ζQ
open Function renaming comp_def->δl
open Go.Vi.AV renaming sc->δe,ren->δu
open Go.Vi.AV.sc renaming injEq->δb
open Go.Vi.SV renaming g->γB
open List renaming replicate->δ,map_map->γ4,mem_map->Ω,length_cons->γE,length->γc,drop_drop->δh,getElem?_eq_getElem->μ,take->Δ,take_of_length_le->γo,map_cons->π,take_append_drop->γL,cons_append->γG,modify_succ_cons->ζE,getElem?_eq_some_iff->ζ,map_append->γa,flatMap_nil->ζz,nil_append->δJ,drop_zero->εn,map_nil->γq,take_succ_cons->δr,range->ω,range'->ζu,range'_succ->εr,range_eq_range'->δC,flatMap_cons->δX,all_map->ζZ,map->γb,ext_getElem?->γ9,append_inj->εD
open List.cons renaming injEq->Γ
open Nat renaming beq->δq,add_assoc->εY,mul_le_mul_right->γJ,add_mul->δS,add_right_cancel_iff->ζo
open Option renaming map_eq_some_iff->ε,map_some->ν,isSome_some->ζR,isSome_none->ζc
open Option.some renaming injEq->γ
namespace Go.Vi
abbrev fA:=List (Nat×SV)
abbrev bZ:=List bq
structure cu where
 env:fA
 o:bZ
def jU:fA->Nat->SV
 |[],_=> .ud
 |p::r,s=>bif δq p.1 s then p.2 else jU r s
def vr (env:fA) (a:Option Nat) (v:SV):fA:=
 match a with
 |none=>env
 |some d=>(d,v)::env
def SV.oY:Value->SV
 | .int k n=> .il k n
 | .bool b=> .bl b
 |v=> .sc v
def SV.uP:Value->SV
 | .agg a=>if a.toList.all (·.oneCell') then .agg (a.toList.map .oY) else .ud
 | .tuple _=> .ud
 | .int k n=> .il k n
 | .bool b=> .bl b
 |v=> .sc v
def jH (env:fA):Operand->SV
 | .tmp t=>jU env t
 | .const v=> .uP v
 | .global _=> .ud
 | .func f=> .fn (.func f) [] []
def SV.cellsOf:SV->List SV
 | .agg a=>a
 |v=>[v]
def SV.one:SV->Bool
 | .agg _| .bI _| .ud| .ite _ _ _=>false
 | .sc v=>v.oneCell'
 |_=>true
def xm (l:List SV):Bool:=l.all (·.one)
mutual
def SV.pure:SV->Bool
 | .sc _| .il .. | .si .. | .bl _| .sb _| .row .. =>true
 |_=>false
def zz:List SV->Bool
 |[]=>true
 |c::a=>c.pure&&zz a
end
mutual
def SV.bY (k:Nat):SV->Bool
 | .ud| .sc _| .il .. | .si .. | .bl _| .sb _| .row .. | .ep .. =>true
 | .agg e| .bI e=>sr k e
 | .ptr d .. | .ap d .. | .rp d .. | .ow d .. | .os d .. | .oc d .. | .mp d=>decide (d<k)
 | .fn _ a b=>sr k a&&sr k b
 | .ia _ _| .ite _ _ _=>true
def sr (k:Nat):List SV->Bool
 |[]=>true
 |c::e=>c.bY k&&sr k e
end
def bq.bY (k:Nat):bq->Bool
 | .cells b _ _ a=>a||sr k b
 | .oW _ _ _ t=>sr k t
 |_=>true
mutual
def SV.kX:SV->Bool
 | .ud| .sc _| .il .. | .si .. | .bl _| .sb _=>true
 | .agg a| .bI a=>CL a
 |_=>false
def CL:List SV->Bool
 |[]=>true
 |c::a=>c.kX&&CL a
end
def cq (k:IntKind) (n:Int):Prop:=
 match k with
 | .i64=> -9223372036854775808<=n/\n<=9223372036854775807
 |k=>k.wrap n=n
def vt (k:IntKind) (n:Int) (K:Int->Prop):Prop:=
 match k with
 | .u32=>K (n % 4294967296)
 | .u64=>K (n % 18446744073709551616)
 |k=>cq k n/\K n
structure OG where
 pure:FuncId->List SV->(SV->Prop)->Prop
 own:FuncId->List SV->bZ->(SV->bZ->Prop)->Prop
structure i6 where
 C:OG
 ty:TypeId->Option bp
 mt:List Nat×Bool->Option (bp×bp)
 sp:Nat->Option (Nat×Nat×Nat):=λ_=>none
 it:FuncId->Option fy:=λ_=>none
 ro:FuncId->Bool:=λ_=>false
def su (cs:List SV) (a:Nat):Option Nat->Option SV
 |none=>cs[a]?
 |some n=>if a+n<=cs.length then some (.agg ((cs.drop a).take n)) else none
def tW (cs:List SV) (a:Nat):List SV->List SV
 |[]=>cs
 |v::b=>tW (cs.set a v) (a+1) b
def i7 {b:Type} (x:Option b) (K:b->Prop):Prop:=match x with|some a=>K a|none=>False
def vu {b:Type} (f:SV->(b->Prop)->Prop):List SV->(List b->Prop)->Prop
 |[],K=>K []
 |v::c,K=>f v λa=>vu f c λd=>K (a::d)
def ri (o:bZ):Nat->SV->(SV->Prop)->Prop
 |_,.ud,K=>K .ud
 |_,.sc v,K=>match v with
  | .slice none 0 0=>K (.row (.i .i64) [])
  |v=>K (.sc v)
 |_,.il k n,K=>K (.il k n)
 |_,.si k n,K=>K (.si k n)
 |_,.bl b,K=>K (.bl b)
 |_,.sb b,K=>K (.sb b)
 |_,.row s l,K=>K (.row s l)
 |_,.ia t cs,K=>K (.ia t cs)
 |d+1,.agg cs,K=>vu (ri o d) cs λcs'=>K (.agg cs')
 |d+1,.bI cs,K=>vu (ri o d) cs λcs'=>K (.bI cs')
 |d+1,.fn f a b,K=>vu (ri o d) a λa'=>vu (ri o d) b λb'=>K (.fn f a' b')
 |_+1,.ow id n sz,K=>match o[id]? with
  |some (.row s l _ _)=>if sz=s.sz then n=l.length/\K (.row s l) else False
  |_=>False
 |_+1,.os id off len n sz,K=>match o[id]? with
  |some (.row s l _ _)=>if sz=s.sz then n=l.length/\off+len<=n/\K (.row s ((l.drop off).take len)) else False
  |_=>False
 |_,_,_=>False
def mH (o:bZ) (a:SV) (n:Option Nat) (K:SV->Prop):Prop:=
 match a with
 | .ptr h b d=>match o[h]? with
  |some (.cells c _ _ _)=>if c.length=d then i7 (su c b n) K else False
  |_=>False
 | .ap h e g f d i=>match o[h]? with
  |some (.cells c _ _ _)=>if c.length=d/\e+g*f<=d then i<f/\zA ((c.drop e).take (g*f)) g i n K else False
  |_=>False
 | .ep s l i b=>i<l.length/\i7 (su (encS s (bj l i s.dflt)) b n) K
 | .rp h i b m g=>match o[h]? with
  |some (.row s l _ _)=>if g=s.sz then m=l.length/\i<l.length/\i7 (su (encS s (bj l i s.dflt)) b n) K else False
  |_=>False
 |_=>False
where
 zA (c:List SV) (g i:Nat) (n:Option Nat) (K:SV->Prop):Prop:=
  match n,g with
  |none,1=>match ints c with
   |some l=>K (.si .i64 (bj l i 0))
   |none=>match rowsOff c with
    |some l=>K (.row .off (bj l i []))
    |none=>False
  |_,_=>False;rowsOff:List SV->Option (List (List Off))
  |[]=>some []
  | .row .off l::c=>(rowsOff c).map (l::·)
  |_=>none
def mkK (bC:Nat) (x:bq) (o:bZ) (K:bZ->Prop):Prop:=
 match o[bC]? with
 |some .dead=>K (o.set bC x)
 |_=>False
def sw (a:List (Nat×Nat×SV)) (cs:List SV):Option (List SV):=
 match a with
 |[]=>some cs
 |(b,n,v)::c=>
  if v.cellsOf.length=n/\xm v.cellsOf=true/\b+n<=cs.length then sw c (tW cs b v.cellsOf) else none
def tX (s:bp):Nat->List SV->Option (List s.T)
 |0,[]=>some []
 |n+1,a=>match jT s (a.take s.sz),tX s n (a.drop s.sz) with
  |some x,some l=>some (x::l)
  |_,_=>none
 |_,_=>none
def vx (o:bZ) (s:bp) (x:SV) (K:List s.T->Prop):Prop:=
 match x with
 | .row a l=>i7 (iG a s l) K
 | .ow d n e=>match o[d]? with
  |some (.row a l _ _)=>if e=a.sz then n=l.length/\i7 (iG a s l) K else False
  |_=>False
 | .os d c b n e=>match o[d]? with
  |some (.row a l _ _)=>if e=a.sz then n=l.length/\c+b<=n/\i7 (iG a s ((l.drop c).take b)) K else False
  |_=>False
 | .sc (.slice none 0 0)=>K []
 |_=>False
def OH (o:bZ):SV->Option (List SV)
 | .ow j 1 a=>match o[j]? with
  |some (.oW s [] _ t)=>if s.sz=a then some t else none
  |_=>none
 |_=>none
def SV.OI:SV->Bool
 | .ow .. =>true
 |_=>false
def zB:SV->Option Int
 | .si _ n=>some n
 | .il _ n=>some n
 |_=>none
def isNil:SV->Bool
 | .sc (.slice none 0 0)=>true
 |_=>false
def gX (e:BinOp) (x y:SV) (K:SV->Prop):Prop:=
 match x,y with
 | .il k a,.il d b=>match gU e (.int k a) (.int d b) with
  |some (.int k n)=>K (.il k n)
  |some (.bool c)=>K (.bl c)
  |_=>False
 | .si k a,.si d b=>go k a d b
 | .il k a,.si d b=>go k a d b
 | .si k a,.il d b=>go k a d b
 | .sc (.string a),.sc (.string b)=>match e with
  | .eql=>K (.sb (a.toList==b.toList))
  | .neq=>K (.sb (!(a.toList==b.toList)))
  |_=>False
 |_,_=>False
where
 go (k:IntKind) (a:Int) (d:IntKind) (b:Int):Prop:=
  match e with
  | .shl=>0<=b/\b<=k.bits/\vt k (a*2^b.toNat) λn=>K (.si k n)
  | .shr=>0<=b/\b<=k.bits/\K (.si k (a / 2^b.toNat))
  | .add=>if k=d then vt k (a+b) λn=>K (.si k n) else False
  | .sub=>if k=d then vt k (a - b) λn=>K (.si k n) else False
  | .mul=>if k=d then vt k (a*b) λn=>K (.si k n) else False
  | .quo=>if k=d then b≠0/\cq k (a.tdiv b)/\K (.si k (a.tdiv b)) else False
  | .rem=>if k=d then b≠0/\K (.si k (a.tmod b)) else False
  | .and=>if k=d then K (.si k (vy k a b)) else False
  | .or=>if k=d then K (.si k (nW k a b)) else False
  | .xor=>if k=d then K (.si k (Gx k a b)) else False
  | .andNot=>if k=d then K (.si k (CN k a b)) else False
  | .eql=>if k=d then K (.sb (decide (a=b))) else False
  | .neq=>if k=d then K (.sb (decide (a≠b))) else False
  | .lss=>if k=d then K (.sb (decide (a<b))) else False
  | .leq=>if k=d then K (.sb (decide (a<=b))) else False
  | .gtr=>if k=d then K (.sb (decide (b<a))) else False
  | .geq=>if k=d then K (.sb (decide (b<=a))) else False;vy (k:IntKind) (a b:Int):Int:=eX k (γn k.bits a &&&γn k.bits b).toNat;nW (k:IntKind) (a b:Int):Int:=eX k (γn k.bits a |||γn k.bits b).toNat;Gx (k:IntKind) (a b:Int):Int:=eX k (γn k.bits a ^^^γn k.bits b).toNat;CN (k:IntKind) (a b:Int):Int:=eX k (γn k.bits a &&&~~~(γn k.bits b)).toNat
def Gy:SV->SV->Option Bool
 | .si k a,y=>(y.int k).map λb=>decide (a=b)
 | .il k a,y=>(y.int k).map λb=>decide (a=b)
 | .sb a,y=>y.boo.map λb=>a==b
 | .bl a,y=>y.boo.map λb=>a==b
 |_,_=>none
def tY:List SV->List SV->Option Bool
 |[],[]=>some true
 |x::d,y::c=>match Gy x y,tY d c with
  |some a,some b=>some (a&&b)
  |_,_=>none
 |_,_=>none
def ly:List Nat->List SV->Bool
 |[],[]=>true
 |0::a,.si _ _::b=>ly a b
 |0::a,.il _ _::b=>ly a b
 |1::a,.sb _::b=>ly a b
 |1::a,.bl _::b=>ly a b
 |_,_=>false
def nX (a sv:bp) (x:a.T) (es:List (a.T×sv.T)):Option sv.T:=(es.find? λp=>decide (p.1=x)).map (·.2)
def sx (a sv:bp) (x:a.T) (v:sv.T):List (a.T×sv.T)->List (a.T×sv.T)
 |[]=>[(x,v)]
 |p::r=>if p.1=x then(x,v)::r else p::sx a sv x v r
def vz (a:Bool):SV->Bool
 | .agg _=>a
 |_=>!a
def bp.keyed:bp->Bool
 | .key| .sit| .i _=>true
 |_=>false
def nY (d:Nat):Option SV->(Nat->Prop)->Prop
 |none,K=>K d
 |some (.il _ n),K=>if 0<=n then K n.toNat else False
 |some (.si _ n),K=>0<=n/\K n.toNat
 |_,_=>False
def tZ:List Int->Nat->Int->Nat->List Int
 |[],_,_,_=>[]
 |a::l,i,v,j=>(if i=j then v else a)::tZ l i v (j+1)
def CO:SV->(SV->Prop)->Prop
 | .ite c a b,K=>(c=true->CO a K)/\(c=false->CO b K)
 |v,K=>K v
def SV.G:SV->AV
 | .ite c a b=>match c with
  |true=>a.G
  |false=>b.G
 |v=>v.g
def eQ (p:i6) (op:cG) (ρ:Operand->SV) (o:bZ) (bC:Nat) (K:SV->bZ->Prop):Prop:=
 match op with
 | .uQ x=>K (ρ x) o
 | .pick c a b=>match ρ c with
  | .bl true=>K (ρ a) o
  | .bl false=>K (ρ b) o
  | .sb c=>(c=true->K (ρ a) o)/\(c=false->K (ρ b) o)
  |_=>False
 | .alloc z e pu=>mkK bC (.cells (z.map .oY) e z.length pu) o λo'=>K (.ptr bC 0 z.length) o'
 | .box e x=>if xm (ρ x).cellsOf then mkK bC (.cells (ρ x).cellsOf e (ρ x).cellsOf.length false) o λo'=>K (.ptr bC 0 (ρ x).cellsOf.length) o' else False
 | .build z parts=>i7 (sw (parts.map λq=>(q.1,q.2.1,ρ q.2.2)) (z.map .oY)) λcs=>K (.agg cs) o
 | .py z len parts e sz=>match p.ty e,sw (parts.map λq=>(q.1,sz,ρ q.2)) ((δ len (z.map SV.oY)).flatten) with
  |some s,some cs=>if s.sz=sz then(if cs.any SV.OI then(if cs.length=len*sz then mkK bC (.oW s [] e cs) o λo'=>K (.ow bC len sz) o' else False) else i7 (tX s len (cs.map SV.qn)) λl=>mkK bC (.row s l e true) o λo'=>K (.ow bC len sz) o') else False
  |_,_=>False
 | .tg z len parts e sz=>match p.ty e,sw (parts.map λq=>(q.1,sz,ρ q.2)) ((δ len (z.map SV.oY)).flatten) with
  |some s,some cs=>if s.sz=sz then i7 (tX s len (cs.map SV.qn)) λl=>K (.row s l) o else False
  |_,_=>False
 | .load n a=>mH o (ρ a) n λv=>K v o
 | .store n a x=>match ρ a with
  | .ptr id off tot=>match o[id]? with
   |some (.cells cs e sz pu)=>
    if cs.length=tot/\(ρ x).cellsOf.length=n/\xm (ρ x).cellsOf=true/\off+n<=cs.length/\(pu=false\/zz (ρ x).cellsOf=true) then K .ud (o.set id (.cells (tW cs off (if pu then(ρ x).cellsOf.map SV.qn else(ρ x).cellsOf)) e sz pu)) else False
   |_=>False
  | .rp id i off m sz=>match o[id]? with
   |some (.row s l e pu)=>
    if sz=s.sz/\(ρ x).cellsOf.length=n/\off+n<=s.sz then m=l.length/\i<l.length/\i7 (jT s (tW (encS s (bj l i s.dflt)) off (if pu then(ρ x).cellsOf.map SV.qn else(ρ x).cellsOf))) λv=>K .ud (o.set id (.row s (l.set i v) e pu)) else False
   |_=>False
  | .ap id base sz len tot i=>match o[id]? with
   |some (.cells cs e sz' pu)=>match n,sz,(ρ x).int .i64 with
    |1,1,some v=>match ints ((cs.drop base).take len) with
     |some l=>if cs.length=tot/\base+len<=tot then i<len/\K .ud (o.set id (.cells (tW cs base ((tZ l i v 0).map (SV.si .i64))) e sz' pu)) else False
     |none=>False
    |_,_,_=>False
   |_=>False
  |_=>False
 | .uR x=>match ρ x with
  | .ptr a b c=>K (.ptr a b c) o
  | .rp a b c d e=>K (.rp a b c d e) o
  | .ep s l i f=>K (.ep s l i f) o
  |_=>False
 | .bin op x y=>gX op (ρ x) (ρ y) λv=>K v o
 | .beq neg x y=>match(ρ x).boo,(ρ y).boo with
  |some a,some b=>K (.sb (if neg then !(a==b) else a==b)) o
  |_,_=>False
 | .rW neg ks x y=>match ρ x,ρ y with
  | .agg a,.agg b=>if ly ks a&&ly ks b then i7 (tY a b) λr=>K (.sb (if neg then !r else r)) o else False
  |_,_=>False
 | .tj neg x y=>match ρ x,ρ y with
  | .ptr _ _ _,.sc (.pointer none)=>K (.bl neg) o
  | .sc (.pointer none),.sc (.pointer none)=>K (.bl !neg) o
  |_,_=>False
 | .un op x=>match op,ρ x with
  | .not,.sb b=>K (.sb !b) o
  | .not,.bl b=>K (.bl !b) o
  | .neg,.si k n=>cq k (-n)/\K (.si k (-n)) o
  | .neg,.il k n=>K (.il k (eX k (0 - n))) o
  |_,_=>False
 | .conv k x=>match ρ x with
  | .il _ n=>K (.il k (eX k n)) o
  | .si .i64 n=>cq k n/\K (.si k n) o
  | .si _ n=>vt k n λm=>K (.si k m) o
  |_=>False
 | .uS off x=>match ρ x with
  | .ptr id b tot=>K (.ptr id (b+off) tot) o
  | .ep s l i b=>K (.ep s l i (b+off)) o
  | .rp id i b m sz=>K (.rp id i (b+off) m sz) o
  |_=>False
 | .field off n x=>match ρ x with
  | .agg cs=>i7 (su cs off n) λv=>K v o
  |_=>False
 | .uT len sz x i=>match ρ i with
  | .il _ n=>if 0<=n/\n<len then(match ρ x with
   | .ptr id b tot=>K (.ptr id (b+n.toNat*sz) tot) o
   | .ep s l j b=>K (.ep s l j (b+n.toNat*sz)) o
   | .rp id j b m sz'=>K (.rp id j (b+n.toNat*sz) m sz') o
   |_=>False) else False
  | .si _ n=>match ρ x with
   | .ptr id b tot=>0<=n/\n<len/\K (.ap id b sz len tot n.toNat) o
   |_=>False
  |_=>False
 | .rX sz x i=>match zB (ρ i) with
  |some n=>match ρ x with
   | .row s l=>if sz=s.sz then 0<=n/\n<l.length/\K (.ep s l n.toNat 0) o else False
   | .ow id m sz'=>match o[id]? with
    |some (.row s l _ _)=>if sz=s.sz/\sz'=s.sz then m=l.length/\0<=n/\n<l.length/\K (.rp id n.toNat 0 m sz) o else False
    |_=>False
   | .os id off len m sz'=>match o[id]? with
    |some (.row s l _ _)=>if sz=s.sz/\sz'=s.sz then m=l.length/\0<=n/\n<len/\off+len<=m/\K (.rp id (off+n.toNat) 0 m sz) o else False
    |_=>False
   | .oc id off len m sz'=>match o[id]? with
    |some (.row s l _ _)=>if sz=s.sz/\sz'=s.sz then m=l.length/\0<=n/\n<len/\off+len<=m/\K (.rp id (off+n.toNat) 0 m sz) o else False
    |_=>False
   |_=>False
  |none=>False
 | .idx len sz n x i=>match ρ i,ρ x with
  | .il _ k,.agg cs=>if 0<=k/\k<len then i7 (su cs (k.toNat*sz) n) λv=>K v o else False
  | .si _ k,.agg cs=>match n,sz,ints cs with
   |none,1,some l=>if l.length=len then 0<=k/\k<len/\K (.si .i64 (bj l k.toNat 0)) o else False
   |_,_,_=>False
  |_,_=>False
 | .pY z e sz bytes l c pu=>match zB (ρ l),zB (ρ c),p.ty e with
  |some n,some m,some s=>if s.sz=sz then i7 (jT s (if pu then(z.map SV.oY).map SV.qn else z.map .oY)) λx=>0<=n/\n<=m/\m*bytes<=140737488355328/\m<=1000000000000/\
    mkK bC (.row s (δ n.toNat x) e pu) o λo'=>K (.ow bC n.toNat sz) o' else False
  |_,_,_=>False
 | .slice sz x lo hi=>match ρ x with
  | .row s l=>if sz=s.sz then nY 0 (lo.map ρ) λa=>nY l.length (hi.map ρ) λb=>a<=b/\b<=l.length/\K (.row s ((l.drop a).take (b - a))) o else False
  | .ow id m sz'=>match o[id]? with
   |some (.row s l _ _)=>if sz=s.sz/\sz'=s.sz then m=l.length/\nY 0 (lo.map ρ) λa=>nY m (hi.map ρ) λb=>a<=b/\b<=m/\K (.os id a (b - a) m sz) o else False
   |_=>False
  | .os id off len m sz'=>match o[id]? with
   |some (.row s l _ _)=>if sz=s.sz/\sz'=s.sz then m=l.length/\nY 0 (lo.map ρ) λa=>nY len (hi.map ρ) λb=>a<=b/\b<=len/\K (.os id (off+a) (b - a) m sz) o else False
   |_=>False
  |_=>False
 | .slice3 sz x lo hi mx=>match ρ x with
  | .row s l=>if sz=s.sz then nY 0 (lo.map ρ) λa=>nY l.length (some (ρ hi)) λb=>nY l.length (some (ρ mx)) λm=>a<=b/\b<=m/\m<=l.length/\K (.row s ((l.drop a).take (b - a))) o else False
  | .ow id n sz'=>match o[id]? with
   |some (.row s l _ _)=>if sz=s.sz/\sz'=s.sz then n=l.length/\nY 0 (lo.map ρ) λa=>nY n (some (ρ hi)) λb=>nY n (some (ρ mx)) λm=>a<=b/\b<=m/\m<=n/\K (.oc id a (b - a) n sz) o else False
   |_=>False
  |_=>False
 | .append e sz bytes s x pu=>match p.ty e,OH o (ρ x) with
  |some t,some tl=>match ρ s,ρ x with
   | .ow id n sz',.ow _ _ Y2=>match o[id]? with
    |some (.row t' l e' Gz)=>if e'=e/\t'.sz=sz/\sz'=sz/\Y2=sz/\t.sz=sz/\Gz=false/\tl.length=sz/\xm tl=true then n=l.length/\(l.length+1)*bytes<=140737488355328/\l.length+1<=1000000000000/\
      K (.ow id (l.length+1) sz) (o.set id (.oW t' l e tl)) else False
    |_=>False
   |_,_=>False
  |some t,none=>if t.sz=sz then vx o t (ρ x) λnew=>match ρ s with
    | .sc (.slice none 0 0)=>(new.length=0->K (.sc y5) o)/\(new.length≠0->new.length*bytes<=140737488355328/\new.length<=1000000000000/\mkK bC (.row t new e pu) o λo'=>K (.ow bC new.length sz) o')
    | .ow id n sz'=>match o[id]? with
     |some (.row t' l e' Gz)=>if e'=e/\t'.sz=sz/\sz'=sz then n=l.length/\(l.length+new.length)*bytes<=140737488355328/\l.length+new.length<=1000000000000/\
       i7 (iG t' t l) λl'=>K (.ow id (l'++new).length sz) (o.set id (.row t (l'++new) e Gz)) else False
     |_=>False
    | .row t' l=>new.length=0/\K (.row t' l) o
    |_=>False
   else False
  |none,_=>False
 | .len k x=>match k,ρ x with
  |0,.row _ l=>K (.si .i64 l.length) o
  |0,.ow _ n _=>K (.si .i64 n) o
  |0,.os _ _ len _ _=>K (.si .i64 len) o
  |0,.oc _ _ len _ _=>K (.si .i64 len) o
  |0,.sc (.slice none 0 0)=>K (.il .i64 0) o
  |1,.sc (.string s)=>K (.si .i64 s.size) o
  |2,.mp id=>match o[id]? with
   |some (.map _ _ _ es _ _)=>K (.si .i64 es.length) o
   |_=>False
  |_,_=>False
 | .uV n=>K (.il .i64 n) o
 | .mm mx x y=>match ρ x,ρ y with
  | .il k a,.il k' b=>if k=k' then K (.il k (if mx then(if b>a then b else a) else(if b<a then b else a))) o else False
  | .si k a,y=>i7 (y.int k) λb=>K (.si k (if mx then max a b else min a b)) o
  | .il k a,y=>i7 (y.int k) λb=>K (.si k (if mx then max a b else min a b)) o
  |_,_=>False
 | .call f args own=>zC p f (args.map ρ) o own K
 | .jS f args own=>match ρ f with
  | .fn (.func g) first captured=>zC p g (first++args.map ρ++captured) o own K
  |_=>False
 | .extract x i=>match ρ x with
  | .bI vs=>i7 vs[i]? λv=>K v o
  |_=>False
 | .tn f first captured=>K (.fn f (first.map ρ) (captured.map ρ)) o
 | .uW t x=>match ρ x with
  | .agg cs=>if zz cs=true then K (.ia t cs) o else False
  |_=>False
 | .oN tab x args=>match ρ x with
  | .ia t cs=>match uY tab t with
   |some f=>zC p f (.agg cs::args.map ρ) o false K
   |none=>False
  |_=>False
 | .pZ kt pu=>match p.mt kt with
  |some (sk,sv)=>mkK bC (.map sk sv kt.2 [] kt pu) o λo'=>K (.mp bC) o'
  |none=>False
 | .lookup z agg ks ka x k ok=>match ρ x with
  | .mp id=>match o[id]? with
   |some (.map sk sv xn es kt _)=>
    if kt=(ks,ka)/\xn=ka/\sk.keyed=true/\sv.xl=true/\agg=false/\(ka=false->sk.sz=1)/\ly ks (ρ k).cellsOf=true/\vz ka (ρ k)=true then
     i7 (jT sk (ρ k).cellsOf) λkv=>i7 (jT sv (z.map .oY)) λzv=>
      let r:=(encS sv ((nX sk sv kv es).getD zv)).headD .ud;K (if ok then .bI [r,.sb (nX sk sv kv es).isSome] else r) o
    else False
   |_=>False
  |_=>False
 | .qT ks ka x k v=>match ρ x with
  | .mp id=>match o[id]? with
   |some (.map sk sv xn es kt pu)=>
    if kt=(ks,ka)/\xn=ka/\sk.keyed=true/\sv.xl=true/\(ka=false->sk.sz=1)/\ly ks (ρ k).cellsOf=true/\vz ka (ρ k)=true/\vz false (ρ v)=true then
     i7 (jT sk (ρ k).cellsOf) λkv=>i7 (jT sv (ρ v).cellsOf) λvv=>K .ud (o.set id (.map sk sv xn (sx sk sv kv vv es) kt pu))
    else False
   |_=>False
  |_=>False
 |_=>False
where
 zC (p:i6) (f:FuncId) (args:List SV) (o:bZ) (own:Bool) (K:SV->bZ->Prop):Prop:=
  if own then p.C.own f args o K
  else vu (ri o 6) args λargs'=>p.C.pure f args' λr=>if(args.flatMap (λv=>fu (o.map bq.g) 6 v.g)).isEmpty||r.kX then K r o else False
def xo:fA->Nat->SV->fA
 |[],_,_=>[]
 |p::r,s,v=>bif δq p.1 s then(p.1,v)::r else p::xo r s v
def GF (env:fA) (g:Option (Option Nat×Bool)) (K:fA->Bool->Prop):Prop:=
 match g with
 |none=>K env true
 |some (none,_)=>False
 |some (some s,b)=>match jU env s with
  | .bl c=>K env (c==b)
  | .sb c=>(c=true->K (xo env s (.bl true)) (true==b))/\(c=false->K (xo env s (.bl false)) (false==b))
  | .bI []=>K env false
  |_=>False
def SV.same (v w:SV):Prop:=v.g=w.g
def SV.sy (v:SV):SV->Prop
 | .ite c a b=>(c=true->v.sy a)/\(c=false->v.sy b)
 |w=>v.same w
def bq.same (x y:bq):Prop:=x.g=y.g
def kG:bZ->bZ->Prop
 |[],[]=>True
 |x::o,y::a=>x.same y/\kG o a
 |_,_=>False
def OJ (p:i6) (a:cG) (o o':bZ) (K:Bool->Prop):Prop:=
 match a with
 | .call f _ true=>if p.ro f=true then kG o o'/\K true else K false
 |_=>K false
def xp (p:i6) (base:Nat):List dC->cu->Trace->(cu->Trace->Prop)->Prop
 |[],b,c,K=>K b c
 |i::r,b,c,K=>GF b.env i.guard λa w=>
   if w then eQ p i.op (jH a) b.o (base+i.bC) λv d=>OJ p i.op b.o d λe=>xp p base r ⟨vr a i.dst v,d⟩ ((i.idx,dR i.op (λx=>(jH a x).g) (b.o.map bq.g) (base+i.bC),if e then[] else wrt i.op (λx=>(jH a x).g) (b.o.map bq.g) (base+i.bC))::c) K
   else xp p base r ⟨vr a i.dst (.bI []),b.o⟩ ((i.idx,[],[])::c) K
def bq.mW:bq->Bool
 | .dead=>true
 |_=>false
def GG (base:Nat) (o:bZ):bZ:=if(o.drop base).all (·.mW) then o.take base else o
def GH (p:i6) (k:Nat) (c:List dC) (b:List (Nat×Nat)) (st:cu) (K:cu->Prop):Prop:=
 xp p st.o.length c ⟨st.env,st.o++δ k .dead⟩ [] λa d=>
  if b.isEmpty||tu (st.o.length+k) d.reverse b then K ⟨a.env,if k=0 then a.o else GG st.o.length a.o⟩ else False
mutual
def jI (id:Nat) (s:bp) (l:List s.T):SV->(SV->Prop)->Prop
 | .ow j n m,K=>if j=id then(if m=s.sz then n=l.length/\K (.row s l) else False) else K (.ow j n m)
 | .os j h g n m,K=>if j=id then(if m=s.sz then n=l.length/\h+g<=n/\K (.row s ((l.drop h).take g)) else False) else K (.os j h g n m)
 | .oc j h g n m,K=>if j=id then False else K (.oc j h g n m)
 | .rp j i f n m,K=>if j=id then False else K (.rp j i f n m)
 | .ptr j f t,K=>if j=id then False else K (.ptr j f t)
 | .ap j a b c d e,K=>if j=id then False else K (.ap j a b c d e)
 | .agg o,K=>rj id s l o λk=>K (.agg k)
 | .bI o,K=>rj id s l o λk=>K (.bI k)
 | .fn f a b,K=>rj id s l a λp=>rj id s l b λr=>K (.fn f p r)
 |v,K=>K v
def rj (id:Nat) (s:bp) (l:List s.T):List SV->(List SV->Prop)->Prop
 |[],K=>K []
 |c::o,K=>jI id s l c λq=>rj id s l o λk=>K (q::k)
end
def zD (id:Nat) (s:bp) (l:List s.T):fA->(fA->Prop)->Prop
 |[],K=>K []
 |(k,v)::r,K=>jI id s l v λa=>zD id s l r λb=>K ((k,a)::b)
def nZ (id:Nat) (s:bp) (l:List s.T):Nat->bZ->(bZ->Prop)->Prop
 |_,[],K=>K []
 |i,x::r,K=>match x with
  | .cells g e h b=>if b then(if i=id then False else nZ id s l (i+1) r λa=>K (.cells g e h b::a)) else rj id s l g λd=>nZ id s l (i+1) r λa=>K (.cells d e h b::a)
  | .oW c f e t=>if i=id then False else rj id s l t λj=>match tX c 1 j with
   |some m=>nZ id s l (i+1) r λa=>K (.row c (f++m) e false::a)
   |none=>False
  | .row c f e b=>if i=id then(if b then nZ id s l (i+1) r λa=>K (.dead::a) else False) else nZ id s l (i+1) r λa=>K (.row c f e b::a)
  |x=>nZ id s l (i+1) r λa=>K (x::a)
def t6 (p:i6) (lo:Nat) (h:kA) (st:cu) (K:cu->Prop):Prop:=
 if h.own then match h.off with
  |none=>if isNil (jU st.env h.slot) then(match p.ty h.e with
    |some s=>if s.sz=h.sz then K ⟨(h.slot,.ow st.o.length 0 h.sz)::st.env,st.o++[.row s [] h.e h.pu]⟩ else False
    |none=>False) else if h.sz=0 then(match jU st.env h.slot with
     | .ow a _ _=>match st.o[a]? with
      |some (.row s l e true)=>K ⟨st.env,st.o.set a (.row s l e false)⟩
      |_=>False
     |_=>False) else K st
  |some k=>match jU st.env h.slot with
   | .ptr a b c=>match st.o[a]? with
    |some (.cells d e i f)=>if(d[b+k]?).any isNil then(if d.length=c/\f=false then(match p.ty h.e with
      |some s=>if s.sz=h.sz then K ⟨st.env,(st.o.set a (.cells (d.set (b+k) (.ow st.o.length 0 h.sz)) e i f))++[.row s [] h.e h.pu]⟩ else False
      |none=>False) else False) else K st
    |_=>False
   |_=>False
 else match OL h st with
  |some (some a)=>if Nat.ble lo a then(match st.o[a]? with
   |some (.row s l e f)=>zD a s l st.env λg=>nZ a s l 0 (if f then st.o else st.o.set a (.row s l e true)) λo=>K ⟨g,o⟩
   |_=>False) else K st
  |some none=>K st
  |none=>False
where
 xt:SV->Option Nat
  | .ow a .. =>some a
  | .os a .. =>some a
  | .oc a .. =>some a
  |_=>none;OL (h:kA) (st:cu):Option (Option Nat):=
  match h.off with
  |none=>some (xt (jU st.env h.slot))
  |some k=>match jU st.env h.slot with
   | .ptr a b c=>match st.o[a]? with
    |some (.cells d _ _ _)=>if d.length=c then(d[b+k]?).map xt else none
    |_=>none
   |_=>none
def zE (p:i6) (lo:Nat):List kA->cu->(cu->Prop)->Prop
 |[],st,K=>K st
 |h::hs,st,K=>t6 p lo h st λst'=>zE p lo hs st' K
def GI (a:List Nat) (env:fA):fA:=a.map λs=>(s,jU env s)
def trimS (k:Nat) (st:cu):cu:=
 if st.o.length<=k then st
 else if(st.env.all λp=>p.2.bY k)&&((st.o.take k).all λx=>x.bY k) then⟨st.env,st.o.take k⟩ else st
def xu:fA->fA->Prop
 |[],[]=>True
 |(k,v)::e,(b,c)::a=>if k=b then v.same c/\xu e a else False
 |_,_=>False
def zF (s t:cu):Prop:=xu s.env t.env/\kG s.o t.o
def iS (s:cu) (k:Nat):Int:=match jU s.env k with
 | .si _ n=>n
 | .il _ n=>n
 |_=>0
def bS (s:cu) (k:Nat):Bool:=match jU s.env k with
 | .sb b=>b
 | .bl b=>b
 |_=>false
def rS (t:bp) (s:cu) (k:Nat):List t.T:=match jU s.env k with
 | .row a l=>match iG a t l with
  |some l=>l
  |none=>[]
 |_=>[]
def oS (t:bp) (s:cu) (id:Nat):List t.T:=match s.o[id]? with
 |some (.row a l _ _)=>match iG a t l with
  |some l=>l
  |none=>[]
 |_=>[]
def splitN (v:Int) (n:Nat) (K:Nat->Prop):Nat->Prop
 |0=>0<=v/\v<n
 |j+1=>(v=(n - (j+1):Nat)->K (n - (j+1)))/\splitN v n K j
def splitK (x:Option (Nat×Nat×Nat)) (st:cu) (K:cu->Prop):Prop:=
 match x with
 |none=>K st
 |some (b,a,n)=>match st.o[b]? with
  |some (.cells c e f d)=>match c[a]? with
   |some (.si k v)=>splitN v n (λj=>K ⟨st.env,st.o.set b (.cells (c.set a (.il k j)) e f d)⟩) n
   |_=>False
  |_=>False
inductive cE where
 |qo (n:Nat)
 |look
 |inv (X:Type) (shape:X->cu) (next:cu->X) (J:X->Prop) (m:X->Nat) (inner:X->Nat->cE)
def Look (_:cu):Prop:=False
def vA:IR->Nat
 | .region c .. =>c
 | .seq .skip b=>vA b
 | .seq a _=>vA a
 | .block _ b=>vA b
 | .loop b=>vA b
 | .turns _ b=>vA b
 |_=>0
def GK (W:cu->(Out->cu->Prop)->Prop) (Q:Out->cu->Prop):Nat->cu->Prop
 |0,_=>False
 |n+1,b=>W b λa s=>match a with
  | .norm=>GK W Q n (trimS b.o.length s)
  |o=>Q o s
def zG (t:Nat):fA->fA
 |[]=>[]
 |p::r=>bif δq p.1 t then zG t r else p::zG t r
def xw (x:Operand) (env:fA):fA:=
 match x with
 | .tmp t=>zG t env
 |_=>env
def CP (env:fA) (x:Operand) (v:SV):fA:=
 match x with
 | .tmp t=>xo env t v
 |_=>env
def wpS (p:i6) (lo:Nat):IR->(Nat->cE)->cu->(Out->cu->Prop)->Prop
 | .skip,_,st,Q=>Q .norm st
 | .region id draw k ops kB live pre post,_,st,Q=>splitK (p.sp id) st λst0=>zE p lo pre st0 λst1=>GH p k ops kB st1 λst2=>zE p lo post ⟨GI live st2.env,st2.o⟩ λGL=>Q .norm GL
 | .seq a b,Λ,st,Q=>wpS p lo a Λ st λout s=>match out with
  | .norm=>wpS p lo b Λ s Q
  |o=>Q o s
 | .cond x a b,Λ,st,Q=>match jH st.env x with
  | .bl true=>wpS p lo a Λ ⟨xw x st.env,st.o⟩ Q
  | .bl false=>wpS p lo b Λ ⟨xw x st.env,st.o⟩ Q
  | .sb c=>(c=true->wpS p lo a Λ ⟨xw x st.env,st.o⟩ Q)/\(c=false->wpS p lo b Λ ⟨xw x st.env,st.o⟩ Q)
  |_=>False
 | .block id b,Λ,st,Q=>wpS p lo b Λ st λout s=>Q (out.inBlock id) s
 | .loop b,Λ,st,Q=>match Λ (vA b) with
  | .qo n=>GK (wpS p lo b Λ) Q n st
  | .look=>Look st
  | .inv _ shape next J m inner=>(zF st (shape (next st))/\J (next st))/\∀x,J x->wpS p lo b (inner x) (shape x) λout s=>match out with
   | .norm=>zF (trimS (shape x).o.length s) (shape (next (trimS (shape x).o.length s)))/\J (next (trimS (shape x).o.length s))/\m (next (trimS (shape x).o.length s))<m x
   |o=>Q o s
 | .exit id,_,st,Q=>Q (.exit id) st
 | .ret,_,st,Q=>Q .ret st
 | .goto l,_,st,Q=>Q (.goto l) st
 | .oO x a b,Λ,st,Q=>match jH st.env x with
  | .bl true=>wpS p lo a Λ st Q
  | .bl false=>wpS p lo b Λ st Q
  | .sb c=>(c=true->wpS p lo a Λ ⟨CP st.env x (.bl true),st.o⟩ Q)/\(c=false->wpS p lo b Λ ⟨CP st.env x (.bl false),st.o⟩ Q)
  |_=>False
 | .turns none b,Λ,st,Q=>wpS p lo b Λ st λout s=>match out with
  | .goto _=>False
  |o=>Q o s
 | .turns (some l) b,Λ,st,Q=>match Λ (vA b) with
  | .inv _ shape next J m inner=>(zF st (shape (next st))/\J (next st))/\∀x,J x->wpS p lo b (inner x) (shape x) λout s=>match out with
   | .goto l'=>l'=l/\zF (trimS (shape x).o.length s) (shape (next (trimS (shape x).o.length s)))/\J (next (trimS (shape x).o.length s))/\m (next (trimS (shape x).o.length s))<m x
   |o=>Q o s
  |_=>Look st
 | .tq ..,_,_,_=>False
def nj:Nat->List SV->fA
 |_,[]=>[]
 |i,v::a=>(i,v)::nj (i+1) a
def oa (st:cu) (a:List mZ) (K:SV->Prop):Prop:=
 goK a λl=>match l with
  |[v]=>K v
  |l=>K (.bI l)
where
 goK:List mZ->(List SV->Prop)->Prop
  |[],K=>K []
  |r::a,K=>OM r λv=>goK a λl=>K (v::l);OM (r:mZ) (K:SV->Prop):Prop:=match r.cell with
  |none=>K (jU st.env r.slot)
  |some n=>mH st.o (jU st.env r.slot) n K
def t7 (p:i6) (Λ:Nat->cE) (F:fy) (args:List SV) (Q:SV->Prop):Prop:=
 wpS p 0 F.body Λ ⟨nj 0 args,[]⟩ λa b=>match a with
  | .exit _=>False
  | .goto _=>False
  |_=>oa b F.res λr=>ri b.o 6 r Q
def zH (p:i6) (Λ:Nat->cE) (F:fy) (args:List SV) (o:bZ) (Q:SV->bZ->Prop):Prop:=
 wpS p o.length F.body Λ ⟨nj 0 args,o⟩ λb a=>match b with
  | .exit _=>False
  | .goto _=>False
  |_=>oa a F.res λr=>if r.bY o.length&&a.o.all (λx=>x.bY o.length)&&decide (o.length<=a.o.length) then Q r (a.o.take o.length) else False
def gE (env:fA):jB:=env.map λp=>(p.1,p.2.g)
def gO (o:bZ):Store:=o.map bq.g
def cu.g (st:cu):St:=⟨gE st.env,gO st.o⟩
theorem ob:∀(env:fA) (s:Nat),dM (gE env) s=(jU env s).g
 |[],_=>by simp[gE,dM,jU,γB];|p::r,s=>by
  have:=ob r s;grind[gE,dM,jU]
theorem OO (env:fA) (d:Option Nat) (v:SV):gE (vr env d v)=oM (gE env) d v.g:=by
 cases d<;>simp[vr,oM,gE]
theorem OP (v:Value):(SV.oY v).g= .sc v:=by cases v<;>simp[SV.oY,γB]
theorem GM (l:List Value):(l.map SV.oY).map γB=l.map .sc:=by simp[OP]
theorem zI (env:fA) (x:Operand):eJ (gE env) x=(jH env x).g:=by
 cases x with
 |tmp t=>simp[eJ,jH,ob];|const v=>
  cases v<;>simp[eJ,jH,AV.uP,SV.uP,γB];split<;>simp[γB,gj,OP];|global g=>simp[eJ,jH,γB];|func f=>simp[eJ,jH,γB,gL]
theorem OQ (env:fA):eJ (gE env)=λx=>(jH env x).g:=funext λx=>zI env x
theorem CQ (v:SV):v.g.cellsOf=gL v.cellsOf:=by
 cases v<;>simp[γB,AV.cellsOf,SV.cellsOf,gL]
theorem Y3 (v:SV):v.g.one=v.one:=by
 cases v<;>simp[γB,AV.one,SV.one,Value.oneCell']
theorem CS (l:List SV):eL (gL l)=xm l:=by
 induction l<;>grind[gL,eL,xm,Y3]
theorem GN:∀(l:List SV),zz l=true->dA (gL l)=true
 |[],_=>by simp[gL,dA];|v::l,h=>by
  simp only[zz,θ] at h;simp only[gL,dA,GN l h.2,δQ];have a:=h.1;cases v<;>simp[SV.pure] at a<;>simp[γB,AV.pure,nV]
mutual
theorem zJ (k:Nat):∀(v:SV),v.g.bY k=v.bY k
 | .agg c=>by simp only[γB,AV.bY,SV.bY];exact vB k c;| .bI c=>by simp only[γB,AV.bY,SV.bY];exact vB k c;| .fn _ a b=>by simp only[γB,AV.bY,SV.bY,vB k a,vB k b];| .ud| .sc _| .il .. | .si .. | .bl _| .sb _| .row .. | .ep .. | .ptr .. | .ap .. | .rp .. | .ow .. | .os .. | .oc .. | .mp _| .ia _ _| .ite _ _ _=>by simp[γB,AV.bY,SV.bY]
theorem vB (k:Nat):∀(l:List SV),ey k (gL l)=sr k l
 |[]=>by simp[gL,ey,sr];|v::l=>by simp only[gL,ey,sr,zJ k v,vB k l]
end
theorem Y4 (k:Nat) {b sv:bp} (c:Bool) (es:List (b.T×sv.T)):ey k ((es.map λp=>(pH b c p.1,nh sv p.2)).map (·.2))=true:=
 Gv λa h=>by
  simp only[γ4,Ω,Function.comp] at h;grind[nh,AV.bY]
theorem CU (k:Nat) (x:bq):x.g.bY k=x.bY k:=by
 cases x with
 |dead=>rfl;|cells n e m d=>simp[bq.g,bR.bY,bq.bY,vB];|row s l e d=>simp[bq.g,bR.bY,bq.bY,OB];|oW s l e t=>
  have c:∀a b:List AV,ey k (a++b)=(ey k a&&ey k b):=λa b=>by
   induction a<;>grind[ey]
  grind[bq.g,bR.bY,bq.bY,OB,vB];|map i o f j h d=>simp only[bq.g,bR.bY,bq.bY,Y4,Bool.or_true]
mutual
theorem OS:∀(v:SV),v.kX=true->v.g.kX=true
 | .agg a,h=>by simp only[SV.kX] at h;simp only[γB,AV.kX];exact GQ a h;| .bI a,h=>by simp only[SV.kX] at h;simp only[γB,AV.kX];exact GQ a h;| .ud,_| .sc _,_| .il ..,_| .si ..,_| .bl _,_| .sb _,_=>by simp[γB,AV.kX];| .row ..,h| .ep ..,h| .ptr ..,h| .ap ..,h| .rp ..,h| .ow ..,h| .os ..,h| .oc ..,h| .mp _,h| .fn ..,h| .ia _ _,h| .ite _ _ _,h=>by simp[SV.kX] at h
theorem GQ:∀(l:List SV),CL l=true->uX (gL l)=true
 |[],_=>by simp[gL,uX];|v::l,h=>by
  simp only[CL,θ] at h;simp only[gL,uX,OS v h.1,GQ l h.2,δQ]
end
theorem jW (l:List SV):(gL l).length=l.length:=by simp[gj]
theorem t8 (l:List SV) (i:Nat):(gL l)[i]?=(l[i]?).map γB:=by simp[gj]
theorem ua (a b:List SV):gL (a++b)=gL a++gL b:=by simp[gj]
theorem CV {cs:List SV} {a:Nat} {n:Option Nat} {v:SV} (h:su cs a n=some v):gq (gL cs) a n=some v.g:=by
 cases n with
 |none=>grind[su,gq,t8];|some m=>
  simp only[su] at h;split at h
  ·rename_i b;simp only[γ] at h;subst h;simp_all[gq,γB,gj]
  ·cases h
theorem zK:∀(vs cs:List SV) (a:Nat),gL (tW cs a vs)=gd (gL cs) a (gL vs)
 |[],cs,a=>by simp[tW,gL,gd];|v::vs,cs,a=>by
  simp only[tW,gL,gd];rw[zK vs];simp_all[gj]
theorem GR (cs:List SV):gL (cs.map SV.qn)=(gL cs).map AV.qn:=by
 simp_all[gj,Y1]
theorem GU (pu:Bool) (cs:List SV):gL (if pu then cs.map SV.qn else cs)=eE pu (gL cs):=by
 grind[eE,GR]
theorem Y5 {c:AV} (h:Plain c.qn):c.one=true/\c.pure=true:=by
 by_cases a:c.qn=c
 ·rw[a] at h;exact⟨h.one,h.pure⟩
 ·unfold AV.qn at a;split at a;·exact⟨rfl,rfl⟩
  simp_all
theorem GV {pu:Bool} {cs:List AV} (h:∀c∈eE pu cs,Plain c):eL cs=true/\dA cs=true:=by
 have b:∀c∈cs,c.one=true/\c.pure=true:=by
  intro c a;unfold eE at h;split at h;·grind[Y5]
  ·exact⟨(h c a).one,(h c a).pure⟩
 grind[eL,CH]
theorem GX:∀(vs a b c:List AV) (d:Nat),d+vs.length<=b.length->gd (a++b++c) (a.length+d) vs=a++gd b d vs++c
 |[],a,b,c,d,_=>rfl
 |v::vs,a,b,c,d,h=>by
  simp only[γE] at h;simp only[gd];have e:(a++b++c).set (a.length+d) v=a++b.set d v++c:=by
   grind
  rw[e,εY,GX vs a (b.set d v) c (d+1) (by simp;omega)]
theorem OT {s:bp} {l:List s.T} {i:Nat} (h:i<l.length):cB s l=cB s (l.take i)++dO s (bj l i s.dflt)++cB s (l.drop (i+1)):=by
 have a:l=l.take i++l[i]::l.drop (i+1):=by simp
 grind[cY,cB]
theorem take_len {a:Type} {l:List a} {i:Nat} (h:i<l.length):(l.take i).length=i:=by simp;omega
theorem Y6 {s:bp} {l:List s.T} {i a:Nat} {v:s.T} {vs:List AV} (h:i<l.length) (e:a+vs.length<=s.sz) (c:gd (dO s (bj l i s.dflt)) a vs=dO s v):
  gd (cB s l) (i*s.sz+a) vs=cB s (l.set i v):=by
 have d:(cB s (l.take i)).length=i*s.sz:=by rw[eY,take_len h]
 rw[OT h,<-d,GX _ _ _ _ _ (by grind[lT]),c];have b:i<(l.set i v).length:=by simpa using h
 rw[OT b,cY b];simp[List.take_set_of_le,List.drop_set_of_lt]
theorem OU {s:bp} {l:List s.T} {i b:Nat} {n:Option Nat} {v:SV} (h:i<l.length) (e:su (encS s (bj l i s.dflt)) b n=some v):gq (cB s l) (i*s.sz+b) n=some v.g:=by
 have a:=CV e;rw[gj,tV] at a;have c:=OE (s:=s) h;have d:(cB s l).length=i*s.sz+(s.sz+(cB s (l.drop (i+1))).length):=by
  have:=congrArg γc c;grind[lT]
 cases n with
 |none=>
  simp only[gq] at a ⊢;rw[<-List.getElem?_drop,c,List.getElem?_append_left]<;>grind;|some m=>
  simp only[gq,lT] at a;split at a
  ·rename_i f;simp only[gq];rw[if_pos (by omega),<-δh,c,List.drop_append_of_le_length (by grind[lT]),List.take_append_of_le_length (by grind[lT])];exact a
  ·cases a
theorem jm {b:Type} {x:Option b} {K:b->Prop} (h:i7 x K):∃a,x=some a/\K a:=by
 cases x with
 |none=>exact h.elim;|some a=>exact⟨a,rfl,h⟩
theorem GY (o:bZ) (i:Nat):(gO o)[i]?=(o[i]?).map bq.g:=by simp[gO]
theorem od (o:bZ):(gO o).length=o.length:=by simp[gO]
theorem qp (o:bZ) (i:Nat) (x:bq):gO (o.set i x)=(gO o).set i x.g:=by simp[gO]
theorem fQ {o:bZ} {i:Nat} {x:bq} (h:o[i]?=some x):(gO o)[i]?=some x.g:=by grind[GY]
theorem OV:∀{cs:List SV} {l:List Int},ints cs=some l->cs.length=l.length/\∀i,i<l.length->(cs[i]?).map γB=some (.sc (.int .i64 (bj l i 0))):=by
 intro cs l h;have a:=CC h;have c:cs.length=l.length:=by simpa using congrArg γc a
 refine⟨c,λi b=>?_⟩;have:=congrArg (λl=>l[i]?) a;simp only[List.getElem?_map] at this;rw[this,μ b,cY b];rfl
theorem OW:∀{cs:List SV} {l:List (List Off)},mH.rowsOff cs=some l->cs.length=l.length/\∀i,i<l.length->cs[i]?=some (.row .off (bj l i []))
 |[],l,h=>by grind[mH.rowsOff];|c::cs,l,h=>by
  cases c with
  |row s x=>
   cases s<;>simp only[mH.rowsOff,reduceCtorEq] at h;obtain⟨e,a,rfl⟩:=ε.1 h;obtain⟨b,d⟩:=OW a;grind[bj];|_=>simp[mH.rowsOff] at h
theorem Y7 {cs:List SV} {sz i:Nat} {n:Option Nat} {K:SV->Prop} (h:mH.zA cs sz i n K) (d:i*sz<cs.length):∃v,gq (gL cs) (i*sz) n=some v.g/\K v:=by
 unfold mH.zA at h;split at h
 ·rw[Nat.mul_one] at d ⊢;split at h
  ·rename_i l a;obtain⟨b,c⟩:=OV a;grind[gq,t8,γB]
  ·split at h
   ·rename_i l a;obtain⟨b,c⟩:=OW a;grind[gq,t8]
   simp_all
 simp_all
theorem Y8 {cs:List AV} {base a m:Nat} {v:AV} (h:gq ((cs.drop base).take m) a none=some v):gq cs (base+a) none=some v:=by
 grind[gq]
theorem OX {o:bZ} {a:SV} {n:Option Nat} {K:SV->Prop} (h:mH o a n K):∃cs b v,behind (gO o) a.g=some (cs,b)/\gq cs b n=some v.g/\K v:=by
 cases a with
 |ptr x b t=>
  simp only[mH] at h;split at h
  ·rename_i cs e f z y;split at h
   ·rename_i D;obtain⟨v,k,j⟩:=jm h;exact⟨gL cs,b,v,by simp_all[behind,γB,fQ,bq.g,jW],CV k,j⟩
   simp_all
  simp_all;|ap x c f d t i=>
  simp only[mH] at h;split at h
  ·rename_i cs e A z y;split at h
   ·rename_i D;obtain⟨C,p⟩:=h;have w:(i+1)*f<=d*f:=γJ _ C;rw[Nat.succ_mul] at w;have F:f*d=d*f:=Nat.mul_comm ..;by_cases E:f=0;·grind[mH.zA]
    ·have q:i*f<((cs.drop c).take (f*d)).length:=by grind
     obtain⟨v,k,j⟩:=Y7 p q;have B:n=none:=by
      grind[mH.zA]
     subst B;refine⟨gL cs,c+i*f,v,by simp_all[behind,γB,fQ,bq.g,jW],?_,j⟩;have:gL ((cs.drop c).take (f*d))=((gL cs).drop c).take (f*d):=by simp[gj]
     grind[Y8]
   simp_all
  simp_all;|ep s l i b=>
  simp only[mH] at h;obtain⟨u,p⟩:=h;obtain⟨v,k,j⟩:=jm p;exact⟨cB s l,i*s.sz+b,v,by simp[behind,γB],OU u k,j⟩;|rp x i b m f=>
  simp only[mH] at h;split at h
  ·rename_i s l e z y;split at h
   ·rename_i r;subst r;obtain⟨w,u,p⟩:=h;obtain⟨v,k,j⟩:=jm p;exact⟨cB s l,i*s.sz+b,v,by simp_all[behind,γB,fQ,bq.g,eY],OU u k,j⟩
   simp_all
  simp_all;|_=>simp only[mH] at h
theorem OY (o:Store) (d:Nat) {v:Value} (h:v≠ .slice none 0 0):freeze o d (.sc v)=some (.sc v):=by
 grind[freeze]
theorem OZ (o:Store) (d:Nat) {a:AV} (h:Plain a):freeze o d a=some a:=by
 rcases h with⟨v,rfl,_,h⟩|⟨n,b,rfl,_⟩<;>grind[OY,freeze]
theorem GZ {f:AV->Option AV}:∀{l:List AV},(∀a∈l,f a=some a)->l.mapM f=some l
 |[],_=>by simp;|a::l,h=>by simp[List.mapM_cons,h a (by simp),GZ (l:=l) λb c=>h b (by simp[c])]
theorem xx {o:Store} {d:Nat} {f:SV->(SV->Prop)->Prop} (c:∀v K,f v K->∃b:SV,freeze o d v.g=some b.g/\K b):
  ∀{l:List SV} {K:List SV->Prop},vu f l K->∃a,(gL l).mapM (freeze o d)=some (gL a)/\K a
 |[],K,h=>⟨[],by simp[gL],h⟩
 |v::l,K,h=>by
  obtain⟨b,j,i⟩:=c v _ h;obtain⟨a,k,e⟩:=xx c i;exact⟨b::a,by simp_all[gL],e⟩
theorem zL {s:bp} {l:List s.T} {b a:Nat}:((cB s l).drop (b*s.sz)).take (a*s.sz)=cB s ((l.drop b).take a):=by
 rw[Gw,OD]
theorem G0 {o:bZ}:∀{d:Nat} {v:SV} {K:SV->Prop},ri o d v K->∃y,freeze (gO o) d v.g=some y.g/\K y:=by
 intro d;induction d with
 |zero=>
  intro v K h;cases v<;>simp only[ri] at h<;>grind[ri,γB,freeze,cB,OY];|succ d p=>
  intro v K h;cases v<;>simp only[ri] at h;case sc v=>
   grind[γB,freeze,cB]
  case agg B=>
   obtain⟨A,z,r⟩:=xx (λv K m=>p m) h;grind[γB,freeze]
  case bI B=>
   obtain⟨A,z,r⟩:=xx (λv K m=>p m) h;grind[γB,freeze]
  case fn f a b=>
   obtain⟨I,z,r⟩:=xx (λv K m=>p m) h;obtain⟨J,L,H⟩:=xx (λv K m=>p m) r;grind[γB,freeze]
  case ow E n F=>
   split at h
   ·rename_i s l e G w;split at h
    ·rename_i k;obtain⟨rfl,t⟩:=h;subst k;refine⟨_,?_,t⟩;have i:(cB s l).mapM (freeze (gO o) d)=some (cB s l):=GZ λa C=>by
      grind[OZ,ni]
     have D:Δ (l.length*s.sz) (cB s l)=cB s l:=γo (by grind[eY]);simp_all[γB,freeze,fQ,bq.g,eY,nV]
    simp_all
   simp_all
  case os E j c n F=>
   split at h
   ·rename_i s l e G w;split at h
    ·rename_i k;obtain⟨rfl,u,t⟩:=h;subst k;refine⟨_,?_,t⟩;have i:(cB s ((l.drop j).take c)).mapM (freeze (gO o) d)=some (cB s ((l.drop j).take c)):=GZ λa C=>by
      grind[OZ,ni]
     have x:(j+c)*s.sz<=l.length*s.sz:=γJ _ u;rw[δS] at x;have q:((l.drop j).take c).length=c:=by simp;omega
     simp only[γB,freeze,fQ w,bq.g,eY,x,and_self,if_true,zL,i,nV,q];simp_all
    simp_all
   simp_all
  all_goals grind[γB,freeze]
theorem CW {k:IntKind} {n:Int} (h:cq k n):eX k n=n:=by
 cases k<;>simp only[cq,eX] at h ⊢<;>simp_all
theorem nn {c:Prop} [Decidable c] {A:Prop} (h:if c then A else False):c/\A:=by
 simp_all
theorem ahX {b:Int} {k:Nat} (h:b<=k):min b.toNat k=b.toNat:=by omega
theorem Y9 (a b:Int):(a==b)=decide (a=b):=rfl
theorem Za (a b:Int):(a !=b)=decide (a≠b):=by
 grind
theorem zM {k:IntKind} {n:Int} {K:Int->Prop} (h:vt k n K):K (eX k n):=by
 have a:k= .u32->eX k n=n % 4294967296:=by
  grind[tJ,IntKind.wrap,IntKind.bits,IntKind.signed]
 have b:k= .u64->eX k n=n % 18446744073709551616:=by
  grind[tJ,IntKind.wrap,IntKind.bits,IntKind.signed]
 unfold vt at h;grind[CW]
theorem go_sound {e:BinOp} {k i:IntKind} {a b:Int} {K:SV->Prop} (h:gX.go e K k a i b):∃v f:_,gU e (.int k a) (.int i b)=some v/\f.g= .sc v/\K f:=by
 cases e<;>simp only[gX.go] at h;case shl=>
  obtain⟨j,m,l⟩:=h;refine⟨.int k (eX k (a*2^b.toNat)),.si k (eX k (a*2^b.toNat)),?_,rfl,zM l⟩;simp_all[gU,FI]
 case shr=>
  obtain⟨j,m,n⟩:=h;refine⟨.int k (a / 2^b.toNat),_,?_,rfl,n⟩;have:a.fdiv (2^b.toNat)=a / 2^b.toNat:=Int.fdiv_eq_ediv_of_nonneg _ (by grind);simp_all[gU,FI]
 case add=>
  obtain⟨d,c⟩:=nn h;subst d;exact⟨.int k (eX k (a+b)),.si k (eX k (a+b)),by simp only[gU,if_true,lr],rfl,zM c⟩
 case sub=>
  obtain⟨d,c⟩:=nn h;subst d;exact⟨.int k (eX k (a - b)),.si k (eX k (a - b)),by simp only[gU,if_true,lr],rfl,zM c⟩
 case mul=>
  obtain⟨d,c⟩:=nn h;subst d;exact⟨.int k (eX k (a*b)),.si k (eX k (a*b)),by simp only[gU,if_true,lr],rfl,zM c⟩
 case quo=>
  obtain⟨d,c⟩:=nn h;subst d;exact⟨.int k (a.tdiv b),_,by simp_all[gU,lr,CW],rfl,c.2.2⟩
 case rem=>
  obtain⟨d,c⟩:=nn h;subst d;exact⟨.int k (a.tmod b),_,by simp_all[gU,lr],rfl,c.2⟩
 case and=>
  obtain⟨d,c⟩:=nn h;subst d;exact⟨.int k (gX.vy k a b),_,by simp only[gU,if_true,lr,gX.vy],rfl,c⟩
 case or=>
  obtain⟨d,c⟩:=nn h;subst d;exact⟨.int k (gX.nW k a b),_,by simp only[gU,if_true,lr,gX.nW],rfl,c⟩
 case xor=>
  obtain⟨d,c⟩:=nn h;subst d;exact⟨.int k (gX.Gx k a b),_,by simp only[gU,if_true,lr,gX.Gx],rfl,c⟩
 case andNot=>
  obtain⟨d,c⟩:=nn h;subst d;exact⟨.int k (gX.CN k a b),_,by simp only[gU,if_true,lr,gX.CN],rfl,c⟩
 case eql=>
  obtain⟨d,c⟩:=nn h;subst d;exact⟨.bool (decide (a=b)),_,by simp_all[gU,lr,Y9],rfl,c⟩
 case neq=>
  obtain⟨d,c⟩:=nn h;subst d;exact⟨.bool (decide (a≠b)),_,by simp_all[gU,lr,Za],rfl,c⟩
 case lss=>
  obtain⟨d,c⟩:=nn h;subst d;exact⟨.bool (decide (a<b)),_,by simp only[gU,if_true,lr],rfl,c⟩
 case leq=>
  obtain⟨d,c⟩:=nn h;subst d;exact⟨.bool (decide (a<=b)),_,by simp only[gU,if_true,lr],rfl,c⟩
 case gtr=>
  obtain⟨d,c⟩:=nn h;subst d;exact⟨.bool (decide (b<a)),_,by simp only[gU,if_true,lr],rfl,c⟩
 case geq=>
  obtain⟨d,c⟩:=nn h;subst d;exact⟨.bool (decide (b<=a)),_,by simp only[gU,if_true,lr],rfl,c⟩
theorem Zb {j:BinOp} {x y:SV} {K:SV->Prop} (h:gX j x y K):∃a b v c,x.g= .sc a/\y.g= .sc b/\gU j a b=some v/\c.g= .sc v/\K c:=by
 unfold gX at h;split at h
 ·split at h;·rename_i i;exact⟨_,_,_,_,rfl,rfl,i,rfl,h⟩
  ·rename_i i;exact⟨_,_,_,_,rfl,rfl,i,rfl,h⟩
  simp_all
 ·obtain⟨v,c,d,e,f⟩:=go_sound h;exact⟨_,_,v,c,rfl,rfl,d,e,f⟩
 ·obtain⟨v,c,d,e,f⟩:=go_sound h;exact⟨_,_,v,c,rfl,rfl,d,e,f⟩
 ·obtain⟨v,c,d,e,f⟩:=go_sound h;exact⟨_,_,v,c,rfl,rfl,d,e,f⟩
 ·split at h;·exact⟨_,_,_,_,rfl,rfl,by grind[gU],rfl,h⟩
  ·exact⟨_,_,_,_,rfl,rfl,by grind[gU],rfl,h⟩
  simp_all
 simp_all
theorem zO {k:IntKind} {a b:Int}:seq1 (.int k a) (.int k b)=some (decide (a=b)):=by
 simp only[seq1,if_true,γ];rfl
theorem Zc {x y:SV} {r:Bool} (h:Gy x y=some r):∃a b,x.g= .sc a/\y.g= .sc b/\seq1 a b=some r:=by
 cases x<;>simp only[Gy,reduceCtorEq] at h;all_goals
  obtain⟨b,c,rfl⟩:=ε.1 h;first
   |exact⟨_,_,rfl,iN c,zO⟩;|exact⟨_,_,rfl,vq c,by simp[seq1]⟩
theorem O0:∀{x y:List SV} {r:Bool},tY x y=some r->∃a b,gL x=a.map .sc/\gL y=b.map .sc/\fK a b=some r
 |[],[],r,h=>by simp[tY] at h;subst h;exact⟨[],[],rfl,rfl,rfl⟩;|[],_::_,r,h=>by grind[tY];|_::_,[],r,h=>by grind[tY];|x::l,y::n,r,h=>by
  simp only[tY] at h;split at h
  ·rename_i a b e f;simp only[γ] at h;subst h;obtain⟨u,v,g,j,k⟩:=Zc e;obtain⟨d,c,i,o,m⟩:=O0 f;exact⟨u::d,v::c,by grind[gL],by grind[gL],by grind[fK]⟩
  ·cases h
theorem G2:∀(l:List Value),rY (l.map .sc)=some l
 |[]=>rfl
 |v::l=>by simp[rY,G2 l]
theorem ub:∀{a b:List Value},a.map δe=b.map δe->a=b
 |[],[],_=>rfl
 |[],_::_,h=>by simp at h;|_::_,[],h=>by simp at h;|x::a,y::b,h=>by
  simp only[π,Γ,δb] at h;rw[h.1,ub h.2]
theorem vC:∀{e:List Nat} {x:List SV} {a:List Value},ly e x=true->gL x=a.map .sc->eF e a=true
 |[],[],a,_,h=>by
  cases a with
  |nil=>rfl;|cons a i=>simp[gL] at h
 |[],_::_,a,h,_=>by grind[ly];|_::_,[],a,h,_=>by grind[ly];|k::e,x::j,a,h,f=>by
  cases a with
  |nil=>grind[gL];|cons a i=>
   simp only[gL,π,Γ] at f;obtain⟨c,d⟩:=f;match k,x,h with
   |0,.si k n,h=>simp only[ly] at h;simp only[γB,δb] at c;subst c;simpa[eF] using vC h d;|0,.il k n,h=>simp only[ly] at h;simp only[γB,δb] at c;subst c;simpa[eF] using vC h d;|1,.sb b,h=>simp only[ly] at h;simp only[γB,δb] at c;subst c;simpa[eF] using vC h d;|1,.bl b,h=>simp only[ly] at h;simp only[γB,δb] at c;subst c;simpa[eF] using vC h d
theorem Zd {c:List Nat} {a b:List SV} {r:Bool} (d:(ly c a&&ly c b)=true) (h:tY a b=some r):wK c (gL a) (gL b)=some r:=by
 obtain⟨u,v,f,e,g⟩:=O0 h;simp only[θ] at d;rw[f,e];simp only[wK,G2,vC d.1 f,vC d.2 e,Bool.and_self,if_true,g]
theorem Ze {s s':bp} {l:List s.T} {a:List s'.T} (h:iG s s' l=some a):s=s'/\HEq l a:=by
 unfold iG at h;grind
theorem zP {s s':bp} {l:List s.T} {l':List s'.T} (h:iG s s' l=some l'):s'=s/\cB s' l'=cB s l/\l'.length=l.length:=by
 grind[Ze]
theorem G3:∀{a:List (Nat×Nat×SV)} {cs b:List SV},sw a cs=some b->lv (a.map λq=>(q.1,q.2.1,q.2.2.g)) (gL cs)=some (gL b)
 |[],cs,b,h=>by simp[sw] at h;subst h;rfl;|(d,n,v)::r,cs,b,h=>by
  simp only[sw] at h;split at h
  ·rename_i c;obtain⟨i,f,e⟩:=c;have:=G3 h;simp_all[lv,CQ,jW,CS,zK]
  ·cases h
theorem CX {s:bp}:∀{n:Nat} {cs:List SV} {l:List s.T},tX s n cs=some l->gL cs=cB s l/\l.length=n
 |0,[],l,h=>by grind[tX,gL,cB];|0,_::_,l,h=>by simp[tX] at h;|n+1,cs,l,h=>by
  simp only[tX] at h;split at h
  ·rename_i x f a b;simp only[γ] at h;subst h;obtain⟨d,c⟩:=CX b;have e:=nU a;refine⟨?_,by simp[c]⟩;rw[gj] at d ⊢;conv=>lhs;rw[<-γL s.sz cs]
   grind[cB]
  ·cases h
theorem Zf {o:bZ} {s:bp} {x:SV} {K:List s.T->Prop} (h:vx o s x K):∃l,mY (gO o) s.sz x.g=some (l.length,cB s l)/\K l:=by
 cases x with
 |row q l=>
  simp only[vx] at h;obtain⟨f,c,w⟩:=jm h;obtain⟨rfl,p,m⟩:=zP c;exact⟨f,by simp_all[γB,mY,eY],w⟩;|ow y n u=>
  simp only[vx] at h;split at h
  ·rename_i q l e A B;split at h
   ·rename_i b;subst b;obtain⟨rfl,k⟩:=h;obtain⟨f,c,i⟩:=jm k;obtain⟨rfl,p,m⟩:=zP c;refine⟨f,?_,i⟩;have t:Δ (l.length*s.sz) (cB s l)=cB s l:=γo (by grind[eY]);simp_all[γB,mY,fQ,bq.g,eY]
   simp_all
  simp_all;|os y d a n u=>
  simp only[vx] at h;split at h
  ·rename_i q l e A B;split at h
   ·rename_i b;subst b;obtain⟨rfl,j,k⟩:=h;obtain⟨f,c,i⟩:=jm k;obtain⟨rfl,p,m⟩:=zP c;refine⟨f,?_,i⟩;have r:(d+a)*s.sz<=l.length*s.sz:=γJ _ j;rw[δS] at r;have z:((l.drop d).take a).length=a:=by simp;omega
    simp_all[γB,mY,fQ,bq.g,eY,zL]
   simp_all
  simp_all;|sc v=>
  grind[vx,γB,mY,cB];|_=>simp only[vx] at h
theorem G4 {v:SV} {n:Int} (h:zB v=some n):ik v.g=some n:=by
 cases v<;>simp[zB] at h<;>simp[γB,ik,h]
theorem pI {d:Nat} {x:Option SV} {K:Nat->Prop} (h:nY d x K):∃n,iq d (x.map γB)=some n/\K n:=by
 unfold nY at h;grind[γB,iq]
theorem vD {bC:Nat} {x:bq} {o:bZ} {K:bZ->Prop} (h:mkK bC x o K):∃o',kV bC x.g (gO o)=some (gO o')/\K o':=by
 grind[mkK,kV,fQ,bq.g,qp]
theorem Zg {s:bp} (e:s.keyed=true) (x y:s.T):fK (dx s x) (dx s y)=some (decide (x=y)):=by
 cases s<;>simp only[bp.keyed,reduceCtorEq] at e;·grind[dx,fK,zO]
 ·obtain⟨b,⟨m,o,a,l,c,i⟩⟩:=x;obtain⟨g,⟨k,h,j,n,d,f⟩⟩:=y;simp_all[dx,iv,fK,zO]
 ·obtain⟨b,⟨m,o,a,l,c,i⟩,⟨C,t,B,A,D,w⟩⟩:=x;obtain⟨g,⟨k,h,j,n,d,f⟩,⟨p,z,r,u,v,q⟩⟩:=y;simp only[dx,iv,fK,zO,γ,δQ];grind
theorem Zh {s:bp} {a:Bool} (d:s.keyed=true) (b:a=false->s.sz=1) (x y:s.T):keq (pH s a x) (pH s a y)=some (decide (x=y)):=by
 cases a with
 |true=>grind[pH,keq,Zg];|false=>
  have c:=b rfl;cases s<;>simp only[bp.keyed,reduceCtorEq] at d<;>simp only[bp.sz,reduceCtorEq,Nat.reduceEqDiff] at c;simp_all[pH,dx,keq,zO]
theorem G5 {a sv:bp} {c:Bool} (f:a.keyed=true) (e:c=false->a.sz=1) (x:a.T):∀(es:List (a.T×sv.T)) (i:Nat),
  ∃r,mA (pH a c x) (es.map λp=>(pH a c p.1,nh sv p.2)) i=some r/\(match nX a sv x es with|some v=>∃j,r=some (i+j,nh sv v)/\(∃p,es[j]?=some p/\p.1=x)/\(∀g<j,∀p,es[g]?=some p->p.1≠x)|none=>r=none/\∀p∈es,p.1≠x)
 |[],i=>⟨none,by simp[mA],by simp[nX]⟩
 |p::es,i=>by
  simp only[π,mA,Zh f e];by_cases b:p.1=x
  ·refine⟨some (i,nh sv p.2),by simp[b],?_⟩;simp only[nX,List.find?_cons,b,decide_true,ν];exact⟨0,by simp,⟨p,by simp,b⟩,by simp⟩
  ·obtain⟨r,m,k⟩:=G5 f e x es (i+1);have d:¬x=p.1:=λh=>b h.symm;refine⟨r,by simp[d,m],?_⟩;have n:nX a sv x (p::es)=nX a sv x es:=by grind[nX]
   rw[n];split at k
   ·obtain⟨j,w,⟨q,t,l⟩,o⟩:=k;refine⟨j+1,by grind,⟨q,by simp_all,l⟩,λg u s y=>?_⟩;grind
   grind
theorem G6 {a sv:bp} {x:a.T} {v:sv.T}:∀{es:List (a.T×sv.T)},(∀p∈es,p.1≠x)->sx a sv x v es=es++[(x,v)]
 |[],_=>rfl
 |p::es,h=>by
  simp only[sx,if_neg (h p (by simp)),γG];rw[G6 λq b=>h q (by simp[b])]
theorem O1 {a sv:bp} {x:a.T} {v:sv.T}:∀{es:List (a.T×sv.T)} {j:Nat},(∃p,es[j]?=some p/\p.1=x)->(∀b<j,∀p,es[b]?=some p->p.1≠x)->sx a sv x v es=es.modify j λ_=>(x,v)
 |[],j,⟨p,h,_⟩,_=>by simp at h;|p::es,0,⟨q,h,d⟩,_=>by
  grind[sx];|p::es,j+1,⟨q,h,d⟩,c=>by
  have g:=c 0 (by omega) p (by simp);simp only[sx,if_neg g,ζE];rw[O1 (j:=j) ⟨q,by simpa using h,d⟩ λb i e f=>c (b+1) (by omega) e (by simp_all)]
theorem O2 {f:List Nat} {d:Bool} {s:bp} {v:SV} {x:s.T} (e:ly f v.cellsOf=true) (o:vz d v=true) (p:s.flat=true) (n:jT s v.cellsOf=some x):qd f d v.g=some (pH s d x):=by
 have k:=nU n;have c:gL v.cellsOf=(dx s x).map .sc:=by grind[gj,CB]
 have i:=vC e c;by_cases l:∃h,v= .agg h
 ·obtain⟨h,rfl⟩:=l;simp_all[SV.cellsOf,vz,γB,qd,G2,pH]
 ·have b:d=false:=by
   simp_all[vz]
  subst b;have j:v.cellsOf=[v]:=by
   cases v<;>first|rfl|simp_all
  rw[j] at c;simp only[gL] at c;cases m:dx s x with
  |nil=>simp_all;|cons a r=>
   rw[m] at c i;simp only[π,Γ] at c;simp_all[qd,pH]
theorem O3 {s:bp} (h:s.xl=true) (x:s.T):((encS s x).headD .ud).g=nh s x:=by
 cases s<;>simp[bp.xl] at h<;>simp[encS,nh,dx,γB]
theorem O4 {s:bp} (h:s.xl=true) (x:s.T):dO s x=[nh s x]:=by
 cases s<;>simp[bp.xl] at h<;>simp[dO,nh,dx]
theorem O5 {s:bp} (h:s.keyed=true):s.flat=true:=by
 cases s<;>simp[bp.keyed] at h<;>rfl
structure pJ (call:df) (C:OG):Prop where
 pure:∀f args K,C.pure f args K->∃r:SV,call f (gL args) [] false=some (r.g,[])/\K r
 own:∀f args o K,C.own f args o K->∃(r:SV) (o':bZ),iM call f (gL args) (gO o)=some (r.g,gO o')/\K r o'
section
variable {call:df} {p:i6} {o:bZ} {bC:Nat} {K:SV->bZ->Prop}
theorem G7 (j:pJ call p.C) {f:FuncId} {args:List SV} {own:Bool} (h:eQ.zC p f args o own K):
  ∃(v:SV) (o':bZ),gJ call f (gL args) (gO o) own=some (v.g,gO o')/\K v o':=by
 unfold eQ.zC at h;split at h
 ·rename_i c;obtain⟨r,o',k,e⟩:=j.own _ _ _ _ h;exact⟨r,o',by simp_all[gJ],e⟩
 ·rename_i c;have c:own=false:=by simp_all
  subst c;obtain⟨b,k,e⟩:=xx (o:=gO o) (d:=6) (λv K m=>G0 m) h;obtain⟨r,l,i⟩:=j.pure _ _ _ e;split at i
  ·rename_i a;refine⟨r,o,?_,i⟩;simp only[gJ,χ,if_false,k,l];rw[if_pos];simp only[δv] at a ⊢;rcases a with a|a
   ·left;rw[gj,List.flatMap_map];exact a
   grind[OS]
  simp_all
theorem CY (ρ:Operand->SV) (l:List Operand):gL (l.map ρ)=l.map λx=>(ρ x).g:=by simp[gj]
theorem Zi {a:List (Nat×Nat×Operand)} {ρ:Operand->SV} {cs b:List SV} (h:sw (a.map λq=>(q.1,q.2.1,ρ q.2.2)) cs=some b):
  lv (a.map λq=>(q.1,q.2.1,(ρ q.2.2).g)) (gL cs)=some (gL b):=by
 have:=G3 h;grind[δl]
theorem G8 {a:List (Nat×Operand)} {sz:Nat} {ρ:Operand->SV} {cs b:List SV} (h:sw (a.map λq=>(q.1,sz,ρ q.2)) cs=some b):
  lv (a.map λq=>(q.1,sz,(ρ q.2).g)) (gL cs)=some (gL b):=by
 have:=G3 h;grind[δl]
theorem G9 (z:List Value):gL (z.map SV.oY)=z.map .sc:=by rw[gj,GM]
theorem Ha (a:Nat) (z:List Value):gL ((δ a (z.map SV.oY)).flatten)=(δ a (z.map δe)).flatten:=by
 rw[gj,List.map_flatten,List.map_replicate,GM]
theorem Zj (s:bp) (x:s.T) (n:Nat):(δ n (dO s x)).flatten=cB s (δ n x):=by
 induction n<;>grind[cB]
theorem zQ {ρ:Operand->SV} (l:Option Operand):(l.map ρ).map γB=l.map λx=>(ρ x).g:=by cases l<;>rfl
theorem Zk:∀{l:List Int} {i:Nat} {v:Int},i<l.length->gd (l.map λn=>δe (iv n)) 0 ((l.set i v).map λn=>δe (iv n))=(l.map λn=>δe (iv n)).set i (.sc (iv v)):=by
 intro l i v e;have d:∀(b a c:List AV),b.length=c.length->gd (a++c) a.length b=a++b:=by
  intro b;induction b with
  |nil=>grind[gd];|cons w b f=>
   intro a c h;cases c with
   |nil=>simp at h;|cons y c=>
    simp only[γE,ζo] at h;simp only[gd];have:(a++y::c).set a.length w=(a++[w])++c:=by
     simp_all
    grind
 have:=d ((l.set i v).map λn=>δe (iv n)) [] (l.map λn=>δe (iv n)) (by simp);simp_all
theorem O6 {b c:Type} (f:b->c) (x:b):∀(l:List b) (j:Nat),(l.modify j λ_=>x).map f=(l.map f).modify j λ_=>f x
 |[],j=>by simp;|a::l,0=>by simp_all;|a::l,j+1=>by simp only[ζE,π,O6 f x l j]
theorem Zl (v:Value):(δe v).cellsOf=[.sc v]:=rfl
theorem O7:∀{l:List Int} {i j:Nat} {v:Int},tZ l (i+j) v j=l.set i v
 |[],_,_,_=>rfl
 |a::l,0,j,v=>by
  have h:∀(l:List Int) (c:Nat),j<c->tZ l j v c=l:=by
   intro l;induction l with
   |nil=>intro _ _;rfl;|cons b l d=>intro c e;simp only[tZ,if_neg (show ¬j=c by omega),d (c+1) (by omega)]
  simp_all[tZ];|a::l,i+1,j,v=>by
  simp only[tZ,if_neg (show ¬i+1+j=j by omega),List.set_cons_succ];rw[show i+1+j=i+(j+1) from by omega,O7]
theorem Zm {ρ:Operand->SV} {n:Nat} {a x:Operand} (h:eQ p (.store n a x) ρ o bC K):
  ∃(v:SV) (o':bZ),bK call (.store n a x) (λx=>(ρ x).g) (gO o) bC=some (v.g,gO o')/\K v o':=by
 simp only[eQ] at h;split at h
 ·rename_i W b L B;split at h
  ·rename_i f e Y E z;split at h
   ·rename_i D;obtain⟨V,C,X,P,R⟩:=D;refine⟨.ud,_,?_,h⟩;simp only[bK,B,γB,fQ z,bq.g,CQ,jW,CS];rw[if_pos ⟨V,C,X,P,R.imp (λq=>q) λhp=>GN _ hp⟩,qp,bq.g,zK,GU]
   simp_all
  simp_all
 ·rename_i W i b m Y B;split at h
  ·rename_i s l e E z;split at h
   ·rename_i D;obtain⟨rfl,C,X⟩:=D;obtain⟨rfl,N,P⟩:=h;obtain⟨v,hv,R⟩:=jm P;refine⟨.ud,_,?_,R⟩;have T:=nU hv;rw[<-gj,zK,GU] at T;have O:gL (encS s (bj l i s.dflt))=dO s (bj l i s.dflt):=by rw[gj,tV]
    rw[O] at T;have y:(i+1)*s.sz<=l.length*s.sz:=γJ _ N;rw[Nat.succ_mul] at y;have u:∀c∈eE E (gL (ρ x).cellsOf),Plain c:=by
     intro c hc;obtain⟨j,hj⟩:=List.mem_iff_getElem?.1 hc;have U:=(ζ.1 hj).1;rw[tG,jW,C] at U;have a1:(gd (dO s (bj l i s.dflt)) b (eE E (gL (ρ x).cellsOf)))[b+j]?=some c:=by
      have a0:∀(r f:List AV) (b j:Nat) (c:AV),r[j]?=some c->b+r.length<=f.length->(gd f b r)[b+j]?=some c:=by
       intro r;induction r with
       |nil=>simp_all;|cons w r ih=>
        intro f b j c h M;simp only[γE] at M;simp only[gd];cases j with
        |zero=>
         simp only[List.getElem?_cons_zero,γ] at h;subst h;have F:∀(r f:List AV) (Z k:Nat),k<Z->(gd f Z r)[k]?=f[k]?:=by
          intro r;induction r<;>grind[gd]
         grind;|succ j=>
         have:=ih (f.set b w) (b+1) j c (by simpa using h) (by simp;omega);grind
      grind[tG,jW,lT]
     grind[zy]
    obtain⟨G,Q⟩:=GV u;simp only[bK,B,γB,fQ z,bq.g,CQ,eY,jW];rw[if_pos ⟨trivial,C,G,by omega,.inr Q⟩,qp,bq.g,Y6 N (by grind[tG,jW]) T]
   simp_all
  simp_all
 ·rename_i W d Y t L i B;split at h
  ·rename_i f e a3 E z;split at h
   ·rename_i v H;split at h
    ·rename_i l M;split at h
     ·rename_i D;obtain⟨V,C⟩:=D;rw[show tZ l i v 0=l.set i v from O7 (j:=0)] at h;obtain⟨N,hk⟩:=h;refine⟨.ud,_,?_,hk⟩;have S:(ρ x).cellsOf=[ρ x]:=by
       cases hr:ρ x<;>rw[hr] at H<;>simp[SV.int] at H<;>rfl
      have I:(ρ x).g= .sc (iv v):=iN H;have A:=CC M;have a2:l.length=t:=by
       have:=congrArg γc A;grind
      have J:gL f=gL (f.take d)++(l.map λn=>δe (iv n))++gL (f.drop (d+t)):=by
       rw[<-A,gj,gj,gj,<-γa,<-γa];congr 1;rw[<-δh,List.append_assoc,γL,γL]
      have a4:(gL (f.take d)).length=d:=by grind[jW]
      have hq:eE E [δe (iv v)]=[δe (iv v)]:=by unfold eE;split<;>rfl
      simp only[bK,B,γB,fQ z,bq.g,I,Zl,List.length_singleton,jW,hq];rw[if_pos ⟨V,trivial,by simp[eL,AV.one,iv,Value.oneCell'],by omega,.inr (by simp[dA,AV.pure])⟩,qp,bq.g,zK];congr 4;have e1:gL ((l.set i v).map (SV.si .i64))=(l.set i v).map λn=>δe (iv n):=by
       rw[gj,γ4];rfl
      rw[e1,J];have hm:=GX ((l.set i v).map λn=>δe (iv n)) (gL (f.take d)) (l.map λn=>δe (iv n)) (gL (f.drop (d+t))) 0 (by simp);grind[Zk,gd]
     simp_all
    simp_all
   simp_all
  simp_all
 simp_all
theorem Zn {ρ:Operand->SV} {e:TypeId} {sz b:Nat} {s x:Operand} {pu:Bool} (h:eQ p (.append e sz b s x pu) ρ o bC K):
  ∃(v:SV) (o':bZ),bK call (.append e sz b s x pu) (λx=>(ρ x).g) (gO o) bC=some (v.g,gO o')/\K v o':=by
 simp only[eQ] at h;split at h
 ·rename_i t tl U a;split at h
  ·rename_i S n G j m R k M;split at h
   ·rename_i O l Z I H;split at h
    ·rename_i F;obtain⟨rfl,q,rfl,rfl,rfl,rfl,i,w⟩:=F;obtain⟨rfl,C,y,B⟩:=h;rw[M] at a;unfold OH at a;split at a
     ·rename_i j' W Y;injection Y with e1 N e3;subst e1 N e3;split at a
      ·rename_i s2 N L D;split at a
       ·rename_i A;injection a with a;subst a;refine⟨_,_,?_,B⟩;have E:mY (gO o) t.sz (.os j 0 1 (1*t.sz))=some (1,gL L):=by
         simp only[mY,fQ D,bq.g,cB,ζz,δJ,jW];rw[if_pos ⟨by omega,A,by omega⟩,εn,γo (by grind[jW])]
        have J:eL (gL L)=true:=by grind[CS]
        simp only[bK,k,M,γB,qb];simp only[E,J,ζQ,if_false,fQ H,bq.g,eY,q];rw[if_pos ⟨trivial,trivial,trivial,trivial,C,y,.inl trivial⟩,qp,bq.g];grind
       ·cases a
      ·cases a
     ·cases a
    simp_all
   simp_all
  simp_all
 ·rename_i t U _;split at h
  ·rename_i z;subst z;obtain⟨f,V,d⟩:=Zf h;have r:eL (cB t f)=true:=CJ _ _;have c:dA (cB t f)=true:=nV _ _;simp only[bK,qb,V,r,ζQ,if_false];split at d
   ·rename_i k;rw[k];simp only[γB];by_cases u:f.length=0;·exact⟨_,_,by simp only[u,if_true];rfl,d.1 u⟩
    ·obtain⟨q,i,w⟩:=d.2 u;obtain⟨o',P,Q⟩:=vD w;refine⟨_,o',?_,Q⟩;simp only[bq.g] at P;rw[if_neg u,if_pos ⟨q,i,.inr c⟩,P];rfl
   ·rename_i S n G k;split at d
    ·rename_i O l Z I H;split at d
     ·rename_i F;obtain⟨rfl,q,rfl⟩:=F;obtain⟨rfl,i,w,C⟩:=d;obtain⟨l',y,B⟩:=jm C;obtain⟨rfl,T,X⟩:=zP y;refine⟨_,_,?_,B⟩;rw[k];simp only[γB,fQ H,bq.g,eY];rw[if_pos ⟨trivial,trivial,trivial,trivial,i,w,.inr c⟩,qp,bq.g,OC,T];grind
     simp_all
    simp_all
   ·rename_i O l k;obtain⟨q,i⟩:=d;refine⟨_,_,?_,i⟩;simp_all[γB]
   simp_all
  simp_all
 simp_all
theorem O8 {mx:Bool} {a b:Int}:(if mx then(if b>a then b else a) else(if b<a then b else a))=if mx then max a b else min a b:=by
 grind
theorem Zo (hC:pJ call p.C) {op:cG} {ρ:Operand->SV} (h:eQ p op ρ o bC K):
  ∃(v:SV) (o':bZ),bK call op (λx=>(ρ x).g) (gO o) bC=some (v.g,gO o')/\K v o':=by
 cases op with
 |uQ x=>exact⟨_,_,rfl,h⟩;|pick c a b=>
  simp only[eQ] at h;split at h;·rename_i hc;exact⟨_,_,by simp only[bK,hc,γB],h⟩
  ·rename_i hc;exact⟨_,_,by simp only[bK,hc,γB],h⟩
  ·rename_i c hc;cases c with
   |true=>exact⟨_,_,by simp only[bK,hc,γB],h.1 rfl⟩;|false=>exact⟨_,_,by simp only[bK,hc,γB],h.2 rfl⟩
  ·exact h.elim;|alloc z e pu=>
  obtain⟨o',hm,hk⟩:=vD h;simp only[bq.g,G9] at hm;exact⟨_,o',by simp only[bK,hm,ν,γB],hk⟩;|box e x=>
  simp only[eQ] at h;split at h
  ·rename_i h1;obtain⟨o',hm,hk⟩:=vD h;simp only[bq.g] at hm;exact⟨_,o',by simp only[bK,CQ,CS,h1,if_true,jW,hm,ν,γB],hk⟩
  ·exact h.elim;|build z parts=>
  simp only[eQ] at h;obtain⟨cs,h1,h2⟩:=jm h;have:=Zi h1;rw[G9] at this;exact⟨_,_,by simp only[bK,this,ν,γB],h2⟩;|py z len parts e sz=>
  simp only[eQ] at h;split at h
  ·rename_i s cs hs hf;split at h
   ·rename_i hsz;split at h
    ·rename_i hany;split at h
     ·rename_i hlen;obtain⟨o',hm,hk⟩:=vD h;simp only[bq.g,cB,ζz,δJ] at hm;have hfa:=G8 hf;rw[Ha] at hfa;refine⟨_,o',?_,hk⟩;subst hsz;have hp:dA (gL cs)=false:=by
       clear hf hfa hm hlen h;induction cs with
       |nil=>simp at hany;|cons c cs ih=>
        simp only[List.any_cons,δv] at hany;simp only[gL,dA];rcases hany with hc|hc
        ·have h9:c.g.pure=false:=by
          cases c with
          |ow a b d=>simp[γB,AV.pure];|_=>simp[SV.OI] at hc
         rw[h9,Bool.false_and]
        ·have ih2:=ih hc;rw[ih2,Bool.and_false]
      simp only[bK,hfa,hp,eE,χ,if_false,hm,ν,γB]
     ·exact h.elim
    obtain⟨l,h1,h2⟩:=jm h;obtain⟨h3,h4⟩:=CX h1;obtain⟨o',hm,hk⟩:=vD h2;simp only[bq.g] at hm;have hfa:=G8 hf;rw[Ha] at hfa;refine⟨_,o',?_,hk⟩;subst hsz;rw[GR] at h3;have hp:dA (gL cs)=true:=(GV (pu:=true) (cs:=gL cs) λc hc=>ni (s:=s) (l:=l) (by rw[<-h3];exact hc)).2;have hq:eE true (gL cs)=cB s l:=h3;simp only[bK,hfa,hp,hq,hm,ν,γB]
   ·exact h.elim
  ·exact h.elim;|tg z len parts e sz=>
  simp only[eQ] at h;split at h
  ·rename_i s cs hs hf;split at h
   ·rename_i hsz;obtain⟨l,h1,h2⟩:=jm h;obtain⟨h3,h4⟩:=CX h1;have hfa:=G8 hf;rw[Ha] at hfa;rw[GR] at h3;have hp:dA (gL cs)=true:=(GV (pu:=true) (cs:=gL cs) λc hc=>ni (s:=s) (l:=l) (by rw[<-h3];exact hc)).2;have hq:eE true (gL cs)=cB s l:=h3;exact⟨_,_,by simp only[bK,hfa,hp,hq,if_true,γB,h4],h2⟩
   ·exact h.elim
  ·exact h.elim;|load n a=>
  simp only[eQ] at h;obtain⟨cs,off,v,h1,h2,h3⟩:=OX h;exact⟨v,o,by simp only[bK,h1,h2,ν],h3⟩;|store n a x=>exact Zm h;|uR x=>
  simp only[eQ] at h;split at h;·rename_i hx;exact⟨_,_,by simp only[bK,hx,γB],h⟩
  ·rename_i hx;exact⟨_,_,by simp only[bK,hx,γB],h⟩
  ·rename_i hx;exact⟨_,_,by simp only[bK,hx,γB],h⟩
  ·exact h.elim;|bin op x y=>
  simp only[eQ] at h;obtain⟨a,b,v,v',h1,h2,h3,h4,h5⟩:=Zb h;exact⟨v',o,by simp only[bK,h1,h2,h3,ν,h4],h5⟩;|beq neg x y=>
  simp only[eQ] at h;split at h
  ·rename_i a b h1 h2;exact⟨_,_,by simp only[bK,vq h1,vq h2,γB],h⟩
  ·exact h.elim;|rW neg ks x y=>
  simp only[eQ] at h;split at h
  ·rename_i a b h1 h2;split at h
   ·rename_i hk;obtain⟨r,hr,h3⟩:=jm h;exact⟨_,_,by simp only[bK,h1,h2,γB,Zd hk hr,ν],h3⟩
   ·exact h.elim
  ·exact h.elim;|tj neg x y=>
  simp only[eQ] at h;split at h
  ·rename_i h1 h2;exact⟨_,_,by simp only[bK,h1,h2,γB],h⟩
  ·rename_i h1 h2;exact⟨_,_,by simp only[bK,h1,h2,γB],h⟩
  ·exact h.elim;|un op x=>
  simp only[eQ] at h;split at h;·rename_i hx;exact⟨_,_,by simp only[bK,hx,γB,tt,ν],h⟩
  ·rename_i hx;exact⟨_,_,by simp only[bK,hx,γB,tt,ν],h⟩
  ·rename_i k n hx;refine⟨_,_,?_,h.2⟩;have:(0:Int) - n= -n:=by omega
   simp only[bK,hx,γB,tt,ν,this,CW h.1]
  ·rename_i hx;exact⟨_,_,by simp only[bK,hx,γB,tt,ν],h⟩
  ·exact h.elim;|conv k x=>
  simp only[eQ] at h;split at h;·rename_i hx;exact⟨_,_,by simp only[bK,hx,γB],h⟩
  ·rename_i hx;exact⟨_,_,by simp only[bK,hx,γB,CW h.1],h.2⟩
  ·rename_i kk n _ hx;exact⟨.si k (eX k n),_,by simp only[bK,hx,γB],zM h⟩
  ·exact h.elim;|uS off x=>
  simp only[eQ] at h;split at h;·rename_i hx;exact⟨_,_,by simp only[bK,hx,γB,mX,ν],h⟩
  ·rename_i hx;exact⟨_,_,by simp only[bK,hx,γB,mX,ν,εY],h⟩
  ·rename_i hx;exact⟨_,_,by simp only[bK,hx,γB,mX,ν,εY],h⟩
  ·exact h.elim;|field off n x=>
  simp only[eQ] at h;split at h
  ·rename_i cs hx;obtain⟨v,h1,h2⟩:=jm h;exact⟨_,_,by simp only[bK,hx,γB,CV h1,ν],h2⟩
  ·exact h.elim;|uT len sz x i=>
  simp only[eQ] at h;split at h
  ·rename_i k n hi;split at h
   ·rename_i hn;split at h;·rename_i hx;exact⟨_,_,by simp only[bK,hi,hx,γB,ik,if_pos hn,mX,ν],h⟩
    ·rename_i hx;exact⟨_,_,by simp only[bK,hi,hx,γB,ik,if_pos hn,mX,ν,εY],h⟩
    ·rename_i hx;exact⟨_,_,by simp only[bK,hi,hx,γB,ik,if_pos hn,mX,ν,εY],h⟩
    ·exact h.elim
   ·exact h.elim
  ·rename_i k n hi;split at h;·rename_i hx;exact⟨_,_,by simp only[bK,hi,hx,γB,ik,if_pos (γj h.1 h.2.1),mX,ν],h.2.2⟩
   ·exact h.elim
  ·exact h.elim;|rX sz x i=>
  simp only[eQ] at h;split at h
  ·rename_i n hi;have hi:=G4 hi;split at h
   ·rename_i s l hx;split at h
    ·rename_i hsz;subst hsz;obtain⟨h1,h2,h3⟩:=h;refine⟨_,_,?_,h3⟩;simp only[bK,hi,hx,γB,qa,eY];rw[if_pos ⟨h1,h2,trivial⟩];simp
    ·exact h.elim
   ·rename_i id m sz' hx;split at h
    ·rename_i s l e pu ho;split at h
     ·rename_i hsz;obtain⟨rfl,rfl⟩:=hsz;obtain⟨rfl,h1,h2,h3⟩:=h;refine⟨_,_,?_,h3⟩;simp only[bK,hi,hx,γB,qa,fQ ho,bq.g,eY];rw[pD (Nat.zero_le _),if_pos ⟨trivial,trivial,h1,h2,by omega⟩];simp
     ·exact h.elim
    ·exact h.elim
   ·rename_i id off len m sz' hx;split at h
    ·rename_i s l e pu ho;split at h
     ·rename_i hsz;obtain⟨rfl,rfl⟩:=hsz;obtain⟨rfl,h1,h2,h4,h3⟩:=h;refine⟨_,_,?_,h3⟩;have hm:(off+len)*s.sz<=l.length*s.sz:=γJ _ h4;rw[δS] at hm;simp only[bK,hi,hx,γB,qa,fQ ho,bq.g,eY];rw[pD (by omega),if_pos ⟨trivial,trivial,h1,h2,hm⟩];simp[δS]
     ·exact h.elim
    ·exact h.elim
   ·rename_i id off len m sz' hx;split at h
    ·rename_i s l e pu ho;split at h
     ·rename_i hsz;obtain⟨rfl,rfl⟩:=hsz;obtain⟨rfl,h1,h2,h4,h3⟩:=h;refine⟨_,_,?_,h3⟩;have hm:(off+len)*s.sz<=l.length*s.sz:=γJ _ h4;have hp:=Gt s;rw[δS] at hm;simp only[bK,hi,hx,γB,qa,fQ ho,bq.g,eY];rw[BS (by omega),show off*s.sz+(l.length*s.sz+s.sz) - l.length*s.sz - s.sz=off*s.sz by omega,if_pos ⟨trivial,trivial,h1,h2,hm⟩];simp[δS]
     ·exact h.elim
    ·exact h.elim
   ·exact h.elim
  ·exact h.elim;|idx len sz n x i=>
  simp only[eQ] at h;split at h
  ·rename_i k' k cs hi hx;split at h
   ·rename_i hk;obtain⟨v,h1,h2⟩:=jm h;exact⟨_,_,by simp only[bK,hi,hx,γB,ik,if_pos hk,CV h1,ν],h2⟩
   ·exact h.elim
  ·rename_i k' k cs hi hx;split at h
   ·rename_i l _ _ hl;split at h
    ·rename_i hll;obtain⟨h1,h2,h3⟩:=h;refine⟨_,_,?_,h3⟩;obtain⟨h4,h5⟩:=OV hl;have h6:=h5 k.toNat (by omega);simp only[bK,hi,hx,γB,ik,if_pos (γj h1 h2),Nat.mul_one,gq,t8,h6,ν]
    ·exact h.elim
   ·exact h.elim
  ·exact h.elim;|wJ x i=>simp only[eQ] at h;|pY z e sz bytes l c pu=>
  simp only[eQ] at h;split at h
  ·rename_i n m s hn hm hs;have hn:=G4 hn;have hm:=G4 hm;split at h
   ·rename_i hsz;subst hsz;obtain⟨x,hx,h1,h2,h3,h4,h5⟩:=jm h;obtain⟨o',hmk,hk⟩:=vD h5;refine⟨_,o',?_,hk⟩;have hd:=nU hx;rw[<-gj,GU,G9] at hd;simp only[bq.g] at hmk;simp only[bK,hn,hm];rw[if_pos ⟨h1,h2,h3,h4⟩,hd,Zj,hmk];simp[γB]
   ·exact h.elim
  ·exact h.elim;|slice sz x lo hi=>
  simp only[eQ] at h;split at h
  ·rename_i s l hx;split at h
   ·rename_i hsz;subst hsz;obtain⟨a,ha,h1⟩:=pI h;obtain⟨b,hb,h2,h3,h4⟩:=pI h1;refine⟨_,_,?_,h4⟩;rw[zQ] at ha hb;have hlen:((l.drop a).take (b - a)).length=b - a:=by simp;omega
    simp only[bK,hx,γB,qc,ha,hb,eY,and_true,if_pos (γj h2 h3),ν,zL,hlen]
   ·exact h.elim
  ·rename_i id m sz' hx;split at h
   ·rename_i s l e pu ho;split at h
    ·rename_i hsz;obtain⟨rfl,rfl⟩:=hsz;obtain⟨rfl,h⟩:=h;obtain⟨a,ha,h1⟩:=pI h;obtain⟨b,hb,h2,h3,h4⟩:=pI h1;refine⟨_,_,?_,h4⟩;rw[zQ] at ha hb;simp only[bK,hx,γB,qc,ha,hb,fQ ho,bq.g,eY];rw[if_pos ⟨h2,h3,trivial,trivial⟩];simp
    ·exact h.elim
   ·exact h.elim
  ·rename_i id off len m sz' hx;split at h
   ·rename_i s l e pu ho;split at h
    ·rename_i hsz;obtain⟨rfl,rfl⟩:=hsz;obtain⟨rfl,h⟩:=h;obtain⟨a,ha,h1⟩:=pI h;obtain⟨b,hb,h2,h3,h4⟩:=pI h1;refine⟨_,_,?_,h4⟩;rw[zQ] at ha hb;simp only[bK,hx,γB,qc,ha,hb,fQ ho,bq.g,eY];rw[if_pos ⟨h2,h3,trivial,trivial⟩];simp[δS]
    ·exact h.elim
   ·exact h.elim
  ·exact h.elim;|slice3 sz x lo hi mx=>
  simp only[eQ] at h;split at h
  ·rename_i s l hx;split at h
   ·rename_i hsz;subst hsz;obtain⟨a,ha,h1⟩:=pI h;obtain⟨b,hb,h2⟩:=pI h1;obtain⟨m,hm,h3,h4,h5,h6⟩:=pI h2;refine⟨_,_,?_,h6⟩;rw[zQ] at ha;simp only[ν] at hb hm;have hlen:((l.drop a).take (b - a)).length=b - a:=by simp;omega
    simp only[bK,hx,γB,sa,ha,hb,hm,eY,and_true,if_pos (γj h3 (γj h4 h5)),ν,zL,hlen]
   ·exact h.elim
  ·rename_i id n sz' hx;split at h
   ·rename_i s l e pu ho;split at h
    ·rename_i hsz;obtain⟨rfl,rfl⟩:=hsz;obtain⟨rfl,h⟩:=h;obtain⟨a,ha,h1⟩:=pI h;obtain⟨b,hb,h2⟩:=pI h1;obtain⟨m,hm,h3,h4,h5,h6⟩:=pI h2;refine⟨_,_,?_,h6⟩;rw[zQ] at ha;simp only[ν] at hb hm;simp only[bK,hx,γB,sa,ha,hb,hm,fQ ho,bq.g,eY];rw[if_pos ⟨h3,h4,h5,trivial,trivial,by omega,Gt _⟩];simp
    ·exact h.elim
   ·exact h.elim
  ·exact h.elim;|uU x lo hi=>simp only[eQ] at h;|append e sz bytes s x pu=>exact Zn h;|len k x=>
  simp only[eQ] at h;split at h;·rename_i hx;exact⟨_,_,by simp only[bK,hx,γB,lu,ν],h⟩
  ·rename_i hx;exact⟨_,_,by simp only[bK,hx,γB,lu,ν],h⟩
  ·rename_i hx;exact⟨_,_,by simp only[bK,hx,γB,lu,ν],h⟩
  ·rename_i hx;exact⟨_,_,by simp only[bK,hx,γB,lu,ν],h⟩
  ·rename_i hx;exact⟨_,_,by simp only[bK,hx,γB,lu,ν];rfl,h⟩
  ·rename_i hx;exact⟨_,_,by simp only[bK,hx,γB,lu,ν],h⟩
  ·rename_i id hx;split at h
   ·rename_i sk sv ka es kt pu ho;exact⟨_,_,by simp only[bK,hx,γB,lu,fQ ho,bq.g,List.length_map,ν],h⟩
   ·exact h.elim
  ·exact h.elim;|uV n=>exact⟨_,_,rfl,h⟩;|mm mx x y=>
  simp only[eQ] at h;split at h
  ·rename_i hx hy;split at h
   ·rename_i hk;exact⟨_,_,by simp only[bK,hx,hy,γB,if_pos hk],h⟩
   ·exact h.elim
  ·rename_i k a hx;obtain⟨b,hb,h2⟩:=jm h;exact⟨_,_,by simp only[bK,hx,iN hb,γB,if_true,O8],h2⟩
  ·rename_i k a hx _;obtain⟨b,hb,h2⟩:=jm h;exact⟨_,_,by simp only[bK,hx,iN hb,γB,if_true,O8],h2⟩
  ·exact h.elim;|call f args own=>
  simp only[eQ] at h;obtain⟨v,o',h1,h2⟩:=G7 hC h;rw[CY] at h1;exact⟨v,o',by simp only[bK,h1],h2⟩;|jS f args own=>
  simp only[eQ] at h;split at h
  ·rename_i g first captured hf;obtain⟨v,o',h1,h2⟩:=G7 hC h;rw[ua,ua,CY] at h1;exact⟨v,o',by simp only[bK,hf,γB,h1],h2⟩
  ·exact h.elim;|extract x i=>
  simp only[eQ] at h;split at h
  ·rename_i vs hx;obtain⟨v,h1,h2⟩:=jm h;exact⟨_,_,by simp only[bK,hx,γB,t8,h1,ν],h2⟩
  ·exact h.elim;|tn f first captured=>exact⟨_,_,by simp only[bK,γB,CY],h⟩;|uW t x=>
  simp only[eQ] at h;split at h
  ·rename_i cs hx;split at h
   ·rename_i hp;exact⟨_,_,by simp only[bK,hx,γB,if_pos (GN cs hp)],h⟩
   ·exact h.elim
  ·exact h.elim;|oN tab x args=>
  simp only[eQ] at h;split at h
  ·rename_i t cs hx;split at h
   ·rename_i f hf;obtain⟨v,o',h1,h2⟩:=G7 hC h;simp only[gL,γB,CY] at h1;exact⟨v,o',by simp only[bK,hx,γB,hf,h1],h2⟩
   ·exact h.elim
  ·exact h.elim;|pZ kt pu=>
  simp only[eQ] at h;split at h
  ·rename_i sk sv hs;obtain⟨o',hm,hk⟩:=vD h;simp only[bq.g,γq] at hm;exact⟨_,o',by simp only[bK,hm,ν,γB],hk⟩
  ·exact h.elim;|lookup z agg ks ka x k ok=>
  simp only[eQ] at h;split at h
  ·rename_i id hx;split at h
   ·rename_i sk sv xn es kt pu ho;split at h
    ·rename_i hh;obtain⟨rfl,rfl,h1,h2,rfl,h4,h5,h6⟩:=hh;obtain⟨kv,hkv,h7⟩:=jm h;obtain⟨zv,hzv,h8⟩:=jm h7;have hkey:=O2 h5 h6 (O5 h1) hkv;have hz:qU z false=some (nh sv zv):=by
      have hd:=nU hzv;rw[GM,O4 h2] at hd;cases z with
      |nil=>simp at hd;|cons a r=>
       cases r with
       |nil=>simp only[π,γq,Γ,and_true] at hd;simp[qU,hd];|cons=>simp at hd
     obtain⟨r,hr,hm⟩:=G5 (sv:=sv) h1 h4 kv es 0;refine⟨_,_,?_,h8⟩;simp only[bK,hx,γB,hkey,fQ ho,bq.g,if_true,hr,hz];cases hf:nX sk sv kv es with
     |some v=>
      rw[hf] at hm;obtain⟨j,rfl,_⟩:=hm;simp only[Option.getD_some];cases ok<;>simp only[χ,if_false,if_true,γB,gL,O3 h2,ζR,ζc];|none=>
      rw[hf] at hm;obtain⟨rfl,_⟩:=hm;simp only[Option.getD_none];cases ok<;>simp only[χ,if_false,if_true,γB,gL,O3 h2,ζR,ζc]
    ·exact h.elim
   ·exact h.elim
  ·exact h.elim;|qT ks ka x k v=>
  simp only[eQ] at h;split at h
  ·rename_i id hx;split at h
   ·rename_i sk sv xn es kt pu ho;split at h
    ·rename_i hh;obtain⟨rfl,rfl,h1,h2,h4,h5,h6,h9⟩:=hh;obtain⟨kv,hkv,h7⟩:=jm h;obtain⟨vv,hvv,h8⟩:=jm h7;have hkey:=O2 h5 h6 (O5 h1) hkv;have hv:(ρ v).g=nh sv vv:=by
      have hd:=nU hvv;rw[O4 h2] at hd;have hc:(ρ v).cellsOf=[ρ v]:=by
       revert h9;cases ρ v<;>simp[SV.cellsOf,vz]
      rw[hc] at hd;simpa using hd
     obtain⟨r,hr,hm⟩:=G5 (sv:=sv) h1 h4 kv es 0;refine⟨_,_,?_,h8⟩;have hpure:(nh sv vv).pure=true:=by simp[nh,AV.pure]
     simp only[bK,hx,γB,hkey,fQ ho,bq.g,hv,hpure,hr,qp];rw[if_neg (by simp)];cases hf:nX sk sv kv es with
     |some w=>
      rw[hf] at hm;obtain⟨j,rfl,h10,h11⟩:=hm;rw[O1 h10 h11];simp only[Nat.zero_add];rw[O6];|none=>
      rw[hf] at hm;obtain⟨rfl,h10⟩:=hm;rw[G6 h10];simp
    ·exact h.elim
   ·exact h.elim
  ·exact h.elim
end
mutual
theorem He {o:Store} {k:Nat}:∀{v:AV},v.bY k=true->v.bU o (λi=>decide (k<=i))=some v
 | .os m d j e,h=>by
  simp_all[AV.bY,AV.bU,if_neg];| .ptr m d e,h=>by
  simp_all[AV.bY,AV.bU,if_neg];| .agg g,h=>by simp only[AV.bY] at h;simp only[AV.bU,xy h,ν];| .bI g,h=>by simp only[AV.bY] at h;simp only[AV.bU,xy h,ν];| .fn f a b,h=>by
  simp only[AV.bY,θ] at h;simp only[AV.bU,xy h.1,xy h.2];| .ud,_| .sc _,_| .sl _ _,_| .ep _ _,_| .mp _,_| .jl _ _,_=>by simp only[AV.bU]
theorem xy {o:Store} {k:Nat}:∀{l:List AV},ey k l=true->gV o (λi=>decide (k<=i)) l=some l
 |[],_=>by simp[gV];|c::g,h=>by
  simp only[ey,θ] at h;simp only[gV,He h.1,xy h.2]
end
theorem O9 {o:Store} {k:Nat}:∀{l:List (Value×AV)},ey k (l.map (·.2))=true->qg o (λi=>decide (k<=i)) l=some l
 |[],_=>by simp[qg];|(q,c)::a,h=>by
  simp only[π,ey,θ] at h;simp only[qg,He h.1,O9 h.2]
theorem Zp {o:Store} {k:Nat} {x:bR} (h:x.bY k=true):x.bU o (λi=>decide (k<=i))=some x:=by
 cases x with
 |dead=>rfl;|cells b e f a=>
  cases a with
  |true=>simp only[bR.bU,if_true];|false=>simp_all[bR.bY,bR.bU,xy]
 |map d c a=>
  cases a with
  |true=>simp only[bR.bU,if_true];|false=>simp_all[bR.bY,bR.bU,O9]
theorem Pe {o:Store} {k:Nat}:∀{r:Store},(∀x∈r,x.bY k=true)->jD o (λi=>decide (k<=i)) r=some r
 |[],_=>rfl
 |x::r,h=>by
  simp only[jD,Zp (h x (by simp)),Pe (r:=r) λy a=>h y (by simp[a])]
theorem Pg {k:Nat}:∀{o:Store} {i:Nat},(fO (λj=>decide (k<=j)) i o).take (k - i)=o.take (k - i)
 |[],i=>by simp[fO];|x::r,i=>by
  simp only[fO];by_cases a:i<k
  ·rw[show k - i=(k - (i+1))+1 from by omega,δr,δr,Pg];grind
  simp_all
theorem ahY {k i:Nat} (h:i<k):(ω k).contains i=true:=by simp[h]
theorem Ph {o:Store} {k:Nat}:∀{d:Nat} {vs:List AV},ey k vs=true->cQ o d vs (ω k)=ω k:=by
 intro d;induction d with
 |zero=>grind[cQ];|succ d e=>
  intro vs h;cases vs with
  |nil=>simp[cQ];|cons v vs=>
   simp only[ey,θ] at h;have i:=h.1;simp only[cQ];cases v with
   |agg g=>grind[AV.bY];|bI g=>grind[AV.bY];|fn f a b=>grind[AV.bY];|ptr c _ _=>simp_all[AV.bY];|os c _ _ _=>simp_all[AV.bY];|mp c=>simp_all[AV.bY];|_=>simp only[e h.2]
theorem Pj:∀{n s i p:Nat},s<=i->i<s+n->idxOf (ζu s n) i p=some (p+(i - s))
 |0,s,i,p,a,b=>by omega;|n+1,s,i,p,a,b=>by
  simp only[εr,idxOf];by_cases h:s=i;·subst h;simp
  ·have:(s==i)=false:=by simpa using h
   rw[this];simp only[χ,if_false];rw[Pj (by omega) (by omega)];grind
theorem Hf {k i:Nat} (h:i<k):idxOf (ω k) i=some i:=by
 rw[δC,Pj (by omega) (by omega)];simp
mutual
theorem CZ {k:Nat}:∀{v:AV},v.bY k=true->v.ren (λj=>idxOf (ω k) j)=some v
 | .os g d m e,h=>by simp_all[AV.bY,δu,Hf];| .ptr g d e,h=>by simp_all[AV.bY,δu,Hf];| .mp g,h=>by simp_all[AV.bY,δu,Hf];| .agg i,h=>by simp only[AV.bY] at h;simp only[δu,xA h,ν];| .bI i,h=>by simp only[AV.bY] at h;simp only[δu,xA h,ν];| .fn f a b,h=>by
  simp only[AV.bY,θ] at h;simp only[δu,xA h.1,xA h.2];| .ud,_| .sc _,_| .sl _ _,_| .ep _ _,_| .jl _ _,_=>by simp only[δu]
theorem xA {k:Nat}:∀{l:List AV},ey k l=true->iL (λj=>idxOf (ω k) j) l=some l
 |[],_=>by simp[iL];|c::i,h=>by
  simp only[ey,θ] at h;simp only[iL,CZ h.1,xA h.2]
end
theorem Pm {k:Nat}:∀{l:List (Value×AV)},ey k (l.map (·.2))=true->oP (λj=>idxOf (ω k) j) l=some l
 |[],_=>by simp[oP];|(q,c)::a,h=>by
  simp only[π,ey,θ] at h;simp only[oP,CZ h.1,Pm h.2]
theorem Zq {k:Nat} {x:bR} (h:x.bY k=true):x.ren (λj=>idxOf (ω k) j)=some x:=by
 cases x with
 |dead=>rfl;|cells b e f a=>
  cases a with
  |true=>simp only[bR.ren,if_true];|false=>simp_all[bR.bY,bR.ren,xA]
 |map d c a=>
  cases a with
  |true=>simp only[bR.ren,if_true];|false=>simp_all[bR.bY,bR.ren,Pm]
theorem Hh {k:Nat} {o:Store} (a:∀x∈o.take k,x.bY k=true) (c:k<=o.length):∀{n s:Nat},s+n=k->kW o (ω k) (ζu s n)=some ((o.take k).drop s)
 |0,s,h=>by
  grind[kW];|n+1,s,h=>by
  simp only[εr,kW];have d:s<o.length:=by omega
  have e:o[s]?=some o[s]:=μ d;rw[e,Hh a c (by omega)];have f:o[s]∈o.take k:=by
   rw[List.mem_take_iff_getElem];grind
  simp only[Zq (a _ f),ν];congr 1;have b:s<(o.take k).length:=by simp;omega
  rw[List.drop_eq_getElem_cons b];simp
theorem nodup_range':∀{n s:Nat},iM.pz (ζu s n)=true
 |0,_=>by simp[iM.pz];|n+1,s=>by
  simp only[εr,iM.pz,nodup_range',δQ,Bool.not_eq_true'];grind
theorem Pn {k:Nat}:∀{a b:List AV},ey k a=true->ey k b=true->ey k (a++b)=true
 |[],b,_,h=>h
 |x::a,b,h,c=>by
  simp only[ey,θ] at h;simp only[γG,ey,h.1,Pn h.2 c,Bool.and_self]
theorem Hj {k:Nat}:∀{o:Store},(∀x∈o,x.bY k=true)->ey k (o.flatMap lM.bR.y9)=true
 |[],_=>by simp[ey];|x::o,h=>by
  simp only[δX];refine Pn ?_ (Hj λy a=>h y (by simp[a]));have b:=h x (by simp);cases x<;>grind[lM.bR.y9,ey,bR.bY]
theorem Po {k:Nat} {r:AV} {o:Store} (e:r.bY k=true) (b:∀x∈o,x.bY k=true) (j:k<=o.length):lM k r o=some (r,o.take k):=by
 unfold lM;rw[He e,Pe b];simp only;have a:(fO (λi=>decide (k<=i)) 0 o).take k=o.take k:=by simpa using Pg (k:=k) (o:=o) (i:=0)
 have d:∀{o:Store} {i:Nat},(fO (λi=>decide (k<=i)) i o).length=o.length:=by
  intro o;induction o with
  |nil=>intro i;rfl;|cons x o l=>simp_all[fO]
 have h:∀x∈o.take k,x.bY k=true:=λx g=>b x (List.mem_of_mem_take g);rw[a,Ph (by grind[ey,Hj])];have f:iM.pz (ω k)=true:=by rw[δC];exact nodup_range'
 rw[if_pos f,CZ e];have c:=Hh (k:=k) (o:=fO (λi=>decide (k<=i)) 0 o) (by simp_all) (by simp_all) (n:=k) (s:=0) (by omega);rw[<-δC,a,εn] at c;rw[c]
theorem Hk:∀{env:fA} {s:Nat} {v:SV},(jU env s).g=v.g->gE (xo env s v)=gE env
 |[],_,_,_=>rfl
 |p::r,s,v,h=>by
  simp only[xo,jU] at h ⊢;cases a:δq p.1 s with
  |true=>
   simp_all[gE];|false=>
   rw[a] at h;simp only[cond_false] at h ⊢;have:=Hk h;grind[gE]
theorem Zr {env:fA} {g:Option (Option Nat×Bool)} {K:fA->Bool->Prop} (h:GF env g K):∃a w,gE a=gE env/\mB (gE env) g=some w/\K a w:=by
 unfold GF at h;split at h;·exact⟨_,_,rfl,rfl,h⟩
 ·exact h.elim
 ·rename_i s b;split at h;·grind[mB,ob,γB]
  ·rename_i c d;cases c<;>grind[Hk,mB,ob,γB]
  all_goals grind[mB,ob,γB,gL]
section
variable {call:df} {p:i6}
theorem Pq:∀{a b:bZ},kG a b->gO a=gO b
 |[],[],_=>rfl
 |x::a,y::b,h=>by
  obtain⟨c,d⟩:=h;have e:x.g=y.g:=c;simp only[gO,π,e];congr 1;exact Pq d
def vE:Trace->Trace->Prop
 |[],[]=>True
 |x::a,y::b=>(x.1=y.1/\x.2.1=y.2.1/\∀j∈x.2.2,j∈y.2.2)/\vE a b
 |_,_=>False
theorem vE.look:∀{a b:Trace} {i:Nat},vE a b->(qf a i).1=(qf b i).1/\∀j∈(qf a i).2,j∈(qf b i).2
 |[],[],_,_=>⟨rfl,λj h=>h⟩
 |(k,x)::a,(g,y)::b,i,h=>by
  obtain⟨⟨c,e,d⟩,f⟩:=h;simp only at c e d;subst c;simp only[qf];split;·exact⟨e,d⟩
  ·exact vE.look f
theorem Zs {a b d c:List Nat} (f:∀j∈a,j∈d) (e:∀j∈b,j∈c) (h:wL d c=true):wL a b=true:=by
 grind[wL]
theorem Zt {n:Nat} {a b:Trace} {c:List (Nat×Nat)} (h:vE a b) (d:tu n b c=true):tu n a c=true:=by
 unfold tu at d ⊢;rw[List.all_eq_true] at d ⊢;intro p e;have l:=d p e;obtain⟨g,k⟩:=h.look (i:=p.1);obtain⟨f,j⟩:=h.look (i:=p.2);grind[Zs]
theorem Hl (u:pJ call p.C) {base:Nat}:∀{d:List dC} {st:cu} {l:Trace} {K:cu->Trace->Prop},xp p base d st l K->
  ∃st' T,gh call base d st.g=some st'.g/\vE (mC call base d st.g) T/\K st' (T.reverse++l)
 |[],st,l,K,h=>⟨st,[],rfl,trivial,h⟩
 |i::r,st,l,K,h=>by
  simp only[xp] at h;obtain⟨a,w,B,s,q⟩:=Zr h;have A:st.g=⟨gE a,gO st.o⟩:=by grind[cu.g]
  rw[<-B] at s;cases w with
  |true=>
   simp only[if_true] at q;obtain⟨v,y,E,c⟩:=Zo u q;have b:iu call base i st.g=some (cu.g ⟨vr a i.dst v,y⟩):=by
    grind[iu,OQ,y7,cu.g,OO]
   have k:∀W:List Nat,(∀j∈ez call i.op (λx=>(jH a x).g) (gO st.o) (base+i.bC),j∈W)->
     xp p base r ⟨vr a i.dst v,y⟩ ((i.idx,dR i.op (λx=>(jH a x).g) (st.o.map bq.g) (base+i.bC),W)::l) K->
     ∃st' T,gh call base (i::r) st.g=some st'.g/\vE (mC call base (i::r) st.g) T/\K st' (T.reverse++l):=λW G c=>by
    obtain⟨st',T,D,z,F⟩:=Hl u c;refine⟨st',(i.idx,dR i.op (λx=>(jH a x).g) (st.o.map bq.g) (base+i.bC),W)::T,by grind[gh],?_,?_⟩
    ·simp only[mC,b];rw[A];simp only[s,OQ];exact⟨⟨rfl,rfl,G⟩,z⟩
    simp_all
   unfold OJ at c;split at c
   ·rename_i f n t;split at c
    ·obtain⟨H,c⟩:=c;refine k [] (λj m=>?_) c;rw[t] at E m;have e:iM call f (n.map λx=>(jH a x).g) (gO st.o)=some (v.g,gO y):=by simp_all[bK,gJ]
     simp only[ez,e,List.mem_filter,decide_eq_true_eq] at m;grind[Pq]
    ·exact k _ (λj m=>Gh m) c
   ·exact k _ (λj m=>Gh m) c;|false=>
   simp only[χ,if_false] at q;obtain⟨st',T,D,z,F⟩:=Hl u q;have b:iu call base i st.g=some (cu.g ⟨vr a i.dst (.bI []),st.o⟩):=by
    grind[iu,cu.g,OO,γB,gL]
   refine⟨st',(i.idx,[],[])::T,by grind[gh],?_,?_⟩
   ·simp only[mC,b];rw[A];simp only[s];exact⟨⟨rfl,rfl,λj h=>h⟩,z⟩
   simp_all
theorem Zu (k:Nat):gO (δ k .dead)=gi k:=by simp[gO,gi,bq.g]
theorem Pv (a b:bZ):gO (a++b)=gO a++gO b:=by simp[gO]
theorem Zv (x:bq):x.g.mW=x.mW:=by cases x<;>rfl
theorem Zw (base:Nat) (o:bZ):gO (GG base o)=qV base (gO o):=by
 unfold GG qV;have:((gO o).drop base).all (·.mW)=(o.drop base).all (·.mW):=by
  simp only[gO,<-List.map_drop,ζZ];grind[Zv]
 rw[this];cases(o.drop base).all (·.mW);·rfl
 ·simp[gO]
theorem Zx (i:pJ call p.C) {k:Nat} {b:List dC} {a:List (Nat×Nat)} {st:cu} {K:cu->Prop} (h:GH p k b a st K):∃st',pA call k b a st.g=some st'.g/\K st':=by
 unfold GH at h;obtain⟨st',T,f,j,d⟩:=Hl i h;rw[List.append_nil,List.reverse_reverse] at d;have e:(cu.mk st.env (st.o++δ k .dead)).g=⟨st.g.env,st.g.o++gi k⟩:=by simp[cu.g,Pv,Zu]
 rw[e] at f j;have c:st.g.o.length=st.o.length:=by simp[cu.g,od]
 split at d
 ·rename_i l;refine⟨_,?_,d⟩;simp only[pA,c];rw[f];simp only;rw[if_pos (by
   grind[gi,Zt])];grind[cu.g,Zw]
 simp_all
end
theorem C0 {v:SV}:isNil v=true↔v.g= .sc (.slice none 0 0):=by
 constructor
 ·intro h;unfold isNil at h;split at h;·rfl
  ·cases h
 ·intro h;cases v<;>simp only[γB,reduceCtorEq,δb] at h;subst h;rfl
section
variable {o:bZ} {id:Nat} {s:bp} {l:List s.T} {e:TypeId}
def pid (id:Nat):Nat->Bool:=λi=>i==id
mutual
theorem Px (r:o[id]?=some (.row s l e true)):∀{v:SV} {K:SV->Prop},jI id s l v K->∃E:SV,v.g.bU (gO o) (pid id)=some E.g/\K E
 | .ow j n A,K,h=>by
  simp only[jI] at h;split at h
  ·rename_i q;subst q;split at h
   ·rename_i u;subst u;obtain⟨rfl,D⟩:=h;refine⟨_,?_,D⟩;have I:Δ (l.length*s.sz) (cB s l)=cB s l:=γo (by grind[eY]);simp_all[γB,AV.bU,pid,fQ,bq.g,eY]
   simp_all
  ·rename_i q;refine⟨_,?_,h⟩;simp_all[γB,AV.bU,pid];| .os j w p n A,K,h=>by
  simp only[jI] at h;split at h
  ·rename_i q;subst q;split at h
   ·rename_i u;subst u;obtain⟨rfl,C,D⟩:=h;refine⟨_,?_,D⟩;have F:(w+p)*s.sz<=l.length*s.sz:=γJ _ C;rw[δS] at F;have B:((l.drop w).take p).length=p:=by simp;omega
    simp only[γB,AV.bU,pid,BEq.rfl,if_true,fQ r,bq.g,eY,F,and_self,zL,B]
   simp_all
  ·rename_i q;refine⟨_,?_,h⟩;simp_all[γB,AV.bU,pid];| .oc j w p n A,K,h=>by
  simp only[jI] at h;split at h;·exact h.elim
  ·rename_i q;exact⟨_,by simp_all[γB,AV.bU,pid],h⟩;| .rp j i f n A,K,h=>by
  simp only[jI] at h;split at h;·exact h.elim
  ·rename_i q;exact⟨_,by simp_all[γB,AV.bU,pid],h⟩;| .ptr j f t,K,h=>by
  simp only[jI] at h;split at h;·exact h.elim
  ·rename_i q;exact⟨_,by simp_all[γB,AV.bU,pid],h⟩;| .ap j a b c d i,K,h=>by
  simp only[jI] at h;split at h;·exact h.elim
  ·rename_i q;exact⟨_,by simp_all[γB,AV.bU,pid],h⟩;| .agg x,K,h=>by
  simp only[jI] at h;obtain⟨m,z,y⟩:=vF r h;grind[γB,AV.bU];| .bI x,K,h=>by
  simp only[jI] at h;obtain⟨m,z,y⟩:=vF r h;grind[γB,AV.bU];| .fn f a b,K,h=>by
  simp only[jI] at h;obtain⟨M,z,y⟩:=vF r h;obtain⟨L,G,H⟩:=vF r y;grind[γB,AV.bU];| .ud,K,h=>⟨.ud,by grind[γB,AV.bU],by grind[jI]⟩
 | .sc v,K,h=>⟨.sc v,by grind[γB,AV.bU],by grind[jI]⟩
 | .il k n,K,h=>⟨.il k n,by grind[γB,AV.bU],by grind[jI]⟩
 | .si k n,K,h=>⟨.si k n,by grind[γB,AV.bU],by grind[jI]⟩
 | .bl b,K,h=>⟨.bl b,by grind[γB,AV.bU],by grind[jI]⟩
 | .sb b,K,h=>⟨.sb b,by grind[γB,AV.bU],by grind[jI]⟩
 | .row s l,K,h=>⟨.row s l,by grind[γB,AV.bU],by grind[jI]⟩
 | .ep s l i f,K,h=>⟨.ep s l i f,by grind[γB,AV.bU],by grind[jI]⟩
 | .mp i,K,h=>⟨.mp i,by grind[γB,AV.bU],by grind[jI]⟩
 | .ia t x,K,h=>⟨.ia t x,by grind[γB,AV.bU],by grind[jI]⟩
 | .ite c a b,K,h=>⟨.ite c a b,by grind[γB,AV.bU],by grind[jI]⟩
theorem vF (r:o[id]?=some (.row s l e true)):∀{x:List SV} {K:List SV->Prop},rj id s l x K->∃m:List SV,gV (gO o) (pid id) (gL x)=some (gL m)/\K m
 |[],K,h=>⟨[],by simp[gL,gV],by grind[rj]⟩
 |c::x,K,h=>by
  simp only[rj] at h;obtain⟨J,z,y⟩:=Px r h;obtain⟨m,G,H⟩:=vF r y;grind[gL,gV]
end
theorem Hm (b:o[id]?=some (.row s l e true)):∀{env:fA} {K:fA->Prop},zD id s l env K->∃a,uZ (gO o) (pid id) (gE env)=some (gE a)/\K a
 |[],K,h=>⟨[],rfl,h⟩
 |(k,v)::r,K,h=>by
  simp only[zD] at h;obtain⟨f,d,c⟩:=Px b h;obtain⟨j,g,i⟩:=Hm b c;grind[gE,uZ]
theorem C2 {o:Store} {q:Nat->Bool}:∀{cs:List AV},(∀a∈cs,Plain a)->gV o q cs=some cs
 |[],_=>by simp[gV];|a::cs,h=>by
  have d:=C2 (o:=o) (q:=q) (cs:=cs) λb c=>h b (by simp[c]);rcases h a (by simp) with⟨v,rfl,_⟩|⟨n,e,rfl,_⟩<;>simp only[gV,AV.bU,d]
theorem Hn {o:Store} {q:Nat->Bool}:∀{es:List (Value×AV)},(∀a∈es,∃v,a.2= .sc v)->qg o q es=some es
 |[],_=>by simp[qg];|(k,a)::es,h=>by
  obtain⟨v,b⟩:=h (k,a) (by simp);simp only at b;subst b;simp only[qg,AV.bU,Hn (es:=es) λa c=>h a (by simp[c])]
theorem sA (j:o[id]?=some (.row s l e true)):∀{i:Nat} {r:bZ} {K:bZ->Prop},nZ id s l i r K->∃r' mid,jD (gO o) (pid id) (gO r)=some mid/\fO (pid id) i mid=gO r'/\K r'
 |i,[],K,h=>⟨[],[],rfl,rfl,h⟩
 |i,x::r,K,h=>by
  cases x with
  |dead=>
   simp only[nZ] at h;obtain⟨r',mid,w,n,f⟩:=sA j h;grind[gO,bq.g,jD,bR.bU,fO];|cells N p F d=>
   simp only[nZ] at h;cases d with
   |true=>
    simp only[if_true] at h;split at h;·exact h.elim
    ·rename_i B;obtain⟨r',mid,w,n,f⟩:=sA j h;refine⟨_,.cells (gL N) p F true::mid,?_,?_,f⟩;all_goals simp_all[gO,bq.g,jD,bR.bU,fO,pid];|false=>
    simp only[χ,if_false] at h;obtain⟨A,z,k⟩:=vF j h;obtain⟨r',mid,w,n,f⟩:=sA j k;refine⟨_,.cells (gL A) p F false::mid,?_,?_,f⟩;all_goals simp_all[gO,bq.g,jD,bR.bU,fO]
  |oW v u p t=>
   simp only[nZ] at h;split at h;·exact h.elim
   ·obtain⟨O,z,k⟩:=vF j h;split at k
    ·rename_i m M;obtain⟨L,_⟩:=CX M;obtain⟨r',mid,w,n,f⟩:=sA j k;refine⟨_,(bq.row v (u++m) p false).g::mid,?_,?_,f⟩
     ·simp only[gO,π,bq.g] at w z ⊢;have G:∀(a b c:List AV),gV (γb bq.g o) (pid id) a=some a->gV (γb bq.g o) (pid id) b=some c->gV (γb bq.g o) (pid id) (a++b)=some (a++c):=λa b c w n=>by
       induction a<;>grind[gV]
      have P:gV (γb bq.g o) (pid id) (cB v u)=some (cB v u):=C2 (λa C=>ni C);simp_all[jD,bR.bU,OC]
     ·simp only[bq.g,fO,n];rfl
    simp_all;|row v u p d=>
   simp only[nZ] at h;have y:(bq.row v u p d).g.bU (gO o) (pid id)=some (bq.row v u p d).g:=by
    cases d with
    |true=>simp only[bq.g,bR.bU,if_true];|false=>
     simp only[bq.g,bR.bU,χ,if_false];grind[C2,ni]
   split at h
   ·rename_i B;cases d with
    |false=>simp_all;|true=>
     simp only[if_true] at h;obtain⟨r',mid,w,n,f⟩:=sA j h;refine⟨_,(bq.row v u p true).g::mid,?_,?_,f⟩;all_goals simp_all[gO,jD,bq.g,fO,pid]
   ·rename_i B;obtain⟨r',mid,w,n,f⟩:=sA j h;refine⟨_,(bq.row v u p d).g::mid,?_,?_,f⟩;·grind[gO,jD]
    ·cases d<;>simp only[bq.g,fO,n,pid,beq_iff_eq,if_neg B]<;>rfl;|map H D I E J d=>
   simp only[nZ] at h;have y:(bq.map H D I E J d).g.bU (gO o) (pid id)=some (bq.map H D I E J d).g:=by
    cases d with
    |true=>simp only[bq.g,bR.bU,if_true];|false=>
     simp only[bq.g,bR.bU,χ,if_false];rw[Hn (λa C=>by obtain⟨q,_,rfl⟩:=Ω.1 C;exact⟨_,rfl⟩),ν]
   obtain⟨r',mid,w,n,f⟩:=sA j h;grind[gO,jD,bq.g,fO]
end
theorem Zy {v:SV}:(∃id,t6.xt v=some id/\∃a b c,v.g= .os id a b c)\/(t6.xt v=none/\∀id a b c,v.g≠ .os id a b c):=by
 cases v<;>simp[t6.xt,γB]
theorem Py {p:i6} {lo:Nat} {h:kA} {st:cu} {K:cu->Prop} {v:SV} (t:h.own=false) (f:BG h st.g=some v.g)
  (d:match t6.xt v with
   |some id=>if Nat.ble lo id then(match st.o[id]? with
    |some (.row s l e pu)=>zD id s l st.env λenv=>nZ id s l 0 (if pu then st.o else st.o.set id (.row s l e true)) λo=>K ⟨env,o⟩
    |_=>False) else K st
   |none=>K st):∃st',j9 lo h st.g=st'.g/\K st':=by
 let _:=p;unfold j9;rw[if_neg (by simp[t]),f];rcases @Zy v with⟨id,w,a,b,c,x⟩|⟨w,x⟩
 ·rw[w] at d;rw[x];simp only at d ⊢;split at d
  ·rename_i q;rw[if_pos q];split at d
   ·rename_i s l e pu m;have D:(λi=>i==id)=pid id:=rfl;cases pu with
    |true=>
     simp only[if_true] at d;obtain⟨j,A,n⟩:=Hm m d;obtain⟨B,u,C,y,r⟩:=sA m n;refine⟨_,?_,r⟩;simp_all[y8,cu.g,fQ,bq.g,BJ];|false=>
     simp only[χ,if_false] at d;have z:id<st.o.length:=(ζ.1 m).1;have k:(st.o.set id (.row s l e true))[id]?=some (.row s l e true):=by simp_all
     obtain⟨j,A,n⟩:=Hm (o:=st.o.set id (.row s l e true)) k d;obtain⟨B,u,C,y,r⟩:=sA k n;refine⟨_,?_,r⟩;simp_all[y8,cu.g,fQ,bq.g,nV,qp,BJ]
   simp_all
  grind
 grind
section
variable {p:i6} {lo:Nat}
theorem Zz {h:kA} {st:cu} {K:cu->Prop} (a:t6 p lo h st K):∃st',j9 lo h st.g=st'.g/\K st':=by
 unfold t6 at a;split at a
 ·rename_i f;unfold j9;rw[if_pos f];unfold BI;split at a
  ·rename_i b;simp only[b];split at a
   ·rename_i r;have t:=C0.1 r;rw[<-ob] at t;have B:dM st.g.env h.slot= .sc (.slice none 0 0):=t;rw[B];split at a
    ·rename_i s J;split at a
     ·rename_i w;refine⟨_,?_,a⟩;simp[cu.g,gE,gO,γB,bq.g,cB,w]
     simp_all
    simp_all
   ·rename_i r;split at a
    ·rename_i z;split at a
     ·rename_i m G D d;have n:dM st.g.env h.slot= .os m 0 G (G*D):=by
       show dM (gE st.env) h.slot=_;rw[ob,d];rfl
      rw[n];split at a
      ·rename_i s l e y;refine⟨_,?_,a⟩;simp_all[BH,cu.g,fQ,bq.g,qp]
      simp_all
     simp_all
    ·rename_i z;refine⟨st,?_,a⟩;split
     ·rename_i L;have:dM (gE st.env) h.slot= .sc (.slice none 0 0):=L;grind[ob,C0]
     all_goals simp_all
  ·rename_i k b;simp only[b];split at a
   ·rename_i m c j d;have n:dM st.g.env h.slot= .ptr m c j:=by
     show dM (gE st.env) h.slot=_;rw[ob,d];rfl
    rw[n];split at a
    ·rename_i i e F E y;have u:st.g.o[m]?=some (.cells (gL i) e F E):=fQ y;simp only[u];split at a
     ·rename_i r;cases C:i[c+k]? with
      |none=>simp_all;|some v=>
       rw[C] at r;simp only[Option.any_some] at r;have M:=C0.1 r;have A:(gL i)[c+k]?=some (.sc (.slice none 0 0)):=by grind[t8]
       simp only[A,jW];split at a
       ·rename_i I;rw[if_pos I];split at a
        ·rename_i s J;split at a
         ·rename_i w;refine⟨_,?_,a⟩;have N:gL (i.set (c+k) (.ow st.o.length 0 h.sz))=(gL i).set (c+k) (.os st.o.length 0 0 0):=by
           simp_all[gj,γB]
          simp_all[cu.g,bq.g,gO,cB]
         simp_all
        simp_all
       simp_all
     grind[t8,C0]
    simp_all
   simp_all
 ·rename_i f;have f:h.own=false:=by simpa using f
  unfold t6.OL at a;cases b:h.off with
  |none=>
   rw[b] at a;simp only at a;refine Py (p:=p) (v:=jU st.env h.slot) f ?_ ?_;all_goals grind[BG,cu.g,ob];|some k=>
   rw[b] at a;simp only at a;cases q:jU st.env h.slot with
   |ptr m c j=>
    rw[q] at a;simp only at a;cases y:st.o[m]? with
    |none=>simp_all;|some x=>
     rw[y] at a;cases x with
     |cells i e F E=>
      simp only at a;by_cases H:i.length=j
      ·rw[if_pos H] at a;cases C:i[c+k]? with
       |none=>simp_all;|some v=>
        rw[C] at a;refine Py (p:=p) (v:=v) f ?_ ?_
        ·unfold BG;rw[b];have:dM st.g.env h.slot= .ptr m c j:=by
          show dM (gE st.env) h.slot=_;rw[ob,q];rfl
         have u:st.g.o[m]?=some (.cells (gL i) e F E):=fQ y;simp_all[behind,jW,t8]
        grind
      simp_all;|_=>exact a.elim
   |_=>rw[q] at a;exact a.elim
theorem Ho:∀{hs:List kA} {st:cu} {K:cu->Prop},zE p lo hs st K->∃st',hs.foldl (λs h=>j9 lo h s) st.g=st'.g/\K st'
 |[],st,K,h=>⟨st,rfl,h⟩
 |h::hs,st,K,hk=>by
  simp only[zE] at hk;obtain⟨st1,h1,h2⟩:=Zz hk;obtain⟨st2,h3,h4⟩:=Ho h2;exact⟨st2,by rw[List.foldl_cons,h1,h3],h4⟩
theorem ZA (a:List Nat) (env:fA):gE (GI a env)=prune a (gE env):=by
 simp[GI,prune,gE,<-ob]
theorem Hq (k:Nat) (st:cu):(trimS k st).g=trim k st.g:=by
 unfold trimS trim;have b:st.g.o.length=st.o.length:=by simp[cu.g,od]
 have c:(st.g.env.all λp=>p.2.bY k)=(st.env.all λp=>p.2.bY k):=by
  simp only[cu.g,gE,ζZ];grind[zJ]
 have d:((st.g.o.take k).all λx=>x.bY k)=((st.o.take k).all λx=>x.bY k):=by
  simp only[cu.g,gO,<-List.map_take,ζZ];grind[CU]
 rw[b,c,d];by_cases a:st.o.length<=k;·simp_all
 ·rw[if_neg a,if_neg a];split;·simp[cu.g,gO]
  ·rfl
variable {T:Tab}
theorem Pz {v:Int} {n:Nat} {K:Nat->Prop}:∀{j:Nat},j<=n->splitN v n K j->(n - j:Nat)<=v->∃i:Nat,v=i/\K i
 |0,_,h,a=>by
  grind[splitN];|j+1,c,h,a=>by
  simp only[splitN] at h;by_cases b:v=(n - (j+1):Nat);·grind
  ·exact Pz (by omega) h.2 (by omega)
theorem PD {v:Int} {n:Nat} {K:Nat->Prop}:∀{j:Nat},splitN v n K j->0<=v
 |0,h=>h.1
 |j+1,h=>PD h.2
theorem ZB {x:Option (Nat×Nat×Nat)} {st:cu} {K:cu->Prop} (h:splitK x st K):∃st',st'.g=st.g/\K st':=by
 unfold splitK at h;split at h;·grind
 ·rename_i p a n;split at h
  ·rename_i c e q r b;split at h
   ·rename_i k v o;obtain⟨i,rfl,f⟩:=Pz (Nat.le_refl _) h (by have:=PD h;omega);refine⟨_,?_,f⟩;have l:gL (c.set a (.il k i))=gL c:=by
     rw[gj,gj,List.map_set];apply γ9;grind[γB]
    simp only[cu.g,qp,bq.g,l,cu.mk.injEq,St.mk.injEq,true_and];apply γ9;intro j;rw[List.getElem?_set];split
    ·rename_i d;subst d;have m:=(ζ.1 b).1;rw[if_pos (by grind[od]),GY,b];rfl
    ·rfl
   simp_all
  simp_all
theorem PE:∀{e a:fA},xu e a->gE e=gE a
 |[],[],_=>rfl
 |[],_::_,h=>by grind[xu];|_::_,[],h=>by grind[xu];|(k,v)::e,(d,c)::a,h=>by
  simp only[xu] at h;split at h
  ·rename_i b;subst b;have:=PE h.2;simp only[gE,π] at this ⊢;rw[this,show v.g=c.g from h.1]
  simp_all
theorem xB:∀{o o':bZ},kG o o'->gO o=gO o'
 |[],[],_=>rfl
 |[],_::_,h=>by grind[kG];|_::_,[],h=>by grind[kG];|x::o,y::o',h=>by
  simp only[kG] at h;have:=xB h.2;simp only[gO,π] at this ⊢;rw[this,show x.g=y.g from h.1]
theorem C4 {s t:cu} (h:zF s t):s.g=t.g:=by
 simp only[cu.g,PE h.1,xB h.2]
theorem ahZ (env:fA) (args:List Operand):args.map (eJ (gE env))=gL (args.map (jH env)):=by
 simp_all[gj,zI]
theorem vG (hC:pJ T.K p.C) (hI:∀f F,p.it f=some F->T.fn f=some F):∀{c:IR} {Λ:Nat->cE} {st:cu} {Q:Out->cu->Prop},wpS p lo c Λ st Q->VW T zx lo c st.g λout s=>∃ss,s=ss.g/\Q out ss:=by
 intro c;induction c with
 |skip=>intro Λ st Q h;exact VW.skip ⟨st,rfl,h⟩;|exit id=>intro Λ st Q h;exact VW.exit ⟨st,rfl,h⟩;|ret=>intro Λ st Q h;exact VW.ret ⟨st,rfl,h⟩;|goto l=>intro Λ st Q h;exact VW.goto ⟨st,rfl,h⟩;|oO x a b iha ihb=>
  intro Λ st Q h;simp only[wpS] at h;have hx:eJ st.g.env x=(jH st.env x).g:=zI _ _;split at h
  ·rename_i he;rw[he] at hx;exact VW.oO hx (by rw[if_pos rfl];exact iha h)
  ·rename_i he;rw[he] at hx;exact VW.oO hx (by rw[if_neg (by simp)];exact ihb h)
  ·rename_i c he;rw[he] at hx;have hset:∀v:SV,(SV.sb c).g=v.g->(cu.mk (CP st.env x v) st.o).g=st.g:=λv hv=>by
    cases x with
    |tmp t=>
     have:jU st.env t= .sb c:=he;simp only[cu.g,CP];rw[Hk (by rw[this];exact hv)];|_=>rfl
   refine VW.oO hx ?_;cases c with
   |true=>
    have:=iha (h.1 rfl);rw[hset (.bl true) rfl] at this;rw[if_pos rfl];exact this;|false=>
    have:=ihb (h.2 rfl);rw[hset (.bl false) rfl] at this;rw[if_neg (by simp)];exact this
  ·exact h.elim;|turns l b ih=>
  intro Λ st Q h;cases l with
  |none=>
   simp only[wpS] at h;refine VW.YW ((ih h).mono ?_);rintro out s ⟨ss,rfl,h2⟩;cases out with
   |norm=>exact⟨by simp,ss,rfl,h2⟩;|exit id=>exact⟨by simp,ss,rfl,h2⟩;|ret=>exact⟨by simp,ss,rfl,h2⟩;|goto l=>exact h2.elim
  |some l=>
   simp only[wpS] at h;split at h
   ·rename_i X shape next J m inner _;obtain⟨⟨h0,hx⟩,hstep⟩:=h;refine VW.YX (λk s=>∃x,s=(shape x).g/\J x/\m x=k) ?_ (m (next st)) _ ⟨next st,C4 h0,hx,rfl⟩;rintro k s ⟨x,rfl,hj,rfl⟩;refine(ih (hstep x hj)).mono ?_;rintro out s ⟨ss,rfl,h2⟩;cases out with
    |goto l'=>
     obtain⟨rfl,h3,h4,h5⟩:=h2;refine .inl ⟨rfl,_,h5,_,?_,h4,rfl⟩;have h6:=C4 h3;rw[<-h6,Hq,show(shape x).o.length=(shape x).g.o.length from by simp[cu.g,od]];|norm=>exact .inr ⟨by simp,ss,rfl,h2⟩;|exit id=>exact .inr ⟨by simp,ss,rfl,h2⟩;|ret=>exact .inr ⟨by simp,ss,rfl,h2⟩
   ·exact h.elim
 |region id draw k ops kB live pre post=>
  intro Λ st Q h;simp only[wpS] at h;obtain⟨st0,h0,h⟩:=ZB h;obtain⟨st1,h1,h2⟩:=Ho h;obtain⟨st2,h3,h4⟩:=Zx hC h2;obtain⟨GL,h5,h6⟩:=Ho h4;refine VW.region ?_;rw[<-h0,h1,h3];refine⟨GL,?_,h6⟩;rw[<-h5];simp only[cu.g,ZA];|tq g caps d a b _ _=>intro Λ st Q h;exact h.elim;|seq a b iha ihb=>
  intro Λ st Q h;simp only[wpS] at h;refine VW.seq ((iha h).mono ?_);rintro out s ⟨ss,rfl,h2⟩;cases out with
  |norm=>rw[if_pos rfl];exact ihb h2;|exit id=>rw[if_neg (by simp)];exact⟨ss,rfl,h2⟩;|ret=>rw[if_neg (by simp)];exact⟨ss,rfl,h2⟩;|goto l=>rw[if_neg (by simp)];exact⟨ss,rfl,h2⟩
 |cond x a b iha ihb=>
  intro Λ st Q h;simp only[wpS] at h;have hx:eJ st.g.env x=(jH st.env x).g:=zI _ _;have hdr:(cu.mk (xw x st.env) st.o).g=⟨pB x st.g.env,st.g.o⟩:=by
   have:∀(t:Nat) (env:fA),(zG t env).map (λp=>(p.1,p.2.g))=qZ t (env.map λp=>(p.1,p.2.g)):=by
    intro t env;induction env with
    |nil=>rfl;|cons p env ih=>
     simp only[zG,qZ,π];cases δq p.1 t with
     |true=>simpa using ih;|false=>simpa using ih
   cases x with
   |tmp t=>simp only[cu.g,gE,xw,pB];rw[this];|_=>rfl
  split at h
  ·rename_i he;rw[he] at hx;exact VW.cond hx (by rw[if_pos rfl,<-hdr];exact iha h)
  ·rename_i he;rw[he] at hx;exact VW.cond hx (by rw[if_neg (by simp),<-hdr];exact ihb h)
  ·rename_i c he;rw[he] at hx;refine VW.cond hx ?_;cases c with
   |true=>rw[if_pos rfl,<-hdr];exact iha (h.1 rfl);|false=>rw[if_neg (by simp),<-hdr];exact ihb (h.2 rfl)
  ·exact h.elim;|block id b ih=>
  intro Λ st Q h;simp only[wpS] at h;exact VW.block ((ih h).mono λout s ⟨ss,e,h2⟩=>⟨ss,e,h2⟩);|loop b ih=>
  intro Λ st Q h;simp only[wpS] at h;split at h
  ·rename_i n ZC;clear ZC;induction n generalizing st with
   |zero=>exact h.elim;|succ n ihn=>
    simp only[GK] at h;refine VW.loop ((ih h).mono ?_);rintro out s ⟨ss,rfl,h2⟩;cases out with
    |norm=>
     rw[if_pos rfl];have:=ihn h2;rwa [Hq,show st.o.length=st.g.o.length from by simp[cu.g,od]] at this;|exit id=>rw[if_neg (by simp)];exact⟨ss,rfl,h2⟩;|ret=>rw[if_neg (by simp)];exact⟨ss,rfl,h2⟩;|goto l=>rw[if_neg (by simp)];exact⟨ss,rfl,h2⟩
  ·exact h.elim
  ·rename_i X shape next J m inner _;obtain⟨⟨h0,hx⟩,hstep⟩:=h;refine VW.YV (λk s=>∃x,s=(shape x).g/\J x/\m x=k) ?_ (m (next st)) _ ⟨next st,C4 h0,hx,rfl⟩;rintro k s ⟨x,rfl,hj,rfl⟩;refine(ih (hstep x hj)).mono ?_;rintro out s ⟨ss,rfl,h2⟩;cases out with
   |norm=>
    rw[if_pos rfl];obtain⟨h3,h4,h5⟩:=h2;refine⟨_,h5,_,?_,h4,rfl⟩;have h6:=C4 h3;rw[<-h6,Hq,show(shape x).o.length=(shape x).g.o.length from by simp[cu.g,od]];|exit id=>rw[if_neg (by simp)];exact⟨ss,rfl,h2⟩;|ret=>rw[if_neg (by simp)];exact⟨ss,rfl,h2⟩;|goto l=>rw[if_neg (by simp)];exact⟨ss,rfl,h2⟩
theorem PG {st:cu}:∀{a:List mZ} {K:List SV->Prop},oa.goK st a K->∃l,a.mapM (qW st.g)=some (gL l)/\K l
 |[],K,h=>⟨[],by simp[gL],h⟩
 |r::a,K,h=>by
  simp only[oa.goK] at h;have b:∃v,qW st.g r=some v.g/\oa.goK st a λl=>K (v::l):=by
   unfold oa.OM at h;unfold qW;split at h
   ·rename_i c;rw[c];exact⟨_,by grind[cu.g,ob],h⟩
   grind[OX,cu.g,ob]
  obtain⟨v,i,d⟩:=b;obtain⟨l,f,e⟩:=PG d;exact⟨v::l,by simp_all[gL],e⟩
theorem xC {st:cu} {b:List mZ} {K:SV->Prop} (h:oa st b K):∃r,nQ st.g b=some r.g/\K r:=by
 unfold oa at h;obtain⟨l,c,a⟩:=PG h;unfold nQ;rw[c];match l,a with
 |[],a=>exact⟨_,rfl,a⟩;|[v],a=>exact⟨v,rfl,a⟩;|v::w::l,a=>exact⟨_,rfl,a⟩
theorem vH:∀(i:Nat) (args:List SV),gE (nj i args)=iw i (gL args)
 |_,[]=>rfl
 |i,v::a=>by
  have:=vH (i+1) a;grind[gE,nj,gL,iw]
theorem Hr {Λ:Nat->cE} {P:Program} (hT:kF P T) (hC:pJ T.K p.C) (hI:∀f F,p.it f=some F->T.fn f=some F) {f:FuncId} {F:fy} (hF:T.fn f=some F) {args:List SV} {r:AV} (hK:T.K f (gL args) [] false=none) (hlen:args.length=F.params)
  {Q:SV->Prop} (hQ:∀v,Q v->v.g=r) (h:t7 p Λ F args Q):gW P f=true/\kE P f (gL args) [] r []:=by
 unfold t7 at h;have hw:=vG hC hI h;have hst:(cu.mk (nj 0 args) []).g=⟨iw 0 (gL args),[]⟩:=by simp[cu.g,vH,gO]
 rw[hst] at hw;obtain⟨h1,h2,_⟩:=Cm hT hF (o:=[]) (own:=false) hK (by rw[jW];exact hlen) (v:=r) (o':=[]) (hw.mono λout s hs=>by
  obtain⟨ss,rfl,hq⟩:=hs;cases out with
  |exit id=>exact hq.elim;|goto l=>exact hq.elim;|norm=>
   obtain⟨r0,h1,h2⟩:=xC hq;obtain⟨v,h3,h4⟩:=G0 h2;refine⟨.inl rfl,?_⟩;rw[h1];show finish false 0 r0.g ss.g.o=_;have:freeze ss.g.o 6 r0.g=some v.g:=h3;simp[finish,this,hQ _ h4];|ret=>
   obtain⟨r0,h1,h2⟩:=xC hq;obtain⟨v,h3,h4⟩:=G0 h2;refine⟨.inr rfl,?_⟩;rw[h1];show finish false 0 r0.g ss.g.o=_;have:freeze ss.g.o 6 r0.g=some v.g:=h3;simp[finish,this,hQ _ h4]);exact⟨h1,h2⟩
end
structure qs (α:Type) where
 put:α->SV
 dec:SV->Option α
 ok:∀v a,dec v=some a->v.g=(put a).g
 inj:∀a b,(put a).g=(put b).g->a=b
structure qt (α:Type) where
 put:α->List SV
 dec:List SV->Option α
 ok:∀v a,dec v=some a->gL v=gL (put a)
 inj:∀a b,gL (put a)=gL (put b)->a=b
def qt.one {d:Type} (c:qs d):qt d where
 put a:=[c.put a];dec
  |[v]=>c.dec v
  |_=>none;ok v a h:=by
  match v,h with
  |[v],h=>simp only[gL,c.ok v a h]
 inj a b h:=by
  simp only[gL,Γ,and_true] at h;exact c.inj a b h
def qt.cons {f g:Type} (c:qs f) (d:qt g):qt (f×g) where
 put a:=c.put a.1::d.put a.2;dec
  |v::e=>match c.dec v,d.dec e with
   |some a,some b=>some (a,b)
   |_,_=>none
  |[]=>none;ok v a h:=by
  match v,h with
  |v::e,h=>
   simp only at h;split at h
   ·rename_i x y j i;simp only[γ] at h;subst h;simp only[gL,c.ok v x j,d.ok e y i]
   ·cases h
 inj a b h:=by
  simp only[gL,Γ] at h;exact Prod.ext (c.inj _ _ h.1) (d.inj _ _ h.2)
def qt.nil:qt Unit where
 put _:=[];dec
  |[]=>some ()
  |_=>none;ok v a h:=by
  grind
 inj a b h:=rfl
structure bM where
 f:FuncId
 α:Type
 A:qt α
 dom:α->Prop
 res:α->SV
def Holds (P:Program) (c:bM):Prop:=∀a,c.dom a->gW P c.f=true/\kE P c.f (gL (c.A.put a)) [] (c.res a).G []
def pK (f:FuncId):List bM->Option bM
 |[]=>none
 |c::r=>bif δq c.f f then some c else pK f r
def vI (L:List bM) (f:FuncId) (args:List SV) (K:SV->Prop):Prop:=
 match pK f L with
 |some c=>i7 (c.A.dec args) λa=>c.dom a/\CO (c.res a) K
 |none=>False
structure np where
 K:FuncId->List AV->Store->Option (AV×Store)
 C:FuncId->List SV->bZ->(SV->bZ->Prop)->Prop
def np.none:np:=⟨λ_ _ _=> .none,λ_ _ _ _=>False⟩
noncomputable def sB (L:List bM) (W:np):df:=λf args o own=>
 if own then W.K f args o
 else match o with
  |[]=>match pK f L with
   |some c=>(ans (λa=>gL (c.A.put a)) c.dom (λa=>(c.res a).G) args).map λv=>(v,[])
   |none=> .none
  |_=> .none
noncomputable def qu (a:FuncId->Option fy) (L:List bM) (W:np):Tab:=⟨a,sB L W⟩
structure qw (P:Program) (W:np):Prop where
 K:∀f args o r o',W.K f args o=some (r,o')->gW P f=true/\kE P f args o r o'
 C:∀(call:df),(∀f args o,call f args o true=W.K f args o)->∀f args o K,W.C f args o K->∃(r:SV) (o':bZ),iM call f (gL args) (gO o)=some (r.g,gO o')/\K r o'
theorem qw.none (P:Program):qw P np.none where
 K:=λ_ _ _ _ _ h=>by cases h
 C:=λ_ _ _ _ _ _ h=>h.elim
theorem PH:∀{L:List bM} {f:FuncId} {c:bM},pK f L=some c->c.f=f/\c∈L
 |[],_,_,h=>by cases h;|d::L,f,c,h=>by
  simp only[pK] at h;cases a:δq d.f f with
  |true=>
   simp_all;|false=>
   rw[a] at h;simp only[cond_false] at h;obtain⟨b,e⟩:=PH h;simp_all
theorem Ht:∀{v:SV} {K:SV->Prop},CO v K->∃w:SV,w.g=v.G/\K w
 | .ite c a b,K,h=>by
  cases c with
  |true=>exact Ht (v:=a) (h.1 rfl);|false=>exact Ht (v:=b) (h.2 rfl)
 | .ud,_,h| .sc _,_,h| .il _ _,_,h| .si _ _,_,h| .bl _,_,h| .sb _,_,h| .agg _,_,h| .bI _,_,h| .row _ _,_,h| .ep _ _ _ _,_,h| .ptr _ _ _,_,h| .ap _ _ _ _ _ _,_,h| .rp _ _ _ _ _,_,h| .ow _ _ _,_,h| .os _ _ _ _ _,_,h| .oc _ _ _ _ _,_,h| .mp _,_,h| .fn _ _ _,_,h| .ia _ _,_,h=>⟨_,rfl,h⟩
theorem zR:∀{w v:SV},v.sy w->v.g=w.G
 | .ite c a b,v,h=>by
  cases c with
  |true=>exact zR (w:=a) (h.1 rfl);|false=>exact zR (w:=b) (h.2 rfl)
 | .ud,_,h| .sc _,_,h| .il _ _,_,h| .si _ _,_,h| .bl _,_,h| .sb _,_,h| .agg _,_,h| .bI _,_,h| .row _ _,_,h| .ep _ _ _ _,_,h| .ptr _ _ _,_,h| .ap _ _ _ _ _ _,_,h| .rp _ _ _ _ _,_,h| .ow _ _ _,_,h| .os _ _ _ _ _,_,h| .oc _ _ _ _ _,_,h| .mp _,_,h| .fn _ _ _,_,h| .ia _ _,_,h=>h
variable {P:Program} {L:List bM} {W:np} {fn:FuncId->Option fy}
theorem vJ (j:qw P W) (k:∀c∈L,Holds P c) (n:kF P ⟨fn,λ_ _ _ _=>none⟩):kF P (qu fn L W) where
 fn:=n.fn;K:=λg e o b r q h=>by
  simp only[qu,sB] at h;cases b with
  |true=>
   simp only[if_true] at h;obtain⟨p,d⟩:=j.K _ _ _ _ _ h;simp_all;|false=>
   simp only[χ,if_false] at h;split at h
   ·split at h
    ·rename_i c l;obtain⟨rfl,f⟩:=PH l;obtain⟨v,m,d⟩:=ε.1 h;simp only[Prod.mk.injEq] at d;obtain⟨rfl,rfl⟩:=d;obtain⟨a,rfl,i,rfl⟩:=YZ m;obtain⟨t,s⟩:=k c f a i;simp_all
    ·cases h
   ·cases h
theorem vK (hW:qw P W):pJ (qu fn L W).K ⟨vI L,W.C⟩ where
 pure:=λf args K h=>by
  simp only[vI] at h;split at h
  ·rename_i c hc;obtain⟨a,h1,h2,h3⟩:=jm h;obtain⟨r,h4,h5⟩:=Ht h3;refine⟨r,?_,h5⟩;have:=c.A.ok _ _ h1;simp only[qu,sB,χ,if_false,hc,this];rw[YY (enc:=λa=>gL (c.A.put a)) c.A.inj h2,h4];rfl
  ·exact h.elim
 own:=λf args o K h=>hW.C _ (λf args o=>by simp[qu,sB]) f args o K h
theorem Hu {f:FuncId} {args:List AV} (h:pK f L=none):(qu fn L W).K f args [] false=none:=by
 simp[qu,sB,h]
def og (L:List bM) (W:np) (a:TypeId->Option bp) (c:List Nat×Bool->Option (bp×bp)) (b:FuncId->Option fy):i6:=⟨⟨vI L,W.C⟩,a,c,λ_=>none,b,λ_=>false⟩
theorem holds_of (c:bM) {F:fy} {ty:TypeId->Option bp} {mt:List Nat×Bool->Option (bp×bp)} {Λ:c.α->Nat->cE} (h0:kF P ⟨fn,λ_ _ _ _=>none⟩) (hW:qw P W) (hL:∀c∈L,Holds P c)
  (hF:fn c.f=some F) (hfr:pK c.f L=none) (hlen:∀a,(c.A.put a).length=F.params)
  (h:∀a,c.dom a->t7 (og L W ty mt fn) (Λ a) F (c.A.put a) λv=>v.sy (c.res a)):Holds P c:=by
 intro a hd;exact Hr (p:=og L W ty mt fn) (Λ:=Λ a) (vJ hW hL h0) (vK hW) (λ_ _ h=>h) hF (Hu hfr) (hlen a) (λ_ h=>zR h) (h a hd)
def Hv (L:List bM) (W:np) (a:TypeId->Option bp) (c:List Nat×Bool->Option (bp×bp)) (b:FuncId->Option fy) (d:FuncId->Bool):i6:=⟨⟨vI L,W.C⟩,a,c,λ_=>none,b,d⟩
theorem ZD (c:bM) {F:fy} {ty:TypeId->Option bp} {mt:List Nat×Bool->Option (bp×bp)} {ro:FuncId->Bool} {Λ:c.α->Nat->cE} (h0:kF P ⟨fn,λ_ _ _ _=>none⟩) (hW:qw P W) (hL:∀c∈L,Holds P c)
  (hF:fn c.f=some F) (hfr:pK c.f L=none) (hlen:∀a,(c.A.put a).length=F.params)
  (h:∀a,c.dom a->t7 (Hv L W ty mt fn ro) (Λ a) F (c.A.put a) λv=>v.sy (c.res a)):Holds P c:=by
 intro a hd;exact Hr (p:=Hv L W ty mt fn ro) (Λ:=Λ a) (vJ hW hL h0) (vK hW) (λ_ _ h=>h) hF (Hu hfr) (hlen a) (λ_ h=>zR h) (h a hd)
def eZ (k:IntKind):qs Int where
 put n:=.si k n;dec v:=v.int k;ok v a h:=by rw[iN h];rfl
 inj a b h:=by grind[γB]
def PI:qs Bool where
 put b:=.sb b;dec v:=v.boo;ok v a h:=by rw[vq h];rfl
 inj a b h:=by grind[γB]
theorem sC:(s:bp)->(x y:s.T)->dx s x=dx s y->(e:s.flat=true:=by rfl)->x=y
 | .i k,x,y,h,_=>by grind[dx];| .b,x,y,h,_=>by grind[dx];| .ff,⟨o,B,r,f,j,q⟩,⟨p,l,g,u,A,z⟩,h,_=>by
  simp_all[dx,iv];| .off,⟨b,⟨o,B,r,f,j,q⟩,v⟩,⟨c,⟨p,l,g,u,A,z⟩,w⟩,h,_=>by
  simp_all[dx,iv];| .need,⟨a,b⟩,⟨c,d⟩,h,_=>by
  simp_all[dx,iv];| .key,⟨b,⟨o,B,r,f,j,q⟩⟩,⟨c,⟨p,l,g,u,A,z⟩⟩,h,_=>by
  simp_all[dx,iv];| .sit,⟨m,⟨o,B,r,f,j,q⟩,⟨K,F,G,N,L,P⟩⟩,⟨n,⟨p,l,g,u,A,z⟩,⟨O,J,M,I,H,E⟩⟩,h,_=>by
  simp_all[dx,iv];| .bF _,_,_,_,e=>by grind[bp.flat];| .pair s t,(a,b),(c,d),h,e=>by
  simp only[bp.flat,θ] at e;simp only[dx] at h;obtain⟨D,C⟩:=εD h (by grind[Gu]);rw[sC s a c D e.1,sC t b d C e.2]
theorem Hw {d i:Type} {n:Nat} {f:d->List i} (a:∀x,(f x).length=n) (c:∀x y,f x=f y->x=y):∀{l m:List d},l.length=m.length->l.flatMap f=m.flatMap f->l=m
 |[],[],_,_=>rfl
 |[],_::_,h,_=>by simp at h;|_::_,[],h,_=>by simp at h;|x::l,y::m,b,h=>by
  simp only[δX] at h;obtain⟨e,g⟩:=εD h (by rw[a,a]);simp only[γE,ζo] at b;rw[c x y e,Hw a c b g]
theorem xE:(s:bp)->(x y:s.T)->(h:dO s x=dO s y)->x=y
 | .bF s,x,y,h=>by
  simp only[dO,Γ,AV.sl.injEq,and_true] at h;exact Hw (lT s) (xE s) h.1 h.2;| .pair s t,(a,b),(c,d),h=>by
  simp only[dO] at h;obtain⟨e,f⟩:=εD h (by grind[lT]);rw[xE s a c e,xE t b d f];| .i k,x,y,h=>sC (.i k) x y (ub h)
 | .b,x,y,h=>sC .b x y (ub h)
 | .ff,x,y,h=>sC .ff x y (ub h)
 | .off,x,y,h=>sC .off x y (ub h)
 | .need,x,y,h=>sC .need x y (ub h)
 | .key,x,y,h=>sC .key x y (ub h)
 | .sit,x,y,h=>sC .sit x y (ub h)
theorem lz (s:bp) {l m:List s.T} (a:l.length=m.length) (h:cB s l=cB s m):l=m:=
 Hw (lT s) (xE s) a h
def eh (s:bp):qs s.T where
 put x:=.agg (encS s x);dec
  | .agg c=>jT s c
  |_=>none;ok v a h:=by
  grind[γB,gj,nU,tV]
 inj a b h:=by
  grind[γB,gj,tV,xE]
theorem oZ {s:bp} {v:SV} {l:List s.T} (h:jG s v=some l):v.g=(SV.row s l).g:=by
 cases v<;>simp only[jG,reduceCtorEq] at h;grind[zP,γB,cB]
def dF (s:bp):qs (List s.T) where
 put l:=.row s l;dec:=jG s;ok v a h:=oZ h;inj a b h:=by
  grind[γB,lz]
end Go.Vi
