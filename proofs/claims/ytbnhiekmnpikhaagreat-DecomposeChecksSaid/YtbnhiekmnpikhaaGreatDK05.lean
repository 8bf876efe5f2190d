/-
  The symbolic run: its operations, and what must hold for a piece of code to come to a post. Plain definitions: no proof stands here.
  Conditions: none.
-/
import Derived.Test.YtbnhiekmnpikhaaGreatDK04
set_option maxRecDepth 100000
set_option maxHeartbeats 4000000
set_option linter.all false
open And renaming intro->γh
open BitVec renaming ofInt->γn
open Bool renaming and_eq_true->θ,and_true->δS,false_eq_true->χ,or_eq_true->δw,true_eq_false->ζS
open Function renaming comp_def->δm
open Go.Vi.AV renaming sc->δd,ren->δv
open Go.Vi.AV.sc renaming injEq->δb
open Go.Vi.SV renaming g->γB
open List renaming replicate->δ,map_map->γ3,mem_map->Ψ,length_cons->γE,length->γc,drop_drop->δi,getElem?_eq_getElem->μ,take->ω,take_of_length_le->γo,map_cons->π,take_append_drop->γL,cons_append->γG,modify_succ_cons->ζF,getElem?_eq_some_iff->ζ,map_append->γa,flatMap_nil->ζA,nil_append->δK,drop_zero->εp,map_nil->γr,take_succ_cons->δr,range->Γ,range'->ζv,range'_succ->εu,range_eq_range'->δD,flatMap_cons->δY,all_map->ζ0,map->γb,ext_getElem?->γ9,append_inj->εF
open List.cons renaming injEq->Θ
open Nat renaming beq->δq,add_assoc->εZ,mul_le_mul_right->γJ,add_mul->δU,add_right_cancel_iff->ζo
open Option renaming map_eq_some_iff->ε,map_some->ν,isSome_some->ζT,isSome_none->ζd
open Option.some renaming injEq->γ
namespace Go.Vi
abbrev fE:=List (Nat×SV)
abbrev bZ:=List bq
structure cy where
 env:fE
 o:bZ
def jT:fE->Nat->SV
 |[],_=> .ud
 |p::r,s=>bif δq p.1 s then p.2 else jT r s
def vx (env:fE) (a:Option Nat) (v:SV):fE:=
 match a with
 |none=>env
 |some d=>(d,v)::env
def SV.o5:Value->SV
 | .int k n=> .il k n
 | .bool b=> .bl b
 |v=> .sc v
def SV.uS:Value->SV
 | .agg a=>if a.toList.all (·.oneCell') then .agg (a.toList.map .o5) else .ud
 | .tuple _=> .ud
 | .int k n=> .il k n
 | .bool b=> .bl b
 |v=> .sc v
def jI (env:fE):Operand->SV
 | .tmp t=>jT env t
 | .const v=> .uS v
 | .global _=> .ud
 | .func f=> .fn (.func f) [] []
def SV.cellsOf:SV->List SV
 | .agg a=>a
 |v=>[v]
def SV.one:SV->Bool
 | .agg _| .bI _| .ud| .ite _ _ _=>false
 | .sc v=>v.oneCell'
 |_=>true
def xt (l:List SV):Bool:=l.all (·.one)
mutual
def SV.pure:SV->Bool
 | .sc _| .il .. | .si .. | .bl _| .sb _| .row .. =>true
 |_=>false
def zD:List SV->Bool
 |[]=>true
 |c::a=>c.pure&&zD a
end
mutual
def SV.bY (k:Nat):SV->Bool
 | .ud| .sc _| .il .. | .si .. | .bl _| .sb _| .row .. | .ep .. =>true
 | .agg e| .bI e=>sA k e
 | .ptr d .. | .ap d .. | .rp d .. | .ow d .. | .os d .. | .oc d .. | .mp d=>decide (d<k)
 | .fn _ a b=>sA k a&&sA k b
 | .ia _ _| .ite _ _ _=>true
def sA (k:Nat):List SV->Bool
 |[]=>true
 |c::e=>c.bY k&&sA k e
end
def bq.bY (k:Nat):bq->Bool
 | .cells b _ _ a=>a||sA k b
 | .oY _ _ _ t=>sA k t
 |_=>true
mutual
def SV.kW:SV->Bool
 | .ud| .sc _| .il .. | .si .. | .bl _| .sb _=>true
 | .agg a| .bI a=>CU a
 |_=>false
def CU:List SV->Bool
 |[]=>true
 |c::a=>c.kW&&CU a
end
def cu (k:IntKind) (n:Int):Prop:=
 match k with
 | .i64=> -9223372036854775808<=n/\n<=9223372036854775807
 |k=>k.wrap n=n
def vy (k:IntKind) (n:Int) (K:Int->Prop):Prop:=
 match k with
 | .u32=>K (n % 4294967296)
 | .u64=>K (n % 18446744073709551616)
 |k=>cu k n/\K n
structure OG where
 pure:FuncId->List SV->(SV->Prop)->Prop
 own:FuncId->List SV->bZ->(SV->bZ->Prop)->Prop
structure i6 where
 C:OG
 ty:TypeId->Option bp
 mt:List Nat×Bool->Option (bp×bp)
 sp:Nat->Option (Nat×Nat×Nat):=λ_=>none
 it:FuncId->Option fA:=λ_=>none
 ro:FuncId->Bool:=λ_=>false
def sB (cs:List SV) (a:Nat):Option Nat->Option SV
 |none=>cs[a]?
 |some n=>if a+n<=cs.length then some (.agg ((cs.drop a).take n)) else none
def t6 (cs:List SV) (a:Nat):List SV->List SV
 |[]=>cs
 |v::b=>t6 (cs.set a v) (a+1) b
def i7 {b:Type} (x:Option b) (K:b->Prop):Prop:=match x with|some a=>K a|none=>False
def vz {b:Type} (f:SV->(b->Prop)->Prop):List SV->(List b->Prop)->Prop
 |[],K=>K []
 |v::c,K=>f v λa=>vz f c λd=>K (a::d)
def rq (o:bZ):Nat->SV->(SV->Prop)->Prop
 |_,.ud,K=>K .ud
 |_,.sc v,K=>match v with
  | .slice none 0 0=>K (.row (.i .i64) [])
  |v=>K (.sc v)
 |_,.il k n,K=>K (.il k n)
 |_,.si k n,K=>K (.si k n)
 |_,.bl b,K=>K (.bl b)
 |_,.sb b,K=>K (.sb b)
 |_,.row s l,K=>K (.row s l)
 |_,.ia t cs,K=>K (.ia t cs)
 |d+1,.agg cs,K=>vz (rq o d) cs λcs'=>K (.agg cs')
 |d+1,.bI cs,K=>vz (rq o d) cs λcs'=>K (.bI cs')
 |d+1,.fn f a b,K=>vz (rq o d) a λa'=>vz (rq o d) b λb'=>K (.fn f a' b')
 |_+1,.ow id n sz,K=>match o[id]? with
  |some (.row s l _ _)=>if sz=s.sz then n=l.length/\K (.row s l) else False
  |_=>False
 |_+1,.os id off len n sz,K=>match o[id]? with
  |some (.row s l _ _)=>if sz=s.sz then n=l.length/\off+len<=n/\K (.row s ((l.drop off).take len)) else False
  |_=>False
 |_,_,_=>False
def mG (o:bZ) (a:SV) (n:Option Nat) (K:SV->Prop):Prop:=
 match a with
 | .ptr h b d=>match o[h]? with
  |some (.cells c _ _ _)=>if c.length=d then i7 (sB c b n) K else False
  |_=>False
 | .ap h e g f d i=>match o[h]? with
  |some (.cells c _ _ _)=>if c.length=d/\e+g*f<=d then i<f/\zE ((c.drop e).take (g*f)) g i n K else False
  |_=>False
 | .ep s l i b=>i<l.length/\i7 (sB (encS s (bj l i s.dflt)) b n) K
 | .rp h i b m g=>match o[h]? with
  |some (.row s l _ _)=>if g=s.sz then m=l.length/\i<l.length/\i7 (sB (encS s (bj l i s.dflt)) b n) K else False
  |_=>False
 |_=>False
where
 zE (c:List SV) (g i:Nat) (n:Option Nat) (K:SV->Prop):Prop:=
  match n,g with
  |none,1=>match ints c with
   |some l=>K (.si .i64 (bj l i 0))
   |none=>match rowsOff c with
    |some l=>K (.row .off (bj l i []))
    |none=>False
  |_,_=>False;rowsOff:List SV->Option (List (List Off))
  |[]=>some []
  | .row .off l::c=>(rowsOff c).map (l::·)
  |_=>none
def mkK (bB:Nat) (x:bq) (o:bZ) (K:bZ->Prop):Prop:=
 match o[bB]? with
 |some .dead=>K (o.set bB x)
 |_=>False
def sC (a:List (Nat×Nat×SV)) (cs:List SV):Option (List SV):=
 match a with
 |[]=>some cs
 |(b,n,v)::c=>
  if v.cellsOf.length=n/\xt v.cellsOf=true/\b+n<=cs.length then sC c (t6 cs b v.cellsOf) else none
def t7 (s:bp):Nat->List SV->Option (List s.T)
 |0,[]=>some []
 |n+1,a=>match jS s (a.take s.sz),t7 s n (a.drop s.sz) with
  |some x,some l=>some (x::l)
  |_,_=>none
 |_,_=>none
def vA (o:bZ) (s:bp) (x:SV) (K:List s.T->Prop):Prop:=
 match x with
 | .row a l=>i7 (iG a s l) K
 | .ow d n e=>match o[d]? with
  |some (.row a l _ _)=>if e=a.sz then n=l.length/\i7 (iG a s l) K else False
  |_=>False
 | .os d c b n e=>match o[d]? with
  |some (.row a l _ _)=>if e=a.sz then n=l.length/\c+b<=n/\i7 (iG a s ((l.drop c).take b)) K else False
  |_=>False
 | .sc (.slice none 0 0)=>K []
 |_=>False
def OH (o:bZ):SV->Option (List SV)
 | .ow j 1 a=>match o[j]? with
  |some (.oY s [] _ t)=>if s.sz=a then some t else none
  |_=>none
 |_=>none
def SV.OI:SV->Bool
 | .ow .. =>true
 |_=>false
def zF:SV->Option Int
 | .si _ n=>some n
 | .il _ n=>some n
 |_=>none
def isNil:SV->Bool
 | .sc (.slice none 0 0)=>true
 |_=>false
def gX (e:BinOp) (x y:SV) (K:SV->Prop):Prop:=
 match x,y with
 | .il k a,.il d b=>match gU e (.int k a) (.int d b) with
  |some (.int k n)=>K (.il k n)
  |some (.bool c)=>K (.bl c)
  |_=>False
 | .si k a,.si d b=>go k a d b
 | .il k a,.si d b=>go k a d b
 | .si k a,.il d b=>go k a d b
 | .sc (.string a),.sc (.string b)=>match e with
  | .eql=>K (.sb (a.toList==b.toList))
  | .neq=>K (.sb (!(a.toList==b.toList)))
  |_=>False
 |_,_=>False
where
 go (k:IntKind) (a:Int) (d:IntKind) (b:Int):Prop:=
  match e with
  | .shl=>0<=b/\b<=k.bits/\vy k (a*2^b.toNat) λn=>K (.si k n)
  | .shr=>0<=b/\b<=k.bits/\K (.si k (a / 2^b.toNat))
  | .add=>if k=d then vy k (a+b) λn=>K (.si k n) else False
  | .sub=>if k=d then vy k (a - b) λn=>K (.si k n) else False
  | .mul=>if k=d then vy k (a*b) λn=>K (.si k n) else False
  | .quo=>if k=d then b≠0/\cu k (a.tdiv b)/\K (.si k (a.tdiv b)) else False
  | .rem=>if k=d then b≠0/\K (.si k (a.tmod b)) else False
  | .and=>if k=d then K (.si k (vB k a b)) else False
  | .or=>if k=d then K (.si k (nW k a b)) else False
  | .xor=>if k=d then K (.si k (Gz k a b)) else False
  | .andNot=>if k=d then K (.si k (CV k a b)) else False
  | .eql=>if k=d then K (.sb (decide (a=b))) else False
  | .neq=>if k=d then K (.sb (decide (a≠b))) else False
  | .lss=>if k=d then K (.sb (decide (a<b))) else False
  | .leq=>if k=d then K (.sb (decide (a<=b))) else False
  | .gtr=>if k=d then K (.sb (decide (b<a))) else False
  | .geq=>if k=d then K (.sb (decide (b<=a))) else False;vB (k:IntKind) (a b:Int):Int:=fc k (γn k.bits a &&&γn k.bits b).toNat;nW (k:IntKind) (a b:Int):Int:=fc k (γn k.bits a |||γn k.bits b).toNat;Gz (k:IntKind) (a b:Int):Int:=fc k (γn k.bits a ^^^γn k.bits b).toNat;CV (k:IntKind) (a b:Int):Int:=fc k (γn k.bits a &&&~~~(γn k.bits b)).toNat
def GF:SV->SV->Option Bool
 | .si k a,y=>(y.int k).map λb=>decide (a=b)
 | .il k a,y=>(y.int k).map λb=>decide (a=b)
 | .sb a,y=>y.boo.map λb=>a==b
 | .bl a,y=>y.boo.map λb=>a==b
 |_,_=>none
def t8:List SV->List SV->Option Bool
 |[],[]=>some true
 |x::d,y::c=>match GF x y,t8 d c with
  |some a,some b=>some (a&&b)
  |_,_=>none
 |_,_=>none
def lx:List Nat->List SV->Bool
 |[],[]=>true
 |0::a,.si _ _::b=>lx a b
 |0::a,.il _ _::b=>lx a b
 |1::a,.sb _::b=>lx a b
 |1::a,.bl _::b=>lx a b
 |_,_=>false
def nX (a sv:bp) (x:a.T) (es:List (a.T×sv.T)):Option sv.T:=(es.find? λp=>decide (p.1=x)).map (·.2)
def sD (a sv:bp) (x:a.T) (v:sv.T):List (a.T×sv.T)->List (a.T×sv.T)
 |[]=>[(x,v)]
 |p::r=>if p.1=x then(x,v)::r else p::sD a sv x v r
def vC (a:Bool):SV->Bool
 | .agg _=>a
 |_=>!a
def bp.keyed:bp->Bool
 | .key| .sit| .i _=>true
 |_=>false
def nY (d:Nat):Option SV->(Nat->Prop)->Prop
 |none,K=>K d
 |some (.il _ n),K=>if 0<=n then K n.toNat else False
 |some (.si _ n),K=>0<=n/\K n.toNat
 |_,_=>False
def ua:List Int->Nat->Int->Nat->List Int
 |[],_,_,_=>[]
 |a::l,i,v,j=>(if i=j then v else a)::ua l i v (j+1)
def CW:SV->(SV->Prop)->Prop
 | .ite c a b,K=>(c=true->CW a K)/\(c=false->CW b K)
 |v,K=>K v
def SV.G:SV->AV
 | .ite c a b=>match c with
  |true=>a.G
  |false=>b.G
 |v=>v.g
def eT (p:i6) (op:cG) (ρ:Operand->SV) (o:bZ) (bB:Nat) (K:SV->bZ->Prop):Prop:=
 match op with
 | .uT x=>K (ρ x) o
 | .pick c a b=>match ρ c with
  | .bl true=>K (ρ a) o
  | .bl false=>K (ρ b) o
  | .sb c=>(c=true->K (ρ a) o)/\(c=false->K (ρ b) o)
  |_=>False
 | .alloc z e pu=>mkK bB (.cells (z.map .o5) e z.length pu) o λo'=>K (.ptr bB 0 z.length) o'
 | .box e x=>if xt (ρ x).cellsOf then mkK bB (.cells (ρ x).cellsOf e (ρ x).cellsOf.length false) o λo'=>K (.ptr bB 0 (ρ x).cellsOf.length) o' else False
 | .build z parts=>i7 (sC (parts.map λq=>(q.1,q.2.1,ρ q.2.2)) (z.map .o5)) λcs=>K (.agg cs) o
 | .pA z len parts e sz=>match p.ty e,sC (parts.map λq=>(q.1,sz,ρ q.2)) ((δ len (z.map SV.o5)).flatten) with
  |some s,some cs=>if s.sz=sz then(if cs.any SV.OI then(if cs.length=len*sz then mkK bB (.oY s [] e cs) o λo'=>K (.ow bB len sz) o' else False) else i7 (t7 s len (cs.map SV.qn)) λl=>mkK bB (.row s l e true) o λo'=>K (.ow bB len sz) o') else False
  |_,_=>False
 | .tt z len parts e sz=>match p.ty e,sC (parts.map λq=>(q.1,sz,ρ q.2)) ((δ len (z.map SV.o5)).flatten) with
  |some s,some cs=>if s.sz=sz then i7 (t7 s len (cs.map SV.qn)) λl=>K (.row s l) o else False
  |_,_=>False
 | .load n a=>mG o (ρ a) n λv=>K v o
 | .store n a x=>match ρ a with
  | .ptr id off tot=>match o[id]? with
   |some (.cells cs e sz pu)=>
    if cs.length=tot/\(ρ x).cellsOf.length=n/\xt (ρ x).cellsOf=true/\off+n<=cs.length/\(pu=false\/zD (ρ x).cellsOf=true) then K .ud (o.set id (.cells (t6 cs off (if pu then(ρ x).cellsOf.map SV.qn else(ρ x).cellsOf)) e sz pu)) else False
   |_=>False
  | .rp id i off m sz=>match o[id]? with
   |some (.row s l e pu)=>
    if sz=s.sz/\(ρ x).cellsOf.length=n/\off+n<=s.sz then m=l.length/\i<l.length/\i7 (jS s (t6 (encS s (bj l i s.dflt)) off (if pu then(ρ x).cellsOf.map SV.qn else(ρ x).cellsOf))) λv=>K .ud (o.set id (.row s (l.set i v) e pu)) else False
   |_=>False
  | .ap id base sz len tot i=>match o[id]? with
   |some (.cells cs e sz' pu)=>match n,sz,(ρ x).int .i64 with
    |1,1,some v=>match ints ((cs.drop base).take len) with
     |some l=>if cs.length=tot/\base+len<=tot then i<len/\K .ud (o.set id (.cells (t6 cs base ((ua l i v 0).map (SV.si .i64))) e sz' pu)) else False
     |none=>False
    |_,_,_=>False
   |_=>False
  |_=>False
 | .uU x=>match ρ x with
  | .ptr a b c=>K (.ptr a b c) o
  | .rp a b c d e=>K (.rp a b c d e) o
  | .ep s l i f=>K (.ep s l i f) o
  |_=>False
 | .bin op x y=>gX op (ρ x) (ρ y) λv=>K v o
 | .beq neg x y=>match(ρ x).boo,(ρ y).boo with
  |some a,some b=>K (.sb (if neg then !(a==b) else a==b)) o
  |_,_=>False
 | .sd neg ks x y=>match ρ x,ρ y with
  | .agg a,.agg b=>if lx ks a&&lx ks b then i7 (t8 a b) λr=>K (.sb (if neg then !r else r)) o else False
  |_,_=>False
 | .tu neg x y=>match ρ x,ρ y with
  | .ptr _ _ _,.sc (.pointer none)=>K (.bl neg) o
  | .sc (.pointer none),.sc (.pointer none)=>K (.bl !neg) o
  |_,_=>False
 | .un op x=>match op,ρ x with
  | .not,.sb b=>K (.sb !b) o
  | .not,.bl b=>K (.bl !b) o
  | .neg,.si k n=>cu k (-n)/\K (.si k (-n)) o
  | .neg,.il k n=>K (.il k (fc k (0 - n))) o
  |_,_=>False
 | .conv k x=>match ρ x with
  | .il _ n=>K (.il k (fc k n)) o
  | .si .i64 n=>cu k n/\K (.si k n) o
  | .si _ n=>vy k n λm=>K (.si k m) o
  |_=>False
 | .uV off x=>match ρ x with
  | .ptr id b tot=>K (.ptr id (b+off) tot) o
  | .ep s l i b=>K (.ep s l i (b+off)) o
  | .rp id i b m sz=>K (.rp id i (b+off) m sz) o
  |_=>False
 | .field off n x=>match ρ x with
  | .agg cs=>i7 (sB cs off n) λv=>K v o
  |_=>False
 | .uW len sz x i=>match ρ i with
  | .il _ n=>if 0<=n/\n<len then(match ρ x with
   | .ptr id b tot=>K (.ptr id (b+n.toNat*sz) tot) o
   | .ep s l j b=>K (.ep s l j (b+n.toNat*sz)) o
   | .rp id j b m sz'=>K (.rp id j (b+n.toNat*sz) m sz') o
   |_=>False) else False
  | .si _ n=>match ρ x with
   | .ptr id b tot=>0<=n/\n<len/\K (.ap id b sz len tot n.toNat) o
   |_=>False
  |_=>False
 | .sf sz x i=>match zF (ρ i) with
  |some n=>match ρ x with
   | .row s l=>if sz=s.sz then 0<=n/\n<l.length/\K (.ep s l n.toNat 0) o else False
   | .ow id m sz'=>match o[id]? with
    |some (.row s l _ _)=>if sz=s.sz/\sz'=s.sz then m=l.length/\0<=n/\n<l.length/\K (.rp id n.toNat 0 m sz) o else False
    |_=>False
   | .os id off len m sz'=>match o[id]? with
    |some (.row s l _ _)=>if sz=s.sz/\sz'=s.sz then m=l.length/\0<=n/\n<len/\off+len<=m/\K (.rp id (off+n.toNat) 0 m sz) o else False
    |_=>False
   | .oc id off len m sz'=>match o[id]? with
    |some (.row s l _ _)=>if sz=s.sz/\sz'=s.sz then m=l.length/\0<=n/\n<len/\off+len<=m/\K (.rp id (off+n.toNat) 0 m sz) o else False
    |_=>False
   |_=>False
  |none=>False
 | .idx len sz n x i=>match ρ i,ρ x with
  | .il _ k,.agg cs=>if 0<=k/\k<len then i7 (sB cs (k.toNat*sz) n) λv=>K v o else False
  | .si _ k,.agg cs=>match n,sz,ints cs with
   |none,1,some l=>if l.length=len then 0<=k/\k<len/\K (.si .i64 (bj l k.toNat 0)) o else False
   |_,_,_=>False
  |_,_=>False
 | .qc z e sz bytes l c pu=>match zF (ρ l),zF (ρ c),p.ty e with
  |some n,some m,some s=>if s.sz=sz then i7 (jS s (if pu then(z.map SV.o5).map SV.qn else z.map .o5)) λx=>0<=n/\n<=m/\m*bytes<=140737488355328/\m<=1000000000000/\
    mkK bB (.row s (δ n.toNat x) e pu) o λo'=>K (.ow bB n.toNat sz) o' else False
  |_,_,_=>False
 | .slice sz x lo hi=>match ρ x with
  | .row s l=>if sz=s.sz then nY 0 (lo.map ρ) λa=>nY l.length (hi.map ρ) λb=>a<=b/\b<=l.length/\K (.row s ((l.drop a).take (b - a))) o else False
  | .ow id m sz'=>match o[id]? with
   |some (.row s l _ _)=>if sz=s.sz/\sz'=s.sz then m=l.length/\nY 0 (lo.map ρ) λa=>nY m (hi.map ρ) λb=>a<=b/\b<=m/\K (.os id a (b - a) m sz) o else False
   |_=>False
  | .os id off len m sz'=>match o[id]? with
   |some (.row s l _ _)=>if sz=s.sz/\sz'=s.sz then m=l.length/\nY 0 (lo.map ρ) λa=>nY len (hi.map ρ) λb=>a<=b/\b<=len/\K (.os id (off+a) (b - a) m sz) o else False
   |_=>False
  |_=>False
 | .slice3 sz x lo hi mx=>match ρ x with
  | .row s l=>if sz=s.sz then nY 0 (lo.map ρ) λa=>nY l.length (some (ρ hi)) λb=>nY l.length (some (ρ mx)) λm=>a<=b/\b<=m/\m<=l.length/\K (.row s ((l.drop a).take (b - a))) o else False
  | .ow id n sz'=>match o[id]? with
   |some (.row s l _ _)=>if sz=s.sz/\sz'=s.sz then n=l.length/\nY 0 (lo.map ρ) λa=>nY n (some (ρ hi)) λb=>nY n (some (ρ mx)) λm=>a<=b/\b<=m/\m<=n/\K (.oc id a (b - a) n sz) o else False
   |_=>False
  |_=>False
 | .append e sz bytes s x pu=>match p.ty e,OH o (ρ x) with
  |some t,some tl=>match ρ s,ρ x with
   | .ow id n sz',.ow _ _ Y6=>match o[id]? with
    |some (.row t' l e' GG)=>if e'=e/\t'.sz=sz/\sz'=sz/\Y6=sz/\t.sz=sz/\GG=false/\tl.length=sz/\xt tl=true then n=l.length/\(l.length+1)*bytes<=140737488355328/\l.length+1<=1000000000000/\
      K (.ow id (l.length+1) sz) (o.set id (.oY t' l e tl)) else False
    |_=>False
   |_,_=>False
  |some t,none=>if t.sz=sz then vA o t (ρ x) λnew=>match ρ s with
    | .sc (.slice none 0 0)=>(new.length=0->K (.sc za) o)/\(new.length≠0->new.length*bytes<=140737488355328/\new.length<=1000000000000/\mkK bB (.row t new e pu) o λo'=>K (.ow bB new.length sz) o')
    | .ow id n sz'=>match o[id]? with
     |some (.row t' l e' GG)=>if e'=e/\t'.sz=sz/\sz'=sz then n=l.length/\(l.length+new.length)*bytes<=140737488355328/\l.length+new.length<=1000000000000/\
       i7 (iG t' t l) λl'=>K (.ow id (l'++new).length sz) (o.set id (.row t (l'++new) e GG)) else False
     |_=>False
    | .row t' l=>new.length=0/\K (.row t' l) o
    |_=>False
   else False
  |none,_=>False
 | .len k x=>match k,ρ x with
  |0,.row _ l=>K (.si .i64 l.length) o
  |0,.ow _ n _=>K (.si .i64 n) o
  |0,.os _ _ len _ _=>K (.si .i64 len) o
  |0,.oc _ _ len _ _=>K (.si .i64 len) o
  |0,.sc (.slice none 0 0)=>K (.il .i64 0) o
  |1,.sc (.string s)=>K (.si .i64 s.size) o
  |2,.mp id=>match o[id]? with
   |some (.map _ _ _ es _ _)=>K (.si .i64 es.length) o
   |_=>False
  |_,_=>False
 | .uY n=>K (.il .i64 n) o
 | .mm mx x y=>match ρ x,ρ y with
  | .il k a,.il k' b=>if k=k' then K (.il k (if mx then(if b>a then b else a) else(if b<a then b else a))) o else False
  | .si k a,y=>i7 (y.int k) λb=>K (.si k (if mx then max a b else min a b)) o
  | .il k a,y=>i7 (y.int k) λb=>K (.si k (if mx then max a b else min a b)) o
  |_,_=>False
 | .call f args own=>zG p f (args.map ρ) o own K
 | .jR f args own=>match ρ f with
  | .fn (.func g) first captured=>zG p g (first++args.map ρ++captured) o own K
  |_=>False
 | .extract x i=>match ρ x with
  | .bI vs=>i7 vs[i]? λv=>K v o
  |_=>False
 | .tB f first captured=>K (.fn f (first.map ρ) (captured.map ρ)) o
 | .uZ t x=>match ρ x with
  | .agg cs=>if zD cs=true then K (.ia t cs) o else False
  |_=>False
 | .oO tab x args=>match ρ x with
  | .ia t cs=>match vd tab t with
   |some f=>zG p f (.agg cs::args.map ρ) o false K
   |none=>False
  |_=>False
 | .qd kt pu=>match p.mt kt with
  |some (sk,sv)=>mkK bB (.map sk sv kt.2 [] kt pu) o λo'=>K (.mp bB) o'
  |none=>False
 | .lookup z agg ks ka x k ok=>match ρ x with
  | .mp id=>match o[id]? with
   |some (.map sk sv xu es kt _)=>
    if kt=(ks,ka)/\xu=ka/\sk.keyed=true/\sv.xp=true/\agg=false/\(ka=false->sk.sz=1)/\lx ks (ρ k).cellsOf=true/\vC ka (ρ k)=true then
     i7 (jS sk (ρ k).cellsOf) λkv=>i7 (jS sv (z.map .o5)) λzv=>
      let r:=(encS sv ((nX sk sv kv es).getD zv)).headD .ud;K (if ok then .bI [r,.sb (nX sk sv kv es).isSome] else r) o
    else False
   |_=>False
  |_=>False
 | .qY ks ka x k v=>match ρ x with
  | .mp id=>match o[id]? with
   |some (.map sk sv xu es kt pu)=>
    if kt=(ks,ka)/\xu=ka/\sk.keyed=true/\sv.xp=true/\(ka=false->sk.sz=1)/\lx ks (ρ k).cellsOf=true/\vC ka (ρ k)=true/\vC false (ρ v)=true then
     i7 (jS sk (ρ k).cellsOf) λkv=>i7 (jS sv (ρ v).cellsOf) λvv=>K .ud (o.set id (.map sk sv xu (sD sk sv kv vv es) kt pu))
    else False
   |_=>False
  |_=>False
 |_=>False
where
 zG (p:i6) (f:FuncId) (args:List SV) (o:bZ) (own:Bool) (K:SV->bZ->Prop):Prop:=
  if own then p.C.own f args o K
  else vz (rq o 6) args λargs'=>p.C.pure f args' λr=>if(args.flatMap (λv=>fy (o.map bq.g) 6 v.g)).isEmpty||r.kW then K r o else False
def xw:fE->Nat->SV->fE
 |[],_,_=>[]
 |p::r,s,v=>bif δq p.1 s then(p.1,v)::r else p::xw r s v
def GH (env:fE) (g:Option (Option Nat×Bool)) (K:fE->Bool->Prop):Prop:=
 match g with
 |none=>K env true
 |some (none,_)=>False
 |some (some s,b)=>match jT env s with
  | .bl c=>K env (c==b)
  | .sb c=>(c=true->K (xw env s (.bl true)) (true==b))/\(c=false->K (xw env s (.bl false)) (false==b))
  | .bI []=>K env false
  |_=>False
def SV.same (v w:SV):Prop:=v.g=w.g
def SV.sE (v:SV):SV->Prop
 | .ite c a b=>(c=true->v.sE a)/\(c=false->v.sE b)
 |w=>v.same w
def bq.same (x y:bq):Prop:=x.g=y.g
def kE:bZ->bZ->Prop
 |[],[]=>True
 |x::o,y::a=>x.same y/\kE o a
 |_,_=>False
def OJ (p:i6) (a:cG) (o o':bZ) (K:Bool->Prop):Prop:=
 match a with
 | .call f _ true=>if p.ro f=true then kE o o'/\K true else K false
 |_=>K false
def xx (p:i6) (base:Nat):List dD->cy->Trace->(cy->Trace->Prop)->Prop
 |[],b,c,K=>K b c
 |i::r,b,c,K=>GH b.env i.guard λa w=>
   if w then eT p i.op (jI a) b.o (base+i.bB) λv d=>OJ p i.op b.o d λe=>xx p base r ⟨vx a i.dst v,d⟩ ((i.idx,dS i.op (λx=>(jI a x).g) (b.o.map bq.g) (base+i.bB),if e then[] else wrt i.op (λx=>(jI a x).g) (b.o.map bq.g) (base+i.bB))::c) K
   else xx p base r ⟨vx a i.dst (.bI []),b.o⟩ ((i.idx,[],[])::c) K
def bq.mW:bq->Bool
 | .dead=>true
 |_=>false
def GI (base:Nat) (o:bZ):bZ:=if(o.drop base).all (·.mW) then o.take base else o
def GK (p:i6) (k:Nat) (c:List dD) (b:List (Nat×Nat)) (st:cy) (K:cy->Prop):Prop:=
 xx p st.o.length c ⟨st.env,st.o++δ k .dead⟩ [] λa d=>
  if b.isEmpty||tH (st.o.length+k) d.reverse b then K ⟨a.env,if k=0 then a.o else GI st.o.length a.o⟩ else False
mutual
def jJ (id:Nat) (s:bp) (l:List s.T):SV->(SV->Prop)->Prop
 | .ow j n m,K=>if j=id then(if m=s.sz then n=l.length/\K (.row s l) else False) else K (.ow j n m)
 | .os j h g n m,K=>if j=id then(if m=s.sz then n=l.length/\h+g<=n/\K (.row s ((l.drop h).take g)) else False) else K (.os j h g n m)
 | .oc j h g n m,K=>if j=id then False else K (.oc j h g n m)
 | .rp j i f n m,K=>if j=id then False else K (.rp j i f n m)
 | .ptr j f t,K=>if j=id then False else K (.ptr j f t)
 | .ap j a b c d e,K=>if j=id then False else K (.ap j a b c d e)
 | .agg o,K=>ry id s l o λk=>K (.agg k)
 | .bI o,K=>ry id s l o λk=>K (.bI k)
 | .fn f a b,K=>ry id s l a λp=>ry id s l b λr=>K (.fn f p r)
 |v,K=>K v
def ry (id:Nat) (s:bp) (l:List s.T):List SV->(List SV->Prop)->Prop
 |[],K=>K []
 |c::o,K=>jJ id s l c λq=>ry id s l o λk=>K (q::k)
end
def zH (id:Nat) (s:bp) (l:List s.T):fE->(fE->Prop)->Prop
 |[],K=>K []
 |(k,v)::r,K=>jJ id s l v λa=>zH id s l r λb=>K ((k,a)::b)
def nZ (id:Nat) (s:bp) (l:List s.T):Nat->bZ->(bZ->Prop)->Prop
 |_,[],K=>K []
 |i,x::r,K=>match x with
  | .cells g e h b=>if b then(if i=id then False else nZ id s l (i+1) r λa=>K (.cells g e h b::a)) else ry id s l g λd=>nZ id s l (i+1) r λa=>K (.cells d e h b::a)
  | .oY c f e t=>if i=id then False else ry id s l t λj=>match t7 c 1 j with
   |some m=>nZ id s l (i+1) r λa=>K (.row c (f++m) e false::a)
   |none=>False
  | .row c f e b=>if i=id then(if b then nZ id s l (i+1) r λa=>K (.dead::a) else False) else nZ id s l (i+1) r λa=>K (.row c f e b::a)
  |x=>nZ id s l (i+1) r λa=>K (x::a)
def ub (p:i6) (lo:Nat) (h:ky) (st:cy) (K:cy->Prop):Prop:=
 if h.own then match h.off with
  |none=>if isNil (jT st.env h.slot) then(match p.ty h.e with
    |some s=>if s.sz=h.sz then K ⟨(h.slot,.ow st.o.length 0 h.sz)::st.env,st.o++[.row s [] h.e h.pu]⟩ else False
    |none=>False) else if h.sz=0 then(match jT st.env h.slot with
     | .ow a _ _=>match st.o[a]? with
      |some (.row s l e true)=>K ⟨st.env,st.o.set a (.row s l e false)⟩
      |_=>False
     |_=>False) else K st
  |some k=>match jT st.env h.slot with
   | .ptr a b c=>match st.o[a]? with
    |some (.cells d e i f)=>if(d[b+k]?).any isNil then(if d.length=c/\f=false then(match p.ty h.e with
      |some s=>if s.sz=h.sz then K ⟨st.env,(st.o.set a (.cells (d.set (b+k) (.ow st.o.length 0 h.sz)) e i f))++[.row s [] h.e h.pu]⟩ else False
      |none=>False) else False) else K st
    |_=>False
   |_=>False
 else match OL h st with
  |some (some a)=>if Nat.ble lo a then(match st.o[a]? with
   |some (.row s l e f)=>zH a s l st.env λg=>nZ a s l 0 (if f then st.o else st.o.set a (.row s l e true)) λo=>K ⟨g,o⟩
   |_=>False) else K st
  |some none=>K st
  |none=>False
where
 xy:SV->Option Nat
  | .ow a .. =>some a
  | .os a .. =>some a
  | .oc a .. =>some a
  |_=>none;OL (h:ky) (st:cy):Option (Option Nat):=
  match h.off with
  |none=>some (xy (jT st.env h.slot))
  |some k=>match jT st.env h.slot with
   | .ptr a b c=>match st.o[a]? with
    |some (.cells d _ _ _)=>if d.length=c then(d[b+k]?).map xy else none
    |_=>none
   |_=>none
def zI (p:i6) (lo:Nat):List ky->cy->(cy->Prop)->Prop
 |[],st,K=>K st
 |h::hs,st,K=>ub p lo h st λst'=>zI p lo hs st' K
def GL (a:List Nat) (env:fE):fE:=a.map λs=>(s,jT env s)
def trimS (k:Nat) (st:cy):cy:=
 if st.o.length<=k then st
 else if(st.env.all λp=>p.2.bY k)&&((st.o.take k).all λx=>x.bY k) then⟨st.env,st.o.take k⟩ else st
def xA:fE->fE->Prop
 |[],[]=>True
 |(k,v)::e,(b,c)::a=>if k=b then v.same c/\xA e a else False
 |_,_=>False
def zJ (s t:cy):Prop:=xA s.env t.env/\kE s.o t.o
def iS (s:cy) (k:Nat):Int:=match jT s.env k with
 | .si _ n=>n
 | .il _ n=>n
 |_=>0
def bS (s:cy) (k:Nat):Bool:=match jT s.env k with
 | .sb b=>b
 | .bl b=>b
 |_=>false
def rS (t:bp) (s:cy) (k:Nat):List t.T:=match jT s.env k with
 | .row a l=>match iG a t l with
  |some l=>l
  |none=>[]
 |_=>[]
def oS (t:bp) (s:cy) (id:Nat):List t.T:=match s.o[id]? with
 |some (.row a l _ _)=>match iG a t l with
  |some l=>l
  |none=>[]
 |_=>[]
def splitN (v:Int) (n:Nat) (K:Nat->Prop):Nat->Prop
 |0=>0<=v/\v<n
 |j+1=>(v=(n - (j+1):Nat)->K (n - (j+1)))/\splitN v n K j
def splitK (x:Option (Nat×Nat×Nat)) (st:cy) (K:cy->Prop):Prop:=
 match x with
 |none=>K st
 |some (b,a,n)=>match st.o[b]? with
  |some (.cells c e f d)=>match c[a]? with
   |some (.si k v)=>splitN v n (λj=>K ⟨st.env,st.o.set b (.cells (c.set a (.il k j)) e f d)⟩) n
   |_=>False
  |_=>False
inductive cF where
 |qu (n:Nat)
 |look
 |inv (X:Type) (shape:X->cy) (next:cy->X) (J:X->Prop) (m:X->Nat) (inner:X->Nat->cF)
def Look (_:cy):Prop:=False
def vD:IR->Nat
 | .region c .. =>c
 | .seq .skip b=>vD b
 | .seq a _=>vD a
 | .block _ b=>vD b
 | .loop b=>vD b
 | .turns _ b=>vD b
 |_=>0
def GM (W:cy->(Out->cy->Prop)->Prop) (Q:Out->cy->Prop):Nat->cy->Prop
 |0,_=>False
 |n+1,b=>W b λa s=>match a with
  | .norm=>GM W Q n (trimS b.o.length s)
  |o=>Q o s
def zK (t:Nat):fE->fE
 |[]=>[]
 |p::r=>bif δq p.1 t then zK t r else p::zK t r
def xB (x:Operand) (env:fE):fE:=
 match x with
 | .tmp t=>zK t env
 |_=>env
def CX (env:fE) (x:Operand) (v:SV):fE:=
 match x with
 | .tmp t=>xw env t v
 |_=>env
def wpS (p:i6) (lo:Nat):IR->(Nat->cF)->cy->(Out->cy->Prop)->Prop
 | .skip,_,st,Q=>Q .norm st
 | .region id draw k ops kz live pre post,_,st,Q=>splitK (p.sp id) st λst0=>zI p lo pre st0 λst1=>GK p k ops kz st1 λst2=>zI p lo post ⟨GL live st2.env,st2.o⟩ λGN=>Q .norm GN
 | .seq a b,Λ,st,Q=>wpS p lo a Λ st λout s=>match out with
  | .norm=>wpS p lo b Λ s Q
  |o=>Q o s
 | .cond x a b,Λ,st,Q=>match jI st.env x with
  | .bl true=>wpS p lo a Λ ⟨xB x st.env,st.o⟩ Q
  | .bl false=>wpS p lo b Λ ⟨xB x st.env,st.o⟩ Q
  | .sb c=>(c=true->wpS p lo a Λ ⟨xB x st.env,st.o⟩ Q)/\(c=false->wpS p lo b Λ ⟨xB x st.env,st.o⟩ Q)
  |_=>False
 | .block id b,Λ,st,Q=>wpS p lo b Λ st λout s=>Q (out.inBlock id) s
 | .loop b,Λ,st,Q=>match Λ (vD b) with
  | .qu n=>GM (wpS p lo b Λ) Q n st
  | .look=>Look st
  | .inv _ shape next J m inner=>(zJ st (shape (next st))/\J (next st))/\∀x,J x->wpS p lo b (inner x) (shape x) λout s=>match out with
   | .norm=>zJ (trimS (shape x).o.length s) (shape (next (trimS (shape x).o.length s)))/\J (next (trimS (shape x).o.length s))/\m (next (trimS (shape x).o.length s))<m x
   |o=>Q o s
 | .exit id,_,st,Q=>Q (.exit id) st
 | .ret,_,st,Q=>Q .ret st
 | .goto l,_,st,Q=>Q (.goto l) st
 | .oP x a b,Λ,st,Q=>match jI st.env x with
  | .bl true=>wpS p lo a Λ st Q
  | .bl false=>wpS p lo b Λ st Q
  | .sb c=>(c=true->wpS p lo a Λ ⟨CX st.env x (.bl true),st.o⟩ Q)/\(c=false->wpS p lo b Λ ⟨CX st.env x (.bl false),st.o⟩ Q)
  |_=>False
 | .turns none b,Λ,st,Q=>wpS p lo b Λ st λout s=>match out with
  | .goto _=>False
  |o=>Q o s
 | .turns (some l) b,Λ,st,Q=>match Λ (vD b) with
  | .inv _ shape next J m inner=>(zJ st (shape (next st))/\J (next st))/\∀x,J x->wpS p lo b (inner x) (shape x) λout s=>match out with
   | .goto l'=>l'=l/\zJ (trimS (shape x).o.length s) (shape (next (trimS (shape x).o.length s)))/\J (next (trimS (shape x).o.length s))/\m (next (trimS (shape x).o.length s))<m x
   |o=>Q o s
  |_=>Look st
 | .tC ..,_,_,_=>False
def nj:Nat->List SV->fE
 |_,[]=>[]
 |i,v::a=>(i,v)::nj (i+1) a
def oa (st:cy) (a:List mZ) (K:SV->Prop):Prop:=
 goK a λl=>match l with
  |[v]=>K v
  |l=>K (.bI l)
where
 goK:List mZ->(List SV->Prop)->Prop
  |[],K=>K []
  |r::a,K=>OM r λv=>goK a λl=>K (v::l);OM (r:mZ) (K:SV->Prop):Prop:=match r.cell with
  |none=>K (jT st.env r.slot)
  |some n=>mG st.o (jT st.env r.slot) n K
def uf (p:i6) (Λ:Nat->cF) (F:fA) (args:List SV) (Q:SV->Prop):Prop:=
 wpS p 0 F.body Λ ⟨nj 0 args,[]⟩ λa b=>match a with
  | .exit _=>False
  | .goto _=>False
  |_=>oa b F.res λr=>rq b.o 6 r Q
def zL (p:i6) (Λ:Nat->cF) (F:fA) (args:List SV) (o:bZ) (Q:SV->bZ->Prop):Prop:=
 wpS p o.length F.body Λ ⟨nj 0 args,o⟩ λb a=>match b with
  | .exit _=>False
  | .goto _=>False
  |_=>oa a F.res λr=>if r.bY o.length&&a.o.all (λx=>x.bY o.length)&&decide (o.length<=a.o.length) then Q r (a.o.take o.length) else False
def gE (env:fE):jD:=env.map λp=>(p.1,p.2.g)
def gO (o:bZ):Store:=o.map bq.g
def cy.g (st:cy):St:=⟨gE st.env,gO st.o⟩
theorem ob:∀(env:fE) (s:Nat),dL (gE env) s=(jT env s).g
 |[],_=>by simp[gE,dL,jT,γB];|p::r,s=>by
  have:=ob r s;grind[gE,dL,jT]
theorem OO (env:fE) (d:Option Nat) (v:SV):gE (vx env d v)=oN (gE env) d v.g:=by
 cases d<;>simp[vx,oN,gE]
theorem OP (v:Value):(SV.o5 v).g= .sc v:=by cases v<;>simp[SV.o5,γB]
theorem GQ (l:List Value):(l.map SV.o5).map γB=l.map .sc:=by simp[OP]
theorem zM (env:fE) (x:Operand):eJ (gE env) x=(jI env x).g:=by
 cases x with
 |tmp t=>simp[eJ,jI,ob];|const v=>
  cases v<;>simp[eJ,jI,AV.uS,SV.uS,γB];split<;>simp[γB,gj,OP];|global g=>simp[eJ,jI,γB];|func f=>simp[eJ,jI,γB,gL]
theorem OQ (env:fE):eJ (gE env)=λx=>(jI env x).g:=funext λx=>zM env x
theorem CY (v:SV):v.g.cellsOf=gL v.cellsOf:=by
 cases v<;>simp[γB,AV.cellsOf,SV.cellsOf,gL]
theorem Y7 (v:SV):v.g.one=v.one:=by
 cases v<;>simp[γB,AV.one,SV.one,Value.oneCell']
theorem CZ (l:List SV):eM (gL l)=xt l:=by
 induction l<;>grind[gL,eM,xt,Y7]
theorem GR:∀(l:List SV),zD l=true->dC (gL l)=true
 |[],_=>by simp[gL,dC];|v::l,h=>by
  simp only[zD,θ] at h;simp only[gL,dC,GR l h.2,δS];have a:=h.1;cases v<;>simp[SV.pure] at a<;>simp[γB,AV.pure,oZ]
mutual
theorem zO (k:Nat):∀(v:SV),v.g.bY k=v.bY k
 | .agg c=>by simp only[γB,AV.bY,SV.bY];exact vE k c;| .bI c=>by simp only[γB,AV.bY,SV.bY];exact vE k c;| .fn _ a b=>by simp only[γB,AV.bY,SV.bY,vE k a,vE k b];| .ud| .sc _| .il .. | .si .. | .bl _| .sb _| .row .. | .ep .. | .ptr .. | .ap .. | .rp .. | .ow .. | .os .. | .oc .. | .mp _| .ia _ _| .ite _ _ _=>by simp[γB,AV.bY,SV.bY]
theorem vE (k:Nat):∀(l:List SV),ey k (gL l)=sA k l
 |[]=>by simp[gL,ey,sA];|v::l=>by simp only[gL,ey,sA,zO k v,vE k l]
end
theorem Y8 (k:Nat) {b sv:bp} (c:Bool) (es:List (b.T×sv.T)):ey k ((es.map λp=>(pJ b c p.1,nh sv p.2)).map (·.2))=true:=
 Gx λa h=>by
  simp only[γ3,Ψ,Function.comp] at h;grind[nh,AV.bY]
theorem C0 (k:Nat) (x:bq):x.g.bY k=x.bY k:=by
 cases x with
 |dead=>rfl;|cells n e m d=>simp[bq.g,bQ.bY,bq.bY,vE];|row s l e d=>simp[bq.g,bQ.bY,bq.bY,OB];|oY s l e t=>
  have c:∀a b:List AV,ey k (a++b)=(ey k a&&ey k b):=λa b=>by
   induction a<;>grind[ey]
  grind[bq.g,bQ.bY,bq.bY,OB,vE];|map i o f j h d=>simp only[bq.g,bQ.bY,bq.bY,Y8,Bool.or_true]
mutual
theorem OS:∀(v:SV),v.kW=true->v.g.kW=true
 | .agg a,h=>by simp only[SV.kW] at h;simp only[γB,AV.kW];exact GU a h;| .bI a,h=>by simp only[SV.kW] at h;simp only[γB,AV.kW];exact GU a h;| .ud,_| .sc _,_| .il ..,_| .si ..,_| .bl _,_| .sb _,_=>by simp[γB,AV.kW];| .row ..,h| .ep ..,h| .ptr ..,h| .ap ..,h| .rp ..,h| .ow ..,h| .os ..,h| .oc ..,h| .mp _,h| .fn ..,h| .ia _ _,h| .ite _ _ _,h=>by simp[SV.kW] at h
theorem GU:∀(l:List SV),CU l=true->u7 (gL l)=true
 |[],_=>by simp[gL,u7];|v::l,h=>by
  simp only[CU,θ] at h;simp only[gL,u7,OS v h.1,GU l h.2,δS]
end
theorem jU (l:List SV):(gL l).length=l.length:=by simp[gj]
theorem ug (l:List SV) (i:Nat):(gL l)[i]?=(l[i]?).map γB:=by simp[gj]
theorem uh (a b:List SV):gL (a++b)=gL a++gL b:=by simp[gj]
theorem C2 {cs:List SV} {a:Nat} {n:Option Nat} {v:SV} (h:sB cs a n=some v):gq (gL cs) a n=some v.g:=by
 cases n with
 |none=>grind[sB,gq,ug];|some m=>
  simp only[sB] at h;split at h
  ·rename_i b;simp only[γ] at h;subst h;simp_all[gq,γB,gj]
  ·cases h
theorem zP:∀(vs cs:List SV) (a:Nat),gL (t6 cs a vs)=gd (gL cs) a (gL vs)
 |[],cs,a=>by simp[t6,gL,gd];|v::vs,cs,a=>by
  simp only[t6,gL,gd];rw[zP vs];simp_all[gj]
theorem GV (cs:List SV):gL (cs.map SV.qn)=(gL cs).map AV.qn:=by
 simp_all[gj,Y5]
theorem GX (pu:Bool) (cs:List SV):gL (if pu then cs.map SV.qn else cs)=eF pu (gL cs):=by
 grind[eF,GV]
theorem Y9 {c:AV} (h:Plain c.qn):c.one=true/\c.pure=true:=by
 by_cases a:c.qn=c
 ·rw[a] at h;exact⟨h.one,h.pure⟩
 ·unfold AV.qn at a;split at a;·exact⟨rfl,rfl⟩
  simp_all
theorem GY {pu:Bool} {cs:List AV} (h:∀c∈eF pu cs,Plain c):eM cs=true/\dC cs=true:=by
 have b:∀c∈cs,c.one=true/\c.pure=true:=by
  intro c a;unfold eF at h;split at h;·grind[Y9]
  ·exact⟨(h c a).one,(h c a).pure⟩
 grind[eM,CQ]
theorem GZ:∀(vs a b c:List AV) (d:Nat),d+vs.length<=b.length->gd (a++b++c) (a.length+d) vs=a++gd b d vs++c
 |[],a,b,c,d,_=>rfl
 |v::vs,a,b,c,d,h=>by
  simp only[γE] at h;simp only[gd];have e:(a++b++c).set (a.length+d) v=a++b.set d v++c:=by
   grind
  rw[e,εZ,GZ vs a (b.set d v) c (d+1) (by simp;omega)]
theorem OT {s:bp} {l:List s.T} {i:Nat} (h:i<l.length):cE s l=cE s (l.take i)++dP s (bj l i s.dflt)++cE s (l.drop (i+1)):=by
 have a:l=l.take i++l[i]::l.drop (i+1):=by simp
 grind[cQ,cE]
theorem take_len {a:Type} {l:List a} {i:Nat} (h:i<l.length):(l.take i).length=i:=by simp;omega
theorem Za {s:bp} {l:List s.T} {i a:Nat} {v:s.T} {vs:List AV} (h:i<l.length) (e:a+vs.length<=s.sz) (c:gd (dP s (bj l i s.dflt)) a vs=dP s v):
  gd (cE s l) (i*s.sz+a) vs=cE s (l.set i v):=by
 have d:(cE s (l.take i)).length=i*s.sz:=by rw[fe,take_len h]
 rw[OT h,<-d,GZ _ _ _ _ _ (by grind[lS]),c];have b:i<(l.set i v).length:=by simpa using h
 rw[OT b,cQ b];simp[List.take_set_of_le,List.drop_set_of_lt]
theorem OU {s:bp} {l:List s.T} {i b:Nat} {n:Option Nat} {v:SV} (h:i<l.length) (e:sB (encS s (bj l i s.dflt)) b n=some v):gq (cE s l) (i*s.sz+b) n=some v.g:=by
 have a:=C2 e;rw[gj,tZ] at a;have c:=OE (s:=s) h;have d:(cE s l).length=i*s.sz+(s.sz+(cE s (l.drop (i+1))).length):=by
  have:=congrArg γc c;grind[lS]
 cases n with
 |none=>
  simp only[gq] at a ⊢;rw[<-List.getElem?_drop,c,List.getElem?_append_left]<;>grind;|some m=>
  simp only[gq,lS] at a;split at a
  ·rename_i f;simp only[gq];rw[if_pos (by omega),<-δi,c,List.drop_append_of_le_length (by grind[lS]),List.take_append_of_le_length (by grind[lS])];exact a
  ·cases a
theorem jo {b:Type} {x:Option b} {K:b->Prop} (h:i7 x K):∃a,x=some a/\K a:=by
 cases x with
 |none=>exact h.elim;|some a=>exact⟨a,rfl,h⟩
theorem G0 (o:bZ) (i:Nat):(gO o)[i]?=(o[i]?).map bq.g:=by simp[gO]
theorem od (o:bZ):(gO o).length=o.length:=by simp[gO]
theorem qw (o:bZ) (i:Nat) (x:bq):gO (o.set i x)=(gO o).set i x.g:=by simp[gO]
theorem fR {o:bZ} {i:Nat} {x:bq} (h:o[i]?=some x):(gO o)[i]?=some x.g:=by grind[G0]
theorem OV:∀{cs:List SV} {l:List Int},ints cs=some l->cs.length=l.length/\∀i,i<l.length->(cs[i]?).map γB=some (.sc (.int .i64 (bj l i 0))):=by
 intro cs l h;have a:=CO h;have c:cs.length=l.length:=by simpa using congrArg γc a
 refine⟨c,λi b=>?_⟩;have:=congrArg (λl=>l[i]?) a;simp only[List.getElem?_map] at this;rw[this,μ b,cQ b];rfl
theorem OW:∀{cs:List SV} {l:List (List Off)},mG.rowsOff cs=some l->cs.length=l.length/\∀i,i<l.length->cs[i]?=some (.row .off (bj l i []))
 |[],l,h=>by grind[mG.rowsOff];|c::cs,l,h=>by
  cases c with
  |row s x=>
   cases s<;>simp only[mG.rowsOff,reduceCtorEq] at h;obtain⟨e,a,rfl⟩:=ε.1 h;obtain⟨b,d⟩:=OW a;grind[bj];|_=>simp[mG.rowsOff] at h
theorem Zb {cs:List SV} {sz i:Nat} {n:Option Nat} {K:SV->Prop} (h:mG.zE cs sz i n K) (d:i*sz<cs.length):∃v,gq (gL cs) (i*sz) n=some v.g/\K v:=by
 unfold mG.zE at h;split at h
 ·rw[Nat.mul_one] at d ⊢;split at h
  ·rename_i l a;obtain⟨b,c⟩:=OV a;grind[gq,ug,γB]
  ·split at h
   ·rename_i l a;obtain⟨b,c⟩:=OW a;grind[gq,ug]
   simp_all
 simp_all
theorem Zc {cs:List AV} {base a m:Nat} {v:AV} (h:gq ((cs.drop base).take m) a none=some v):gq cs (base+a) none=some v:=by
 grind[gq]
theorem OX {o:bZ} {a:SV} {n:Option Nat} {K:SV->Prop} (h:mG o a n K):∃cs b v,behind (gO o) a.g=some (cs,b)/\gq cs b n=some v.g/\K v:=by
 cases a with
 |ptr x b t=>
  simp only[mG] at h;split at h
  ·rename_i cs e f z y;split at h
   ·rename_i D;obtain⟨v,k,j⟩:=jo h;exact⟨gL cs,b,v,by simp_all[behind,γB,fR,bq.g,jU],C2 k,j⟩
   simp_all
  simp_all;|ap x c f d t i=>
  simp only[mG] at h;split at h
  ·rename_i cs e A z y;split at h
   ·rename_i D;obtain⟨C,p⟩:=h;have w:(i+1)*f<=d*f:=γJ _ C;rw[Nat.succ_mul] at w;have F:f*d=d*f:=Nat.mul_comm ..;by_cases E:f=0;·grind[mG.zE]
    ·have q:i*f<((cs.drop c).take (f*d)).length:=by grind
     obtain⟨v,k,j⟩:=Zb p q;have B:n=none:=by
      grind[mG.zE]
     subst B;refine⟨gL cs,c+i*f,v,by simp_all[behind,γB,fR,bq.g,jU],?_,j⟩;have:gL ((cs.drop c).take (f*d))=((gL cs).drop c).take (f*d):=by simp[gj]
     grind[Zc]
   simp_all
  simp_all;|ep s l i b=>
  simp only[mG] at h;obtain⟨u,p⟩:=h;obtain⟨v,k,j⟩:=jo p;exact⟨cE s l,i*s.sz+b,v,by simp[behind,γB],OU u k,j⟩;|rp x i b m f=>
  simp only[mG] at h;split at h
  ·rename_i s l e z y;split at h
   ·rename_i r;subst r;obtain⟨w,u,p⟩:=h;obtain⟨v,k,j⟩:=jo p;exact⟨cE s l,i*s.sz+b,v,by simp_all[behind,γB,fR,bq.g,fe],OU u k,j⟩
   simp_all
  simp_all;|_=>simp only[mG] at h
theorem OY (o:Store) (d:Nat) {v:Value} (h:v≠ .slice none 0 0):freeze o d (.sc v)=some (.sc v):=by
 grind[freeze]
theorem OZ (o:Store) (d:Nat) {a:AV} (h:Plain a):freeze o d a=some a:=by
 rcases h with⟨v,rfl,_,h⟩|⟨n,b,rfl,_⟩<;>grind[OY,freeze]
theorem G2 {f:AV->Option AV}:∀{l:List AV},(∀a∈l,f a=some a)->l.mapM f=some l
 |[],_=>by simp;|a::l,h=>by simp[List.mapM_cons,h a (by simp),G2 (l:=l) λb c=>h b (by simp[c])]
theorem xC {o:Store} {d:Nat} {f:SV->(SV->Prop)->Prop} (c:∀v K,f v K->∃b:SV,freeze o d v.g=some b.g/\K b):
  ∀{l:List SV} {K:List SV->Prop},vz f l K->∃a,(gL l).mapM (freeze o d)=some (gL a)/\K a
 |[],K,h=>⟨[],by simp[gL],h⟩
 |v::l,K,h=>by
  obtain⟨b,j,i⟩:=c v _ h;obtain⟨a,k,e⟩:=xC c i;exact⟨b::a,by simp_all[gL],e⟩
theorem zQ {s:bp} {l:List s.T} {b a:Nat}:((cE s l).drop (b*s.sz)).take (a*s.sz)=cE s ((l.drop b).take a):=by
 rw[Gy,OD]
theorem G3 {o:bZ}:∀{d:Nat} {v:SV} {K:SV->Prop},rq o d v K->∃y,freeze (gO o) d v.g=some y.g/\K y:=by
 intro d;induction d with
 |zero=>
  intro v K h;cases v<;>simp only[rq] at h<;>grind[rq,γB,freeze,cE,OY];|succ d p=>
  intro v K h;cases v<;>simp only[rq] at h;case sc v=>
   grind[γB,freeze,cE]
  case agg B=>
   obtain⟨A,z,r⟩:=xC (λv K m=>p m) h;grind[γB,freeze]
  case bI B=>
   obtain⟨A,z,r⟩:=xC (λv K m=>p m) h;grind[γB,freeze]
  case fn f a b=>
   obtain⟨I,z,r⟩:=xC (λv K m=>p m) h;obtain⟨J,L,H⟩:=xC (λv K m=>p m) r;grind[γB,freeze]
  case ow E n F=>
   split at h
   ·rename_i s l e G w;split at h
    ·rename_i k;obtain⟨rfl,t⟩:=h;subst k;refine⟨_,?_,t⟩;have i:(cE s l).mapM (freeze (gO o) d)=some (cE s l):=G2 λa C=>by
      grind[OZ,ni]
     have D:ω (l.length*s.sz) (cE s l)=cE s l:=γo (by grind[fe]);simp_all[γB,freeze,fR,bq.g,fe,oZ]
    simp_all
   simp_all
  case os E j c n F=>
   split at h
   ·rename_i s l e G w;split at h
    ·rename_i k;obtain⟨rfl,u,t⟩:=h;subst k;refine⟨_,?_,t⟩;have i:(cE s ((l.drop j).take c)).mapM (freeze (gO o) d)=some (cE s ((l.drop j).take c)):=G2 λa C=>by
      grind[OZ,ni]
     have x:(j+c)*s.sz<=l.length*s.sz:=γJ _ u;rw[δU] at x;have q:((l.drop j).take c).length=c:=by simp;omega
     simp only[γB,freeze,fR w,bq.g,fe,x,and_self,if_true,zQ,i,oZ,q];simp_all
    simp_all
   simp_all
  all_goals grind[γB,freeze]
theorem C4 {k:IntKind} {n:Int} (h:cu k n):fc k n=n:=by
 cases k<;>simp only[cu,fc] at h ⊢<;>simp_all
theorem nn {c:Prop} [Decidable c] {A:Prop} (h:if c then A else False):c/\A:=by
 simp_all
theorem ah1 {b:Int} {k:Nat} (h:b<=k):min b.toNat k=b.toNat:=by omega
theorem Zd (a b:Int):(a==b)=decide (a=b):=rfl
theorem Ze (a b:Int):(a !=b)=decide (a≠b):=by
 grind
theorem zR {k:IntKind} {n:Int} {K:Int->Prop} (h:vy k n K):K (fc k n):=by
 have a:k= .u32->fc k n=n % 4294967296:=by
  grind[tN,IntKind.wrap,IntKind.bits,IntKind.signed]
 have b:k= .u64->fc k n=n % 18446744073709551616:=by
  grind[tN,IntKind.wrap,IntKind.bits,IntKind.signed]
 unfold vy at h;grind[C4]
theorem go_sound {e:BinOp} {k i:IntKind} {a b:Int} {K:SV->Prop} (h:gX.go e K k a i b):∃v f:_,gU e (.int k a) (.int i b)=some v/\f.g= .sc v/\K f:=by
 cases e<;>simp only[gX.go] at h;case shl=>
  obtain⟨j,m,l⟩:=h;refine⟨.int k (fc k (a*2^b.toNat)),.si k (fc k (a*2^b.toNat)),?_,rfl,zR l⟩;simp_all[gU,FM]
 case shr=>
  obtain⟨j,m,n⟩:=h;refine⟨.int k (a / 2^b.toNat),_,?_,rfl,n⟩;have:a.fdiv (2^b.toNat)=a / 2^b.toNat:=Int.fdiv_eq_ediv_of_nonneg _ (by grind);simp_all[gU,FM]
 case add=>
  obtain⟨d,c⟩:=nn h;subst d;exact⟨.int k (fc k (a+b)),.si k (fc k (a+b)),by simp only[gU,if_true,lq],rfl,zR c⟩
 case sub=>
  obtain⟨d,c⟩:=nn h;subst d;exact⟨.int k (fc k (a - b)),.si k (fc k (a - b)),by simp only[gU,if_true,lq],rfl,zR c⟩
 case mul=>
  obtain⟨d,c⟩:=nn h;subst d;exact⟨.int k (fc k (a*b)),.si k (fc k (a*b)),by simp only[gU,if_true,lq],rfl,zR c⟩
 case quo=>
  obtain⟨d,c⟩:=nn h;subst d;exact⟨.int k (a.tdiv b),_,by simp_all[gU,lq,C4],rfl,c.2.2⟩
 case rem=>
  obtain⟨d,c⟩:=nn h;subst d;exact⟨.int k (a.tmod b),_,by simp_all[gU,lq],rfl,c.2⟩
 case and=>
  obtain⟨d,c⟩:=nn h;subst d;exact⟨.int k (gX.vB k a b),_,by simp only[gU,if_true,lq,gX.vB],rfl,c⟩
 case or=>
  obtain⟨d,c⟩:=nn h;subst d;exact⟨.int k (gX.nW k a b),_,by simp only[gU,if_true,lq,gX.nW],rfl,c⟩
 case xor=>
  obtain⟨d,c⟩:=nn h;subst d;exact⟨.int k (gX.Gz k a b),_,by simp only[gU,if_true,lq,gX.Gz],rfl,c⟩
 case andNot=>
  obtain⟨d,c⟩:=nn h;subst d;exact⟨.int k (gX.CV k a b),_,by simp only[gU,if_true,lq,gX.CV],rfl,c⟩
 case eql=>
  obtain⟨d,c⟩:=nn h;subst d;exact⟨.bool (decide (a=b)),_,by simp_all[gU,lq,Zd],rfl,c⟩
 case neq=>
  obtain⟨d,c⟩:=nn h;subst d;exact⟨.bool (decide (a≠b)),_,by simp_all[gU,lq,Ze],rfl,c⟩
 case lss=>
  obtain⟨d,c⟩:=nn h;subst d;exact⟨.bool (decide (a<b)),_,by simp only[gU,if_true,lq],rfl,c⟩
 case leq=>
  obtain⟨d,c⟩:=nn h;subst d;exact⟨.bool (decide (a<=b)),_,by simp only[gU,if_true,lq],rfl,c⟩
 case gtr=>
  obtain⟨d,c⟩:=nn h;subst d;exact⟨.bool (decide (b<a)),_,by simp only[gU,if_true,lq],rfl,c⟩
 case geq=>
  obtain⟨d,c⟩:=nn h;subst d;exact⟨.bool (decide (b<=a)),_,by simp only[gU,if_true,lq],rfl,c⟩
theorem Zf {j:BinOp} {x y:SV} {K:SV->Prop} (h:gX j x y K):∃a b v c,x.g= .sc a/\y.g= .sc b/\gU j a b=some v/\c.g= .sc v/\K c:=by
 unfold gX at h;split at h
 ·split at h;·rename_i i;exact⟨_,_,_,_,rfl,rfl,i,rfl,h⟩
  ·rename_i i;exact⟨_,_,_,_,rfl,rfl,i,rfl,h⟩
  simp_all
 ·obtain⟨v,c,d,e,f⟩:=go_sound h;exact⟨_,_,v,c,rfl,rfl,d,e,f⟩
 ·obtain⟨v,c,d,e,f⟩:=go_sound h;exact⟨_,_,v,c,rfl,rfl,d,e,f⟩
 ·obtain⟨v,c,d,e,f⟩:=go_sound h;exact⟨_,_,v,c,rfl,rfl,d,e,f⟩
 ·split at h;·exact⟨_,_,_,_,rfl,rfl,by grind[gU],rfl,h⟩
  ·exact⟨_,_,_,_,rfl,rfl,by grind[gU],rfl,h⟩
  simp_all
 simp_all
theorem zS {k:IntKind} {a b:Int}:seq1 (.int k a) (.int k b)=some (decide (a=b)):=by
 simp only[seq1,if_true,γ];rfl
theorem Zg {x y:SV} {r:Bool} (h:GF x y=some r):∃a b,x.g= .sc a/\y.g= .sc b/\seq1 a b=some r:=by
 cases x<;>simp only[GF,reduceCtorEq] at h;all_goals
  obtain⟨b,c,rfl⟩:=ε.1 h;first
   |exact⟨_,_,rfl,iN c,zS⟩;|exact⟨_,_,rfl,vu c,by simp[seq1]⟩
theorem O0:∀{x y:List SV} {r:Bool},t8 x y=some r->∃a b,gL x=a.map .sc/\gL y=b.map .sc/\fN a b=some r
 |[],[],r,h=>by simp[t8] at h;subst h;exact⟨[],[],rfl,rfl,rfl⟩;|[],_::_,r,h=>by grind[t8];|_::_,[],r,h=>by grind[t8];|x::l,y::n,r,h=>by
  simp only[t8] at h;split at h
  ·rename_i a b e f;simp only[γ] at h;subst h;obtain⟨u,v,g,j,k⟩:=Zg e;obtain⟨d,c,i,o,m⟩:=O0 f;exact⟨u::d,v::c,by grind[gL],by grind[gL],by grind[fN]⟩
  ·cases h
theorem G4:∀(l:List Value),sg (l.map .sc)=some l
 |[]=>rfl
 |v::l=>by simp[sg,G4 l]
theorem ui:∀{a b:List Value},a.map δd=b.map δd->a=b
 |[],[],_=>rfl
 |[],_::_,h=>by simp at h;|_::_,[],h=>by simp at h;|x::a,y::b,h=>by
  simp only[π,Θ,δb] at h;rw[h.1,ui h.2]
theorem vF:∀{e:List Nat} {x:List SV} {a:List Value},lx e x=true->gL x=a.map .sc->eG e a=true
 |[],[],a,_,h=>by
  cases a with
  |nil=>rfl;|cons a i=>simp[gL] at h
 |[],_::_,a,h,_=>by grind[lx];|_::_,[],a,h,_=>by grind[lx];|k::e,x::j,a,h,f=>by
  cases a with
  |nil=>grind[gL];|cons a i=>
   simp only[gL,π,Θ] at f;obtain⟨c,d⟩:=f;match k,x,h with
   |0,.si k n,h=>simp only[lx] at h;simp only[γB,δb] at c;subst c;simpa[eG] using vF h d;|0,.il k n,h=>simp only[lx] at h;simp only[γB,δb] at c;subst c;simpa[eG] using vF h d;|1,.sb b,h=>simp only[lx] at h;simp only[γB,δb] at c;subst c;simpa[eG] using vF h d;|1,.bl b,h=>simp only[lx] at h;simp only[γB,δb] at c;subst c;simpa[eG] using vF h d
theorem Zh {c:List Nat} {a b:List SV} {r:Bool} (d:(lx c a&&lx c b)=true) (h:t8 a b=some r):wP c (gL a) (gL b)=some r:=by
 obtain⟨u,v,f,e,g⟩:=O0 h;simp only[θ] at d;rw[f,e];simp only[wP,G4,vF d.1 f,vF d.2 e,Bool.and_self,if_true,g]
theorem Zi {s s':bp} {l:List s.T} {a:List s'.T} (h:iG s s' l=some a):s=s'/\HEq l a:=by
 unfold iG at h;grind
theorem zT {s s':bp} {l:List s.T} {l':List s'.T} (h:iG s s' l=some l'):s'=s/\cE s' l'=cE s l/\l'.length=l.length:=by
 grind[Zi]
theorem G5:∀{a:List (Nat×Nat×SV)} {cs b:List SV},sC a cs=some b->lu (a.map λq=>(q.1,q.2.1,q.2.2.g)) (gL cs)=some (gL b)
 |[],cs,b,h=>by simp[sC] at h;subst h;rfl;|(d,n,v)::r,cs,b,h=>by
  simp only[sC] at h;split at h
  ·rename_i c;obtain⟨i,f,e⟩:=c;have:=G5 h;simp_all[lu,CY,jU,CZ,zP]
  ·cases h
theorem C5 {s:bp}:∀{n:Nat} {cs:List SV} {l:List s.T},t7 s n cs=some l->gL cs=cE s l/\l.length=n
 |0,[],l,h=>by grind[t7,gL,cE];|0,_::_,l,h=>by simp[t7] at h;|n+1,cs,l,h=>by
  simp only[t7] at h;split at h
  ·rename_i x f a b;simp only[γ] at h;subst h;obtain⟨d,c⟩:=C5 b;have e:=nV a;refine⟨?_,by simp[c]⟩;rw[gj] at d ⊢;conv=>lhs;rw[<-γL s.sz cs]
   grind[cE]
  ·cases h
theorem Zj {o:bZ} {s:bp} {x:SV} {K:List s.T->Prop} (h:vA o s x K):∃l,mY (gO o) s.sz x.g=some (l.length,cE s l)/\K l:=by
 cases x with
 |row q l=>
  simp only[vA] at h;obtain⟨f,c,w⟩:=jo h;obtain⟨rfl,p,m⟩:=zT c;exact⟨f,by simp_all[γB,mY,fe],w⟩;|ow y n u=>
  simp only[vA] at h;split at h
  ·rename_i q l e A B;split at h
   ·rename_i b;subst b;obtain⟨rfl,k⟩:=h;obtain⟨f,c,i⟩:=jo k;obtain⟨rfl,p,m⟩:=zT c;refine⟨f,?_,i⟩;have t:ω (l.length*s.sz) (cE s l)=cE s l:=γo (by grind[fe]);simp_all[γB,mY,fR,bq.g,fe]
   simp_all
  simp_all;|os y d a n u=>
  simp only[vA] at h;split at h
  ·rename_i q l e A B;split at h
   ·rename_i b;subst b;obtain⟨rfl,j,k⟩:=h;obtain⟨f,c,i⟩:=jo k;obtain⟨rfl,p,m⟩:=zT c;refine⟨f,?_,i⟩;have r:(d+a)*s.sz<=l.length*s.sz:=γJ _ j;rw[δU] at r;have z:((l.drop d).take a).length=a:=by simp;omega
    simp_all[γB,mY,fR,bq.g,fe,zQ]
   simp_all
  simp_all;|sc v=>
  grind[vA,γB,mY,cE];|_=>simp only[vA] at h
theorem G6 {v:SV} {n:Int} (h:zF v=some n):ik v.g=some n:=by
 cases v<;>simp[zF] at h<;>simp[γB,ik,h]
theorem pK {d:Nat} {x:Option SV} {K:Nat->Prop} (h:nY d x K):∃n,iq d (x.map γB)=some n/\K n:=by
 unfold nY at h;grind[γB,iq]
theorem vG {bB:Nat} {x:bq} {o:bZ} {K:bZ->Prop} (h:mkK bB x o K):∃o',kU bB x.g (gO o)=some (gO o')/\K o':=by
 grind[mkK,kU,fR,bq.g,qw]
theorem Zk {s:bp} (e:s.keyed=true) (x y:s.T):fN (dB s x) (dB s y)=some (decide (x=y)):=by
 cases s<;>simp only[bp.keyed,reduceCtorEq] at e;·grind[dB,fN,zS]
 ·obtain⟨b,⟨m,o,a,l,c,i⟩⟩:=x;obtain⟨g,⟨k,h,j,n,d,f⟩⟩:=y;simp_all[dB,iv,fN,zS]
 ·obtain⟨b,⟨m,o,a,l,c,i⟩,⟨C,t,B,A,D,w⟩⟩:=x;obtain⟨g,⟨k,h,j,n,d,f⟩,⟨p,z,r,u,v,q⟩⟩:=y;simp only[dB,iv,fN,zS,γ,δS];grind
theorem Zl {s:bp} {a:Bool} (d:s.keyed=true) (b:a=false->s.sz=1) (x y:s.T):keq (pJ s a x) (pJ s a y)=some (decide (x=y)):=by
 cases a with
 |true=>grind[pJ,keq,Zk];|false=>
  have c:=b rfl;cases s<;>simp only[bp.keyed,reduceCtorEq] at d<;>simp only[bp.sz,reduceCtorEq,Nat.reduceEqDiff] at c;simp_all[pJ,dB,keq,zS]
theorem G7 {a sv:bp} {c:Bool} (f:a.keyed=true) (e:c=false->a.sz=1) (x:a.T):∀(es:List (a.T×sv.T)) (i:Nat),
  ∃r,my (pJ a c x) (es.map λp=>(pJ a c p.1,nh sv p.2)) i=some r/\(match nX a sv x es with|some v=>∃j,r=some (i+j,nh sv v)/\(∃p,es[j]?=some p/\p.1=x)/\(∀g<j,∀p,es[g]?=some p->p.1≠x)|none=>r=none/\∀p∈es,p.1≠x)
 |[],i=>⟨none,by simp[my],by simp[nX]⟩
 |p::es,i=>by
  simp only[π,my,Zl f e];by_cases b:p.1=x
  ·refine⟨some (i,nh sv p.2),by simp[b],?_⟩;simp only[nX,List.find?_cons,b,decide_true,ν];exact⟨0,by simp,⟨p,by simp,b⟩,by simp⟩
  ·obtain⟨r,m,k⟩:=G7 f e x es (i+1);have d:¬x=p.1:=λh=>b h.symm;refine⟨r,by simp[d,m],?_⟩;have n:nX a sv x (p::es)=nX a sv x es:=by grind[nX]
   rw[n];split at k
   ·obtain⟨j,w,⟨q,t,l⟩,o⟩:=k;refine⟨j+1,by grind,⟨q,by simp_all,l⟩,λg u s y=>?_⟩;grind
   grind
theorem G8 {a sv:bp} {x:a.T} {v:sv.T}:∀{es:List (a.T×sv.T)},(∀p∈es,p.1≠x)->sD a sv x v es=es++[(x,v)]
 |[],_=>rfl
 |p::es,h=>by
  simp only[sD,if_neg (h p (by simp)),γG];rw[G8 λq b=>h q (by simp[b])]
theorem O1 {a sv:bp} {x:a.T} {v:sv.T}:∀{es:List (a.T×sv.T)} {j:Nat},(∃p,es[j]?=some p/\p.1=x)->(∀b<j,∀p,es[b]?=some p->p.1≠x)->sD a sv x v es=es.modify j λ_=>(x,v)
 |[],j,⟨p,h,_⟩,_=>by simp at h;|p::es,0,⟨q,h,d⟩,_=>by
  grind[sD];|p::es,j+1,⟨q,h,d⟩,c=>by
  have g:=c 0 (by omega) p (by simp);simp only[sD,if_neg g,ζF];rw[O1 (j:=j) ⟨q,by simpa using h,d⟩ λb i e f=>c (b+1) (by omega) e (by simp_all)]
theorem O2 {f:List Nat} {d:Bool} {s:bp} {v:SV} {x:s.T} (e:lx f v.cellsOf=true) (o:vC d v=true) (p:s.flat=true) (n:jS s v.cellsOf=some x):qh f d v.g=some (pJ s d x):=by
 have k:=nV n;have c:gL v.cellsOf=(dB s x).map .sc:=by grind[gj,CN]
 have i:=vF e c;by_cases l:∃h,v= .agg h
 ·obtain⟨h,rfl⟩:=l;simp_all[SV.cellsOf,vC,γB,qh,G4,pJ]
 ·have b:d=false:=by
   simp_all[vC]
  subst b;have j:v.cellsOf=[v]:=by
   cases v<;>first|rfl|simp_all
  rw[j] at c;simp only[gL] at c;cases m:dB s x with
  |nil=>simp_all;|cons a r=>
   rw[m] at c i;simp only[π,Θ] at c;simp_all[qh,pJ]
theorem O3 {s:bp} (h:s.xp=true) (x:s.T):((encS s x).headD .ud).g=nh s x:=by
 cases s<;>simp[bp.xp] at h<;>simp[encS,nh,dB,γB]
theorem O4 {s:bp} (h:s.xp=true) (x:s.T):dP s x=[nh s x]:=by
 cases s<;>simp[bp.xp] at h<;>simp[dP,nh,dB]
theorem O5 {s:bp} (h:s.keyed=true):s.flat=true:=by
 cases s<;>simp[bp.keyed] at h<;>rfl
structure pL (call:dh) (C:OG):Prop where
 pure:∀f args K,C.pure f args K->∃r:SV,call f (gL args) [] false=some (r.g,[])/\K r
 own:∀f args o K,C.own f args o K->∃(r:SV) (o':bZ),iM call f (gL args) (gO o)=some (r.g,gO o')/\K r o'
section
variable {call:dh} {p:i6} {o:bZ} {bB:Nat} {K:SV->bZ->Prop}
theorem G9 (j:pL call p.C) {f:FuncId} {args:List SV} {own:Bool} (h:eT.zG p f args o own K):
  ∃(v:SV) (o':bZ),gJ call f (gL args) (gO o) own=some (v.g,gO o')/\K v o':=by
 unfold eT.zG at h;split at h
 ·rename_i c;obtain⟨r,o',k,e⟩:=j.own _ _ _ _ h;exact⟨r,o',by simp_all[gJ],e⟩
 ·rename_i c;have c:own=false:=by simp_all
  subst c;obtain⟨b,k,e⟩:=xC (o:=gO o) (d:=6) (λv K m=>G3 m) h;obtain⟨r,l,i⟩:=j.pure _ _ _ e;split at i
  ·rename_i a;refine⟨r,o,?_,i⟩;simp only[gJ,χ,if_false,k,l];rw[if_pos];simp only[δw] at a ⊢;rcases a with a|a
   ·left;rw[gj,List.flatMap_map];exact a
   grind[OS]
  simp_all
theorem C6 (ρ:Operand->SV) (l:List Operand):gL (l.map ρ)=l.map λx=>(ρ x).g:=by simp[gj]
theorem Zm {a:List (Nat×Nat×Operand)} {ρ:Operand->SV} {cs b:List SV} (h:sC (a.map λq=>(q.1,q.2.1,ρ q.2.2)) cs=some b):
  lu (a.map λq=>(q.1,q.2.1,(ρ q.2.2).g)) (gL cs)=some (gL b):=by
 have:=G5 h;grind[δm]
theorem Ha {a:List (Nat×Operand)} {sz:Nat} {ρ:Operand->SV} {cs b:List SV} (h:sC (a.map λq=>(q.1,sz,ρ q.2)) cs=some b):
  lu (a.map λq=>(q.1,sz,(ρ q.2).g)) (gL cs)=some (gL b):=by
 have:=G5 h;grind[δm]
theorem He (z:List Value):gL (z.map SV.o5)=z.map .sc:=by rw[gj,GQ]
theorem Hf (a:Nat) (z:List Value):gL ((δ a (z.map SV.o5)).flatten)=(δ a (z.map δd)).flatten:=by
 rw[gj,List.map_flatten,List.map_replicate,GQ]
theorem Zn (s:bp) (x:s.T) (n:Nat):(δ n (dP s x)).flatten=cE s (δ n x):=by
 induction n<;>grind[cE]
theorem zU {ρ:Operand->SV} (l:Option Operand):(l.map ρ).map γB=l.map λx=>(ρ x).g:=by cases l<;>rfl
theorem Zo:∀{l:List Int} {i:Nat} {v:Int},i<l.length->gd (l.map λn=>δd (iv n)) 0 ((l.set i v).map λn=>δd (iv n))=(l.map λn=>δd (iv n)).set i (.sc (iv v)):=by
 intro l i v e;have d:∀(b a c:List AV),b.length=c.length->gd (a++c) a.length b=a++b:=by
  intro b;induction b with
  |nil=>grind[gd];|cons w b f=>
   intro a c h;cases c with
   |nil=>simp at h;|cons y c=>
    simp only[γE,ζo] at h;simp only[gd];have:(a++y::c).set a.length w=(a++[w])++c:=by
     simp_all
    grind
 have:=d ((l.set i v).map λn=>δd (iv n)) [] (l.map λn=>δd (iv n)) (by simp);simp_all
theorem O6 {b c:Type} (f:b->c) (x:b):∀(l:List b) (j:Nat),(l.modify j λ_=>x).map f=(l.map f).modify j λ_=>f x
 |[],j=>by simp;|a::l,0=>by simp_all;|a::l,j+1=>by simp only[ζF,π,O6 f x l j]
theorem Zp (v:Value):(δd v).cellsOf=[.sc v]:=rfl
theorem O7:∀{l:List Int} {i j:Nat} {v:Int},ua l (i+j) v j=l.set i v
 |[],_,_,_=>rfl
 |a::l,0,j,v=>by
  have h:∀(l:List Int) (c:Nat),j<c->ua l j v c=l:=by
   intro l;induction l with
   |nil=>intro _ _;rfl;|cons b l d=>intro c e;simp only[ua,if_neg (show ¬j=c by omega),d (c+1) (by omega)]
  simp_all[ua];|a::l,i+1,j,v=>by
  simp only[ua,if_neg (show ¬i+1+j=j by omega),List.set_cons_succ];rw[show i+1+j=i+(j+1) from by omega,O7]
theorem Zq {ρ:Operand->SV} {n:Nat} {a x:Operand} (h:eT p (.store n a x) ρ o bB K):
  ∃(v:SV) (o':bZ),bK call (.store n a x) (λx=>(ρ x).g) (gO o) bB=some (v.g,gO o')/\K v o':=by
 simp only[eT] at h;split at h
 ·rename_i W b L B;split at h
  ·rename_i f e Y E z;split at h
   ·rename_i D;obtain⟨V,C,X,P,R⟩:=D;refine⟨.ud,_,?_,h⟩;simp only[bK,B,γB,fR z,bq.g,CY,jU,CZ];rw[if_pos ⟨V,C,X,P,R.imp (λq=>q) λhp=>GR _ hp⟩,qw,bq.g,zP,GX]
   simp_all
  simp_all
 ·rename_i W i b m Y B;split at h
  ·rename_i s l e E z;split at h
   ·rename_i D;obtain⟨rfl,C,X⟩:=D;obtain⟨rfl,N,P⟩:=h;obtain⟨v,hv,R⟩:=jo P;refine⟨.ud,_,?_,R⟩;have T:=nV hv;rw[<-gj,zP,GX] at T;have O:gL (encS s (bj l i s.dflt))=dP s (bj l i s.dflt):=by rw[gj,tZ]
    rw[O] at T;have y:(i+1)*s.sz<=l.length*s.sz:=γJ _ N;rw[Nat.succ_mul] at y;have u:∀c∈eF E (gL (ρ x).cellsOf),Plain c:=by
     intro c hc;obtain⟨j,hj⟩:=List.mem_iff_getElem?.1 hc;have U:=(ζ.1 hj).1;rw[tL,jU,C] at U;have a1:(gd (dP s (bj l i s.dflt)) b (eF E (gL (ρ x).cellsOf)))[b+j]?=some c:=by
      have a0:∀(r f:List AV) (b j:Nat) (c:AV),r[j]?=some c->b+r.length<=f.length->(gd f b r)[b+j]?=some c:=by
       intro r;induction r with
       |nil=>simp_all;|cons w r ih=>
        intro f b j c h M;simp only[γE] at M;simp only[gd];cases j with
        |zero=>
         simp only[List.getElem?_cons_zero,γ] at h;subst h;have F:∀(r f:List AV) (Z k:Nat),k<Z->(gd f Z r)[k]?=f[k]?:=by
          intro r;induction r<;>grind[gd]
         grind;|succ j=>
         have:=ih (f.set b w) (b+1) j c (by simpa using h) (by simp;omega);grind
      grind[tL,jU,lS]
     grind[zC]
    obtain⟨G,Q⟩:=GY u;simp only[bK,B,γB,fR z,bq.g,CY,fe,jU];rw[if_pos ⟨trivial,C,G,by omega,.inr Q⟩,qw,bq.g,Za N (by grind[tL,jU]) T]
   simp_all
  simp_all
 ·rename_i W d Y t L i B;split at h
  ·rename_i f e a3 E z;split at h
   ·rename_i v H;split at h
    ·rename_i l M;split at h
     ·rename_i D;obtain⟨V,C⟩:=D;rw[show ua l i v 0=l.set i v from O7 (j:=0)] at h;obtain⟨N,hk⟩:=h;refine⟨.ud,_,?_,hk⟩;have S:(ρ x).cellsOf=[ρ x]:=by
       cases hr:ρ x<;>rw[hr] at H<;>simp[SV.int] at H<;>rfl
      have I:(ρ x).g= .sc (iv v):=iN H;have A:=CO M;have a2:l.length=t:=by
       have:=congrArg γc A;grind
      have J:gL f=gL (f.take d)++(l.map λn=>δd (iv n))++gL (f.drop (d+t)):=by
       rw[<-A,gj,gj,gj,<-γa,<-γa];congr 1;rw[<-δi,List.append_assoc,γL,γL]
      have a4:(gL (f.take d)).length=d:=by grind[jU]
      have hq:eF E [δd (iv v)]=[δd (iv v)]:=by unfold eF;split<;>rfl
      simp only[bK,B,γB,fR z,bq.g,I,Zp,List.length_singleton,jU,hq];rw[if_pos ⟨V,trivial,by simp[eM,AV.one,iv,Value.oneCell'],by omega,.inr (by simp[dC,AV.pure])⟩,qw,bq.g,zP];congr 4;have e1:gL ((l.set i v).map (SV.si .i64))=(l.set i v).map λn=>δd (iv n):=by
       rw[gj,γ3];rfl
      rw[e1,J];have hm:=GZ ((l.set i v).map λn=>δd (iv n)) (gL (f.take d)) (l.map λn=>δd (iv n)) (gL (f.drop (d+t))) 0 (by simp);grind[Zo,gd]
     simp_all
    simp_all
   simp_all
  simp_all
 simp_all
theorem Zr {ρ:Operand->SV} {e:TypeId} {sz b:Nat} {s x:Operand} {pu:Bool} (h:eT p (.append e sz b s x pu) ρ o bB K):
  ∃(v:SV) (o':bZ),bK call (.append e sz b s x pu) (λx=>(ρ x).g) (gO o) bB=some (v.g,gO o')/\K v o':=by
 simp only[eT] at h;split at h
 ·rename_i t tl U a;split at h
  ·rename_i S n G j m R k M;split at h
   ·rename_i O l Z I H;split at h
    ·rename_i F;obtain⟨rfl,q,rfl,rfl,rfl,rfl,i,w⟩:=F;obtain⟨rfl,C,y,B⟩:=h;rw[M] at a;unfold OH at a;split at a
     ·rename_i j' W Y;injection Y with e1 N e3;subst e1 N e3;split at a
      ·rename_i s2 N L D;split at a
       ·rename_i A;injection a with a;subst a;refine⟨_,_,?_,B⟩;have E:mY (gO o) t.sz (.os j 0 1 (1*t.sz))=some (1,gL L):=by
         simp only[mY,fR D,bq.g,cE,ζA,δK,jU];rw[if_pos ⟨by omega,A,by omega⟩,εp,γo (by grind[jU])]
        have J:eM (gL L)=true:=by grind[CZ]
        simp only[bK,k,M,γB,qf];simp only[E,J,ζS,if_false,fR H,bq.g,fe,q];rw[if_pos ⟨trivial,trivial,trivial,trivial,C,y,.inl trivial⟩,qw,bq.g];grind
       ·cases a
      ·cases a
     ·cases a
    simp_all
   simp_all
  simp_all
 ·rename_i t U _;split at h
  ·rename_i z;subst z;obtain⟨f,V,d⟩:=Zj h;have r:eM (cE t f)=true:=CS _ _;have c:dC (cE t f)=true:=oZ _ _;simp only[bK,qf,V,r,ζS,if_false];split at d
   ·rename_i k;rw[k];simp only[γB];by_cases u:f.length=0;·exact⟨_,_,by simp only[u,if_true];rfl,d.1 u⟩
    ·obtain⟨q,i,w⟩:=d.2 u;obtain⟨o',P,Q⟩:=vG w;refine⟨_,o',?_,Q⟩;simp only[bq.g] at P;rw[if_neg u,if_pos ⟨q,i,.inr c⟩,P];rfl
   ·rename_i S n G k;split at d
    ·rename_i O l Z I H;split at d
     ·rename_i F;obtain⟨rfl,q,rfl⟩:=F;obtain⟨rfl,i,w,C⟩:=d;obtain⟨l',y,B⟩:=jo C;obtain⟨rfl,T,X⟩:=zT y;refine⟨_,_,?_,B⟩;rw[k];simp only[γB,fR H,bq.g,fe];rw[if_pos ⟨trivial,trivial,trivial,trivial,i,w,.inr c⟩,qw,bq.g,OC,T];grind
     simp_all
    simp_all
   ·rename_i O l k;obtain⟨q,i⟩:=d;refine⟨_,_,?_,i⟩;simp_all[γB]
   simp_all
  simp_all
 simp_all
theorem O8 {mx:Bool} {a b:Int}:(if mx then(if b>a then b else a) else(if b<a then b else a))=if mx then max a b else min a b:=by
 grind
theorem Zs (hC:pL call p.C) {op:cG} {ρ:Operand->SV} (h:eT p op ρ o bB K):
  ∃(v:SV) (o':bZ),bK call op (λx=>(ρ x).g) (gO o) bB=some (v.g,gO o')/\K v o':=by
 cases op with
 |uT x=>exact⟨_,_,rfl,h⟩;|pick c a b=>
  simp only[eT] at h;split at h;·rename_i hc;exact⟨_,_,by simp only[bK,hc,γB],h⟩
  ·rename_i hc;exact⟨_,_,by simp only[bK,hc,γB],h⟩
  ·rename_i c hc;cases c with
   |true=>exact⟨_,_,by simp only[bK,hc,γB],h.1 rfl⟩;|false=>exact⟨_,_,by simp only[bK,hc,γB],h.2 rfl⟩
  ·exact h.elim;|alloc z e pu=>
  obtain⟨o',hm,hk⟩:=vG h;simp only[bq.g,He] at hm;exact⟨_,o',by simp only[bK,hm,ν,γB],hk⟩;|box e x=>
  simp only[eT] at h;split at h
  ·rename_i h1;obtain⟨o',hm,hk⟩:=vG h;simp only[bq.g] at hm;exact⟨_,o',by simp only[bK,CY,CZ,h1,if_true,jU,hm,ν,γB],hk⟩
  ·exact h.elim;|build z parts=>
  simp only[eT] at h;obtain⟨cs,h1,h2⟩:=jo h;have:=Zm h1;rw[He] at this;exact⟨_,_,by simp only[bK,this,ν,γB],h2⟩;|pA z len parts e sz=>
  simp only[eT] at h;split at h
  ·rename_i s cs hs hf;split at h
   ·rename_i hsz;split at h
    ·rename_i hany;split at h
     ·rename_i hlen;obtain⟨o',hm,hk⟩:=vG h;simp only[bq.g,cE,ζA,δK] at hm;have hfa:=Ha hf;rw[Hf] at hfa;refine⟨_,o',?_,hk⟩;subst hsz;have hp:dC (gL cs)=false:=by
       clear hf hfa hm hlen h;induction cs with
       |nil=>simp at hany;|cons c cs ih=>
        simp only[List.any_cons,δw] at hany;simp only[gL,dC];rcases hany with hc|hc
        ·have h9:c.g.pure=false:=by
          cases c with
          |ow a b d=>simp[γB,AV.pure];|_=>simp[SV.OI] at hc
         rw[h9,Bool.false_and]
        ·have ih2:=ih hc;rw[ih2,Bool.and_false]
      simp only[bK,hfa,hp,eF,χ,if_false,hm,ν,γB]
     ·exact h.elim
    obtain⟨l,h1,h2⟩:=jo h;obtain⟨h3,h4⟩:=C5 h1;obtain⟨o',hm,hk⟩:=vG h2;simp only[bq.g] at hm;have hfa:=Ha hf;rw[Hf] at hfa;refine⟨_,o',?_,hk⟩;subst hsz;rw[GV] at h3;have hp:dC (gL cs)=true:=(GY (pu:=true) (cs:=gL cs) λc hc=>ni (s:=s) (l:=l) (by rw[<-h3];exact hc)).2;have hq:eF true (gL cs)=cE s l:=h3;simp only[bK,hfa,hp,hq,hm,ν,γB]
   ·exact h.elim
  ·exact h.elim;|tt z len parts e sz=>
  simp only[eT] at h;split at h
  ·rename_i s cs hs hf;split at h
   ·rename_i hsz;obtain⟨l,h1,h2⟩:=jo h;obtain⟨h3,h4⟩:=C5 h1;have hfa:=Ha hf;rw[Hf] at hfa;rw[GV] at h3;have hp:dC (gL cs)=true:=(GY (pu:=true) (cs:=gL cs) λc hc=>ni (s:=s) (l:=l) (by rw[<-h3];exact hc)).2;have hq:eF true (gL cs)=cE s l:=h3;exact⟨_,_,by simp only[bK,hfa,hp,hq,if_true,γB,h4],h2⟩
   ·exact h.elim
  ·exact h.elim;|load n a=>
  simp only[eT] at h;obtain⟨cs,off,v,h1,h2,h3⟩:=OX h;exact⟨v,o,by simp only[bK,h1,h2,ν],h3⟩;|store n a x=>exact Zq h;|uU x=>
  simp only[eT] at h;split at h;·rename_i hx;exact⟨_,_,by simp only[bK,hx,γB],h⟩
  ·rename_i hx;exact⟨_,_,by simp only[bK,hx,γB],h⟩
  ·rename_i hx;exact⟨_,_,by simp only[bK,hx,γB],h⟩
  ·exact h.elim;|bin op x y=>
  simp only[eT] at h;obtain⟨a,b,v,v',h1,h2,h3,h4,h5⟩:=Zf h;exact⟨v',o,by simp only[bK,h1,h2,h3,ν,h4],h5⟩;|beq neg x y=>
  simp only[eT] at h;split at h
  ·rename_i a b h1 h2;exact⟨_,_,by simp only[bK,vu h1,vu h2,γB],h⟩
  ·exact h.elim;|sd neg ks x y=>
  simp only[eT] at h;split at h
  ·rename_i a b h1 h2;split at h
   ·rename_i hk;obtain⟨r,hr,h3⟩:=jo h;exact⟨_,_,by simp only[bK,h1,h2,γB,Zh hk hr,ν],h3⟩
   ·exact h.elim
  ·exact h.elim;|tu neg x y=>
  simp only[eT] at h;split at h
  ·rename_i h1 h2;exact⟨_,_,by simp only[bK,h1,h2,γB],h⟩
  ·rename_i h1 h2;exact⟨_,_,by simp only[bK,h1,h2,γB],h⟩
  ·exact h.elim;|un op x=>
  simp only[eT] at h;split at h;·rename_i hx;exact⟨_,_,by simp only[bK,hx,γB,tG,ν],h⟩
  ·rename_i hx;exact⟨_,_,by simp only[bK,hx,γB,tG,ν],h⟩
  ·rename_i k n hx;refine⟨_,_,?_,h.2⟩;have:(0:Int) - n= -n:=by omega
   simp only[bK,hx,γB,tG,ν,this,C4 h.1]
  ·rename_i hx;exact⟨_,_,by simp only[bK,hx,γB,tG,ν],h⟩
  ·exact h.elim;|conv k x=>
  simp only[eT] at h;split at h;·rename_i hx;exact⟨_,_,by simp only[bK,hx,γB],h⟩
  ·rename_i hx;exact⟨_,_,by simp only[bK,hx,γB,C4 h.1],h.2⟩
  ·rename_i kk n _ hx;exact⟨.si k (fc k n),_,by simp only[bK,hx,γB],zR h⟩
  ·exact h.elim;|uV off x=>
  simp only[eT] at h;split at h;·rename_i hx;exact⟨_,_,by simp only[bK,hx,γB,mX,ν],h⟩
  ·rename_i hx;exact⟨_,_,by simp only[bK,hx,γB,mX,ν,εZ],h⟩
  ·rename_i hx;exact⟨_,_,by simp only[bK,hx,γB,mX,ν,εZ],h⟩
  ·exact h.elim;|field off n x=>
  simp only[eT] at h;split at h
  ·rename_i cs hx;obtain⟨v,h1,h2⟩:=jo h;exact⟨_,_,by simp only[bK,hx,γB,C2 h1,ν],h2⟩
  ·exact h.elim;|uW len sz x i=>
  simp only[eT] at h;split at h
  ·rename_i k n hi;split at h
   ·rename_i hn;split at h;·rename_i hx;exact⟨_,_,by simp only[bK,hi,hx,γB,ik,if_pos hn,mX,ν],h⟩
    ·rename_i hx;exact⟨_,_,by simp only[bK,hi,hx,γB,ik,if_pos hn,mX,ν,εZ],h⟩
    ·rename_i hx;exact⟨_,_,by simp only[bK,hi,hx,γB,ik,if_pos hn,mX,ν,εZ],h⟩
    ·exact h.elim
   ·exact h.elim
  ·rename_i k n hi;split at h;·rename_i hx;exact⟨_,_,by simp only[bK,hi,hx,γB,ik,if_pos (γh h.1 h.2.1),mX,ν],h.2.2⟩
   ·exact h.elim
  ·exact h.elim;|sf sz x i=>
  simp only[eT] at h;split at h
  ·rename_i n hi;have hi:=G6 hi;split at h
   ·rename_i s l hx;split at h
    ·rename_i hsz;subst hsz;obtain⟨h1,h2,h3⟩:=h;refine⟨_,_,?_,h3⟩;simp only[bK,hi,hx,γB,qe,fe];rw[if_pos ⟨h1,h2,trivial⟩];simp
    ·exact h.elim
   ·rename_i id m sz' hx;split at h
    ·rename_i s l e pu ho;split at h
     ·rename_i hsz;obtain⟨rfl,rfl⟩:=hsz;obtain⟨rfl,h1,h2,h3⟩:=h;refine⟨_,_,?_,h3⟩;simp only[bK,hi,hx,γB,qe,fR ho,bq.g,fe];rw[pF (Nat.zero_le _),if_pos ⟨trivial,trivial,h1,h2,by omega⟩];simp
     ·exact h.elim
    ·exact h.elim
   ·rename_i id off len m sz' hx;split at h
    ·rename_i s l e pu ho;split at h
     ·rename_i hsz;obtain⟨rfl,rfl⟩:=hsz;obtain⟨rfl,h1,h2,h4,h3⟩:=h;refine⟨_,_,?_,h3⟩;have hm:(off+len)*s.sz<=l.length*s.sz:=γJ _ h4;rw[δU] at hm;simp only[bK,hi,hx,γB,qe,fR ho,bq.g,fe];rw[pF (by omega),if_pos ⟨trivial,trivial,h1,h2,hm⟩];simp[δU]
     ·exact h.elim
    ·exact h.elim
   ·rename_i id off len m sz' hx;split at h
    ·rename_i s l e pu ho;split at h
     ·rename_i hsz;obtain⟨rfl,rfl⟩:=hsz;obtain⟨rfl,h1,h2,h4,h3⟩:=h;refine⟨_,_,?_,h3⟩;have hm:(off+len)*s.sz<=l.length*s.sz:=γJ _ h4;have hp:=Gv s;rw[δU] at hm;simp only[bK,hi,hx,γB,qe,fR ho,bq.g,fe];rw[BZ (by omega),show off*s.sz+(l.length*s.sz+s.sz) - l.length*s.sz - s.sz=off*s.sz by omega,if_pos ⟨trivial,trivial,h1,h2,hm⟩];simp[δU]
     ·exact h.elim
    ·exact h.elim
   ·exact h.elim
  ·exact h.elim;|idx len sz n x i=>
  simp only[eT] at h;split at h
  ·rename_i k' k cs hi hx;split at h
   ·rename_i hk;obtain⟨v,h1,h2⟩:=jo h;exact⟨_,_,by simp only[bK,hi,hx,γB,ik,if_pos hk,C2 h1,ν],h2⟩
   ·exact h.elim
  ·rename_i k' k cs hi hx;split at h
   ·rename_i l _ _ hl;split at h
    ·rename_i hll;obtain⟨h1,h2,h3⟩:=h;refine⟨_,_,?_,h3⟩;obtain⟨h4,h5⟩:=OV hl;have h6:=h5 k.toNat (by omega);simp only[bK,hi,hx,γB,ik,if_pos (γh h1 h2),Nat.mul_one,gq,ug,h6,ν]
    ·exact h.elim
   ·exact h.elim
  ·exact h.elim;|wO x i=>simp only[eT] at h;|qc z e sz bytes l c pu=>
  simp only[eT] at h;split at h
  ·rename_i n m s hn hm hs;have hn:=G6 hn;have hm:=G6 hm;split at h
   ·rename_i hsz;subst hsz;obtain⟨x,hx,h1,h2,h3,h4,h5⟩:=jo h;obtain⟨o',hmk,hk⟩:=vG h5;refine⟨_,o',?_,hk⟩;have hd:=nV hx;rw[<-gj,GX,He] at hd;simp only[bq.g] at hmk;simp only[bK,hn,hm];rw[if_pos ⟨h1,h2,h3,h4⟩,hd,Zn,hmk];simp[γB]
   ·exact h.elim
  ·exact h.elim;|slice sz x lo hi=>
  simp only[eT] at h;split at h
  ·rename_i s l hx;split at h
   ·rename_i hsz;subst hsz;obtain⟨a,ha,h1⟩:=pK h;obtain⟨b,hb,h2,h3,h4⟩:=pK h1;refine⟨_,_,?_,h4⟩;rw[zU] at ha hb;have hlen:((l.drop a).take (b - a)).length=b - a:=by simp;omega
    simp only[bK,hx,γB,qg,ha,hb,fe,and_true,if_pos (γh h2 h3),ν,zQ,hlen]
   ·exact h.elim
  ·rename_i id m sz' hx;split at h
   ·rename_i s l e pu ho;split at h
    ·rename_i hsz;obtain⟨rfl,rfl⟩:=hsz;obtain⟨rfl,h⟩:=h;obtain⟨a,ha,h1⟩:=pK h;obtain⟨b,hb,h2,h3,h4⟩:=pK h1;refine⟨_,_,?_,h4⟩;rw[zU] at ha hb;simp only[bK,hx,γB,qg,ha,hb,fR ho,bq.g,fe];rw[if_pos ⟨h2,h3,trivial,trivial⟩];simp
    ·exact h.elim
   ·exact h.elim
  ·rename_i id off len m sz' hx;split at h
   ·rename_i s l e pu ho;split at h
    ·rename_i hsz;obtain⟨rfl,rfl⟩:=hsz;obtain⟨rfl,h⟩:=h;obtain⟨a,ha,h1⟩:=pK h;obtain⟨b,hb,h2,h3,h4⟩:=pK h1;refine⟨_,_,?_,h4⟩;rw[zU] at ha hb;simp only[bK,hx,γB,qg,ha,hb,fR ho,bq.g,fe];rw[if_pos ⟨h2,h3,trivial,trivial⟩];simp[δU]
    ·exact h.elim
   ·exact h.elim
  ·exact h.elim;|slice3 sz x lo hi mx=>
  simp only[eT] at h;split at h
  ·rename_i s l hx;split at h
   ·rename_i hsz;subst hsz;obtain⟨a,ha,h1⟩:=pK h;obtain⟨b,hb,h2⟩:=pK h1;obtain⟨m,hm,h3,h4,h5,h6⟩:=pK h2;refine⟨_,_,?_,h6⟩;rw[zU] at ha;simp only[ν] at hb hm;have hlen:((l.drop a).take (b - a)).length=b - a:=by simp;omega
    simp only[bK,hx,γB,sr,ha,hb,hm,fe,and_true,if_pos (γh h3 (γh h4 h5)),ν,zQ,hlen]
   ·exact h.elim
  ·rename_i id n sz' hx;split at h
   ·rename_i s l e pu ho;split at h
    ·rename_i hsz;obtain⟨rfl,rfl⟩:=hsz;obtain⟨rfl,h⟩:=h;obtain⟨a,ha,h1⟩:=pK h;obtain⟨b,hb,h2⟩:=pK h1;obtain⟨m,hm,h3,h4,h5,h6⟩:=pK h2;refine⟨_,_,?_,h6⟩;rw[zU] at ha;simp only[ν] at hb hm;simp only[bK,hx,γB,sr,ha,hb,hm,fR ho,bq.g,fe];rw[if_pos ⟨h3,h4,h5,trivial,trivial,by omega,Gv _⟩];simp
    ·exact h.elim
   ·exact h.elim
  ·exact h.elim;|uX x lo hi=>simp only[eT] at h;|append e sz bytes s x pu=>exact Zr h;|len k x=>
  simp only[eT] at h;split at h;·rename_i hx;exact⟨_,_,by simp only[bK,hx,γB,lr,ν],h⟩
  ·rename_i hx;exact⟨_,_,by simp only[bK,hx,γB,lr,ν],h⟩
  ·rename_i hx;exact⟨_,_,by simp only[bK,hx,γB,lr,ν],h⟩
  ·rename_i hx;exact⟨_,_,by simp only[bK,hx,γB,lr,ν],h⟩
  ·rename_i hx;exact⟨_,_,by simp only[bK,hx,γB,lr,ν];rfl,h⟩
  ·rename_i hx;exact⟨_,_,by simp only[bK,hx,γB,lr,ν],h⟩
  ·rename_i id hx;split at h
   ·rename_i sk sv ka es kt pu ho;exact⟨_,_,by simp only[bK,hx,γB,lr,fR ho,bq.g,List.length_map,ν],h⟩
   ·exact h.elim
  ·exact h.elim;|uY n=>exact⟨_,_,rfl,h⟩;|mm mx x y=>
  simp only[eT] at h;split at h
  ·rename_i hx hy;split at h
   ·rename_i hk;exact⟨_,_,by simp only[bK,hx,hy,γB,if_pos hk],h⟩
   ·exact h.elim
  ·rename_i k a hx;obtain⟨b,hb,h2⟩:=jo h;exact⟨_,_,by simp only[bK,hx,iN hb,γB,if_true,O8],h2⟩
  ·rename_i k a hx _;obtain⟨b,hb,h2⟩:=jo h;exact⟨_,_,by simp only[bK,hx,iN hb,γB,if_true,O8],h2⟩
  ·exact h.elim;|call f args own=>
  simp only[eT] at h;obtain⟨v,o',h1,h2⟩:=G9 hC h;rw[C6] at h1;exact⟨v,o',by simp only[bK,h1],h2⟩;|jR f args own=>
  simp only[eT] at h;split at h
  ·rename_i g first captured hf;obtain⟨v,o',h1,h2⟩:=G9 hC h;rw[uh,uh,C6] at h1;exact⟨v,o',by simp only[bK,hf,γB,h1],h2⟩
  ·exact h.elim;|extract x i=>
  simp only[eT] at h;split at h
  ·rename_i vs hx;obtain⟨v,h1,h2⟩:=jo h;exact⟨_,_,by simp only[bK,hx,γB,ug,h1,ν],h2⟩
  ·exact h.elim;|tB f first captured=>exact⟨_,_,by simp only[bK,γB,C6],h⟩;|uZ t x=>
  simp only[eT] at h;split at h
  ·rename_i cs hx;split at h
   ·rename_i hp;exact⟨_,_,by simp only[bK,hx,γB,if_pos (GR cs hp)],h⟩
   ·exact h.elim
  ·exact h.elim;|oO tab x args=>
  simp only[eT] at h;split at h
  ·rename_i t cs hx;split at h
   ·rename_i f hf;obtain⟨v,o',h1,h2⟩:=G9 hC h;simp only[gL,γB,C6] at h1;exact⟨v,o',by simp only[bK,hx,γB,hf,h1],h2⟩
   ·exact h.elim
  ·exact h.elim;|qd kt pu=>
  simp only[eT] at h;split at h
  ·rename_i sk sv hs;obtain⟨o',hm,hk⟩:=vG h;simp only[bq.g,γr] at hm;exact⟨_,o',by simp only[bK,hm,ν,γB],hk⟩
  ·exact h.elim;|lookup z agg ks ka x k ok=>
  simp only[eT] at h;split at h
  ·rename_i id hx;split at h
   ·rename_i sk sv xu es kt pu ho;split at h
    ·rename_i hh;obtain⟨rfl,rfl,h1,h2,rfl,h4,h5,h6⟩:=hh;obtain⟨kv,hkv,h7⟩:=jo h;obtain⟨zv,hzv,h8⟩:=jo h7;have hkey:=O2 h5 h6 (O5 h1) hkv;have hz:qZ z false=some (nh sv zv):=by
      have hd:=nV hzv;rw[GQ,O4 h2] at hd;cases z with
      |nil=>simp at hd;|cons a r=>
       cases r with
       |nil=>simp only[π,γr,Θ,and_true] at hd;simp[qZ,hd];|cons=>simp at hd
     obtain⟨r,hr,hm⟩:=G7 (sv:=sv) h1 h4 kv es 0;refine⟨_,_,?_,h8⟩;simp only[bK,hx,γB,hkey,fR ho,bq.g,if_true,hr,hz];cases hf:nX sk sv kv es with
     |some v=>
      rw[hf] at hm;obtain⟨j,rfl,_⟩:=hm;simp only[Option.getD_some];cases ok<;>simp only[χ,if_false,if_true,γB,gL,O3 h2,ζT,ζd];|none=>
      rw[hf] at hm;obtain⟨rfl,_⟩:=hm;simp only[Option.getD_none];cases ok<;>simp only[χ,if_false,if_true,γB,gL,O3 h2,ζT,ζd]
    ·exact h.elim
   ·exact h.elim
  ·exact h.elim;|qY ks ka x k v=>
  simp only[eT] at h;split at h
  ·rename_i id hx;split at h
   ·rename_i sk sv xu es kt pu ho;split at h
    ·rename_i hh;obtain⟨rfl,rfl,h1,h2,h4,h5,h6,h9⟩:=hh;obtain⟨kv,hkv,h7⟩:=jo h;obtain⟨vv,hvv,h8⟩:=jo h7;have hkey:=O2 h5 h6 (O5 h1) hkv;have hv:(ρ v).g=nh sv vv:=by
      have hd:=nV hvv;rw[O4 h2] at hd;have hc:(ρ v).cellsOf=[ρ v]:=by
       revert h9;cases ρ v<;>simp[SV.cellsOf,vC]
      rw[hc] at hd;simpa using hd
     obtain⟨r,hr,hm⟩:=G7 (sv:=sv) h1 h4 kv es 0;refine⟨_,_,?_,h8⟩;have hpure:(nh sv vv).pure=true:=by simp[nh,AV.pure]
     simp only[bK,hx,γB,hkey,fR ho,bq.g,hv,hpure,hr,qw];rw[if_neg (by simp)];cases hf:nX sk sv kv es with
     |some w=>
      rw[hf] at hm;obtain⟨j,rfl,h10,h11⟩:=hm;rw[O1 h10 h11];simp only[Nat.zero_add];rw[O6];|none=>
      rw[hf] at hm;obtain⟨rfl,h10⟩:=hm;rw[G8 h10];simp
    ·exact h.elim
   ·exact h.elim
  ·exact h.elim
end
mutual
theorem Hh {o:Store} {k:Nat}:∀{v:AV},v.bY k=true->v.bU o (λi=>decide (k<=i))=some v
 | .os m d j e,h=>by
  simp_all[AV.bY,AV.bU,if_neg];| .ptr m d e,h=>by
  simp_all[AV.bY,AV.bU,if_neg];| .agg g,h=>by simp only[AV.bY] at h;simp only[AV.bU,xE h,ν];| .bI g,h=>by simp only[AV.bY] at h;simp only[AV.bU,xE h,ν];| .fn f a b,h=>by
  simp only[AV.bY,θ] at h;simp only[AV.bU,xE h.1,xE h.2];| .ud,_| .sc _,_| .sl _ _,_| .ep _ _,_| .mp _,_| .jm _ _,_=>by simp only[AV.bU]
theorem xE {o:Store} {k:Nat}:∀{l:List AV},ey k l=true->gV o (λi=>decide (k<=i)) l=some l
 |[],_=>by simp[gV];|c::g,h=>by
  simp only[ey,θ] at h;simp only[gV,Hh h.1,xE h.2]
end
theorem O9 {o:Store} {k:Nat}:∀{l:List (Value×AV)},ey k (l.map (·.2))=true->ql o (λi=>decide (k<=i)) l=some l
 |[],_=>by simp[ql];|(q,c)::a,h=>by
  simp only[π,ey,θ] at h;simp only[ql,Hh h.1,O9 h.2]
theorem Zt {o:Store} {k:Nat} {x:bQ} (h:x.bY k=true):x.bU o (λi=>decide (k<=i))=some x:=by
 cases x with
 |dead=>rfl;|cells b e f a=>
  cases a with
  |true=>simp only[bQ.bU,if_true];|false=>simp_all[bQ.bY,bQ.bU,xE]
 |map d c a=>
  cases a with
  |true=>simp only[bQ.bU,if_true];|false=>simp_all[bQ.bY,bQ.bU,O9]
theorem Pe {o:Store} {k:Nat}:∀{r:Store},(∀x∈r,x.bY k=true)->jE o (λi=>decide (k<=i)) r=some r
 |[],_=>rfl
 |x::r,h=>by
  simp only[jE,Zt (h x (by simp)),Pe (r:=r) λy a=>h y (by simp[a])]
theorem Pg {k:Nat}:∀{o:Store} {i:Nat},(fQ (λj=>decide (k<=j)) i o).take (k - i)=o.take (k - i)
 |[],i=>by simp[fQ];|x::r,i=>by
  simp only[fQ];by_cases a:i<k
  ·rw[show k - i=(k - (i+1))+1 from by omega,δr,δr,Pg];grind
  simp_all
theorem ah2 {k i:Nat} (h:i<k):(Γ k).contains i=true:=by simp[h]
theorem Ph {o:Store} {k:Nat}:∀{d:Nat} {vs:List AV},ey k vs=true->cT o d vs (Γ k)=Γ k:=by
 intro d;induction d with
 |zero=>grind[cT];|succ d e=>
  intro vs h;cases vs with
  |nil=>simp[cT];|cons v vs=>
   simp only[ey,θ] at h;have i:=h.1;simp only[cT];cases v with
   |agg g=>grind[AV.bY];|bI g=>grind[AV.bY];|fn f a b=>grind[AV.bY];|ptr c _ _=>simp_all[AV.bY];|os c _ _ _=>simp_all[AV.bY];|mp c=>simp_all[AV.bY];|_=>simp only[e h.2]
theorem Pj:∀{n s i p:Nat},s<=i->i<s+n->idxOf (ζv s n) i p=some (p+(i - s))
 |0,s,i,p,a,b=>by omega;|n+1,s,i,p,a,b=>by
  simp only[εu,idxOf];by_cases h:s=i;·subst h;simp
  ·have:(s==i)=false:=by simpa using h
   rw[this];simp only[χ,if_false];rw[Pj (by omega) (by omega)];grind
theorem Hj {k i:Nat} (h:i<k):idxOf (Γ k) i=some i:=by
 rw[δD,Pj (by omega) (by omega)];simp
mutual
theorem C7 {k:Nat}:∀{v:AV},v.bY k=true->v.ren (λj=>idxOf (Γ k) j)=some v
 | .os g d m e,h=>by simp_all[AV.bY,δv,Hj];| .ptr g d e,h=>by simp_all[AV.bY,δv,Hj];| .mp g,h=>by simp_all[AV.bY,δv,Hj];| .agg i,h=>by simp only[AV.bY] at h;simp only[δv,xF h,ν];| .bI i,h=>by simp only[AV.bY] at h;simp only[δv,xF h,ν];| .fn f a b,h=>by
  simp only[AV.bY,θ] at h;simp only[δv,xF h.1,xF h.2];| .ud,_| .sc _,_| .sl _ _,_| .ep _ _,_| .jm _ _,_=>by simp only[δv]
theorem xF {k:Nat}:∀{l:List AV},ey k l=true->iL (λj=>idxOf (Γ k) j) l=some l
 |[],_=>by simp[iL];|c::i,h=>by
  simp only[ey,θ] at h;simp only[iL,C7 h.1,xF h.2]
end
theorem Pm {k:Nat}:∀{l:List (Value×AV)},ey k (l.map (·.2))=true->oQ (λj=>idxOf (Γ k) j) l=some l
 |[],_=>by simp[oQ];|(q,c)::a,h=>by
  simp only[π,ey,θ] at h;simp only[oQ,C7 h.1,Pm h.2]
theorem Zu {k:Nat} {x:bQ} (h:x.bY k=true):x.ren (λj=>idxOf (Γ k) j)=some x:=by
 cases x with
 |dead=>rfl;|cells b e f a=>
  cases a with
  |true=>simp only[bQ.ren,if_true];|false=>simp_all[bQ.bY,bQ.ren,xF]
 |map d c a=>
  cases a with
  |true=>simp only[bQ.ren,if_true];|false=>simp_all[bQ.bY,bQ.ren,Pm]
theorem Hk {k:Nat} {o:Store} (a:∀x∈o.take k,x.bY k=true) (c:k<=o.length):∀{n s:Nat},s+n=k->kV o (Γ k) (ζv s n)=some ((o.take k).drop s)
 |0,s,h=>by
  grind[kV];|n+1,s,h=>by
  simp only[εu,kV];have d:s<o.length:=by omega
  have e:o[s]?=some o[s]:=μ d;rw[e,Hk a c (by omega)];have f:o[s]∈o.take k:=by
   rw[List.mem_take_iff_getElem];grind
  simp only[Zu (a _ f),ν];congr 1;have b:s<(o.take k).length:=by simp;omega
  rw[List.drop_eq_getElem_cons b];simp
theorem nodup_range':∀{n s:Nat},iM.pB (ζv s n)=true
 |0,_=>by simp[iM.pB];|n+1,s=>by
  simp only[εu,iM.pB,nodup_range',δS,Bool.not_eq_true'];grind
theorem Pn {k:Nat}:∀{a b:List AV},ey k a=true->ey k b=true->ey k (a++b)=true
 |[],b,_,h=>h
 |x::a,b,h,c=>by
  simp only[ey,θ] at h;simp only[γG,ey,h.1,Pn h.2 c,Bool.and_self]
theorem Hl {k:Nat}:∀{o:Store},(∀x∈o,x.bY k=true)->ey k (o.flatMap lL.bQ.zd)=true
 |[],_=>by simp[ey];|x::o,h=>by
  simp only[δY];refine Pn ?_ (Hl λy a=>h y (by simp[a]));have b:=h x (by simp);cases x<;>grind[lL.bQ.zd,ey,bQ.bY]
theorem Po {k:Nat} {r:AV} {o:Store} (e:r.bY k=true) (b:∀x∈o,x.bY k=true) (j:k<=o.length):lL k r o=some (r,o.take k):=by
 unfold lL;rw[Hh e,Pe b];simp only;have a:(fQ (λi=>decide (k<=i)) 0 o).take k=o.take k:=by simpa using Pg (k:=k) (o:=o) (i:=0)
 have d:∀{o:Store} {i:Nat},(fQ (λi=>decide (k<=i)) i o).length=o.length:=by
  intro o;induction o with
  |nil=>intro i;rfl;|cons x o l=>simp_all[fQ]
 have h:∀x∈o.take k,x.bY k=true:=λx g=>b x (List.mem_of_mem_take g);rw[a,Ph (by grind[ey,Hl])];have f:iM.pB (Γ k)=true:=by rw[δD];exact nodup_range'
 rw[if_pos f,C7 e];have c:=Hk (k:=k) (o:=fQ (λi=>decide (k<=i)) 0 o) (by simp_all) (by simp_all) (n:=k) (s:=0) (by omega);rw[<-δD,a,εp] at c;rw[c]
theorem Hm:∀{env:fE} {s:Nat} {v:SV},(jT env s).g=v.g->gE (xw env s v)=gE env
 |[],_,_,_=>rfl
 |p::r,s,v,h=>by
  simp only[xw,jT] at h ⊢;cases a:δq p.1 s with
  |true=>
   simp_all[gE];|false=>
   rw[a] at h;simp only[cond_false] at h ⊢;have:=Hm h;grind[gE]
theorem Zv {env:fE} {g:Option (Option Nat×Bool)} {K:fE->Bool->Prop} (h:GH env g K):∃a w,gE a=gE env/\mA (gE env) g=some w/\K a w:=by
 unfold GH at h;split at h;·exact⟨_,_,rfl,rfl,h⟩
 ·exact h.elim
 ·rename_i s b;split at h;·grind[mA,ob,γB]
  ·rename_i c d;cases c<;>grind[Hm,mA,ob,γB]
  all_goals grind[mA,ob,γB,gL]
section
variable {call:dh} {p:i6}
theorem Pq:∀{a b:bZ},kE a b->gO a=gO b
 |[],[],_=>rfl
 |x::a,y::b,h=>by
  obtain⟨c,d⟩:=h;have e:x.g=y.g:=c;simp only[gO,π,e];congr 1;exact Pq d
def vH:Trace->Trace->Prop
 |[],[]=>True
 |x::a,y::b=>(x.1=y.1/\x.2.1=y.2.1/\∀j∈x.2.2,j∈y.2.2)/\vH a b
 |_,_=>False
theorem vH.look:∀{a b:Trace} {i:Nat},vH a b->(qk a i).1=(qk b i).1/\∀j∈(qk a i).2,j∈(qk b i).2
 |[],[],_,_=>⟨rfl,λj h=>h⟩
 |(k,x)::a,(g,y)::b,i,h=>by
  obtain⟨⟨c,e,d⟩,f⟩:=h;simp only at c e d;subst c;simp only[qk];split;·exact⟨e,d⟩
  ·exact vH.look f
theorem Zw {a b d c:List Nat} (f:∀j∈a,j∈d) (e:∀j∈b,j∈c) (h:wQ d c=true):wQ a b=true:=by
 grind[wQ]
theorem Zx {n:Nat} {a b:Trace} {c:List (Nat×Nat)} (h:vH a b) (d:tH n b c=true):tH n a c=true:=by
 unfold tH at d ⊢;rw[List.all_eq_true] at d ⊢;intro p e;have l:=d p e;obtain⟨g,k⟩:=h.look (i:=p.1);obtain⟨f,j⟩:=h.look (i:=p.2);grind[Zw]
theorem Hn (u:pL call p.C) {base:Nat}:∀{d:List dD} {st:cy} {l:Trace} {K:cy->Trace->Prop},xx p base d st l K->
  ∃st' T,gh call base d st.g=some st'.g/\vH (mB call base d st.g) T/\K st' (T.reverse++l)
 |[],st,l,K,h=>⟨st,[],rfl,trivial,h⟩
 |i::r,st,l,K,h=>by
  simp only[xx] at h;obtain⟨a,w,B,s,q⟩:=Zv h;have A:st.g=⟨gE a,gO st.o⟩:=by grind[cy.g]
  rw[<-B] at s;cases w with
  |true=>
   simp only[if_true] at q;obtain⟨v,y,E,c⟩:=Zs u q;have b:iu call base i st.g=some (cy.g ⟨vx a i.dst v,y⟩):=by
    grind[iu,OQ,zb,cy.g,OO]
   have k:∀W:List Nat,(∀j∈ez call i.op (λx=>(jI a x).g) (gO st.o) (base+i.bB),j∈W)->
     xx p base r ⟨vx a i.dst v,y⟩ ((i.idx,dS i.op (λx=>(jI a x).g) (st.o.map bq.g) (base+i.bB),W)::l) K->
     ∃st' T,gh call base (i::r) st.g=some st'.g/\vH (mB call base (i::r) st.g) T/\K st' (T.reverse++l):=λW G c=>by
    obtain⟨st',T,D,z,F⟩:=Hn u c;refine⟨st',(i.idx,dS i.op (λx=>(jI a x).g) (st.o.map bq.g) (base+i.bB),W)::T,by grind[gh],?_,?_⟩
    ·simp only[mB,b];rw[A];simp only[s,OQ];exact⟨⟨rfl,rfl,G⟩,z⟩
    simp_all
   unfold OJ at c;split at c
   ·rename_i f n t;split at c
    ·obtain⟨H,c⟩:=c;refine k [] (λj m=>?_) c;rw[t] at E m;have e:iM call f (n.map λx=>(jI a x).g) (gO st.o)=some (v.g,gO y):=by simp_all[bK,gJ]
     simp only[ez,e,List.mem_filter,decide_eq_true_eq] at m;grind[Pq]
    ·exact k _ (λj m=>Gj m) c
   ·exact k _ (λj m=>Gj m) c;|false=>
   simp only[χ,if_false] at q;obtain⟨st',T,D,z,F⟩:=Hn u q;have b:iu call base i st.g=some (cy.g ⟨vx a i.dst (.bI []),st.o⟩):=by
    grind[iu,cy.g,OO,γB,gL]
   refine⟨st',(i.idx,[],[])::T,by grind[gh],?_,?_⟩
   ·simp only[mB,b];rw[A];simp only[s];exact⟨⟨rfl,rfl,λj h=>h⟩,z⟩
   simp_all
theorem Zy (k:Nat):gO (δ k .dead)=gi k:=by simp[gO,gi,bq.g]
theorem Pv (a b:bZ):gO (a++b)=gO a++gO b:=by simp[gO]
theorem Zz (x:bq):x.g.mW=x.mW:=by cases x<;>rfl
theorem ZA (base:Nat) (o:bZ):gO (GI base o)=q8 base (gO o):=by
 unfold GI q8;have:((gO o).drop base).all (·.mW)=(o.drop base).all (·.mW):=by
  simp only[gO,<-List.map_drop,ζ0];grind[Zz]
 rw[this];cases(o.drop base).all (·.mW);·rfl
 ·simp[gO]
theorem ZB (i:pL call p.C) {k:Nat} {b:List dD} {a:List (Nat×Nat)} {st:cy} {K:cy->Prop} (h:GK p k b a st K):∃st',pC call k b a st.g=some st'.g/\K st':=by
 unfold GK at h;obtain⟨st',T,f,j,d⟩:=Hn i h;rw[List.append_nil,List.reverse_reverse] at d;have e:(cy.mk st.env (st.o++δ k .dead)).g=⟨st.g.env,st.g.o++gi k⟩:=by simp[cy.g,Pv,Zy]
 rw[e] at f j;have c:st.g.o.length=st.o.length:=by simp[cy.g,od]
 split at d
 ·rename_i l;refine⟨_,?_,d⟩;simp only[pC,c];rw[f];simp only;rw[if_pos (by
   grind[gi,Zx])];grind[cy.g,ZA]
 simp_all
end
theorem C9 {v:SV}:isNil v=true↔v.g= .sc (.slice none 0 0):=by
 constructor
 ·intro h;unfold isNil at h;split at h;·rfl
  ·cases h
 ·intro h;cases v<;>simp only[γB,reduceCtorEq,δb] at h;subst h;rfl
section
variable {o:bZ} {id:Nat} {s:bp} {l:List s.T} {e:TypeId}
def pid (id:Nat):Nat->Bool:=λi=>i==id
mutual
theorem Px (r:o[id]?=some (.row s l e true)):∀{v:SV} {K:SV->Prop},jJ id s l v K->∃E:SV,v.g.bU (gO o) (pid id)=some E.g/\K E
 | .ow j n A,K,h=>by
  simp only[jJ] at h;split at h
  ·rename_i q;subst q;split at h
   ·rename_i u;subst u;obtain⟨rfl,D⟩:=h;refine⟨_,?_,D⟩;have I:ω (l.length*s.sz) (cE s l)=cE s l:=γo (by grind[fe]);simp_all[γB,AV.bU,pid,fR,bq.g,fe]
   simp_all
  ·rename_i q;refine⟨_,?_,h⟩;simp_all[γB,AV.bU,pid];| .os j w p n A,K,h=>by
  simp only[jJ] at h;split at h
  ·rename_i q;subst q;split at h
   ·rename_i u;subst u;obtain⟨rfl,C,D⟩:=h;refine⟨_,?_,D⟩;have F:(w+p)*s.sz<=l.length*s.sz:=γJ _ C;rw[δU] at F;have B:((l.drop w).take p).length=p:=by simp;omega
    simp only[γB,AV.bU,pid,BEq.rfl,if_true,fR r,bq.g,fe,F,and_self,zQ,B]
   simp_all
  ·rename_i q;refine⟨_,?_,h⟩;simp_all[γB,AV.bU,pid];| .oc j w p n A,K,h=>by
  simp only[jJ] at h;split at h;·exact h.elim
  ·rename_i q;exact⟨_,by simp_all[γB,AV.bU,pid],h⟩;| .rp j i f n A,K,h=>by
  simp only[jJ] at h;split at h;·exact h.elim
  ·rename_i q;exact⟨_,by simp_all[γB,AV.bU,pid],h⟩;| .ptr j f t,K,h=>by
  simp only[jJ] at h;split at h;·exact h.elim
  ·rename_i q;exact⟨_,by simp_all[γB,AV.bU,pid],h⟩;| .ap j a b c d i,K,h=>by
  simp only[jJ] at h;split at h;·exact h.elim
  ·rename_i q;exact⟨_,by simp_all[γB,AV.bU,pid],h⟩;| .agg x,K,h=>by
  simp only[jJ] at h;obtain⟨m,z,y⟩:=vI r h;grind[γB,AV.bU];| .bI x,K,h=>by
  simp only[jJ] at h;obtain⟨m,z,y⟩:=vI r h;grind[γB,AV.bU];| .fn f a b,K,h=>by
  simp only[jJ] at h;obtain⟨M,z,y⟩:=vI r h;obtain⟨L,G,H⟩:=vI r y;grind[γB,AV.bU];| .ud,K,h=>⟨.ud,by grind[γB,AV.bU],by grind[jJ]⟩
 | .sc v,K,h=>⟨.sc v,by grind[γB,AV.bU],by grind[jJ]⟩
 | .il k n,K,h=>⟨.il k n,by grind[γB,AV.bU],by grind[jJ]⟩
 | .si k n,K,h=>⟨.si k n,by grind[γB,AV.bU],by grind[jJ]⟩
 | .bl b,K,h=>⟨.bl b,by grind[γB,AV.bU],by grind[jJ]⟩
 | .sb b,K,h=>⟨.sb b,by grind[γB,AV.bU],by grind[jJ]⟩
 | .row s l,K,h=>⟨.row s l,by grind[γB,AV.bU],by grind[jJ]⟩
 | .ep s l i f,K,h=>⟨.ep s l i f,by grind[γB,AV.bU],by grind[jJ]⟩
 | .mp i,K,h=>⟨.mp i,by grind[γB,AV.bU],by grind[jJ]⟩
 | .ia t x,K,h=>⟨.ia t x,by grind[γB,AV.bU],by grind[jJ]⟩
 | .ite c a b,K,h=>⟨.ite c a b,by grind[γB,AV.bU],by grind[jJ]⟩
theorem vI (r:o[id]?=some (.row s l e true)):∀{x:List SV} {K:List SV->Prop},ry id s l x K->∃m:List SV,gV (gO o) (pid id) (gL x)=some (gL m)/\K m
 |[],K,h=>⟨[],by simp[gL,gV],by grind[ry]⟩
 |c::x,K,h=>by
  simp only[ry] at h;obtain⟨J,z,y⟩:=Px r h;obtain⟨m,G,H⟩:=vI r y;grind[gL,gV]
end
theorem Ho (b:o[id]?=some (.row s l e true)):∀{env:fE} {K:fE->Prop},zH id s l env K->∃a,ve (gO o) (pid id) (gE env)=some (gE a)/\K a
 |[],K,h=>⟨[],rfl,h⟩
 |(k,v)::r,K,h=>by
  simp only[zH] at h;obtain⟨f,d,c⟩:=Px b h;obtain⟨j,g,i⟩:=Ho b c;grind[gE,ve]
theorem Da {o:Store} {q:Nat->Bool}:∀{cs:List AV},(∀a∈cs,Plain a)->gV o q cs=some cs
 |[],_=>by simp[gV];|a::cs,h=>by
  have d:=Da (o:=o) (q:=q) (cs:=cs) λb c=>h b (by simp[c]);rcases h a (by simp) with⟨v,rfl,_⟩|⟨n,e,rfl,_⟩<;>simp only[gV,AV.bU,d]
theorem Hq {o:Store} {q:Nat->Bool}:∀{es:List (Value×AV)},(∀a∈es,∃v,a.2= .sc v)->ql o q es=some es
 |[],_=>by simp[ql];|(k,a)::es,h=>by
  obtain⟨v,b⟩:=h (k,a) (by simp);simp only at b;subst b;simp only[ql,AV.bU,Hq (es:=es) λa c=>h a (by simp[c])]
theorem sG (j:o[id]?=some (.row s l e true)):∀{i:Nat} {r:bZ} {K:bZ->Prop},nZ id s l i r K->∃r' mid,jE (gO o) (pid id) (gO r)=some mid/\fQ (pid id) i mid=gO r'/\K r'
 |i,[],K,h=>⟨[],[],rfl,rfl,h⟩
 |i,x::r,K,h=>by
  cases x with
  |dead=>
   simp only[nZ] at h;obtain⟨r',mid,w,n,f⟩:=sG j h;grind[gO,bq.g,jE,bQ.bU,fQ];|cells N p F d=>
   simp only[nZ] at h;cases d with
   |true=>
    simp only[if_true] at h;split at h;·exact h.elim
    ·rename_i B;obtain⟨r',mid,w,n,f⟩:=sG j h;refine⟨_,.cells (gL N) p F true::mid,?_,?_,f⟩;all_goals simp_all[gO,bq.g,jE,bQ.bU,fQ,pid];|false=>
    simp only[χ,if_false] at h;obtain⟨A,z,k⟩:=vI j h;obtain⟨r',mid,w,n,f⟩:=sG j k;refine⟨_,.cells (gL A) p F false::mid,?_,?_,f⟩;all_goals simp_all[gO,bq.g,jE,bQ.bU,fQ]
  |oY v u p t=>
   simp only[nZ] at h;split at h;·exact h.elim
   ·obtain⟨O,z,k⟩:=vI j h;split at k
    ·rename_i m M;obtain⟨L,_⟩:=C5 M;obtain⟨r',mid,w,n,f⟩:=sG j k;refine⟨_,(bq.row v (u++m) p false).g::mid,?_,?_,f⟩
     ·simp only[gO,π,bq.g] at w z ⊢;have G:∀(a b c:List AV),gV (γb bq.g o) (pid id) a=some a->gV (γb bq.g o) (pid id) b=some c->gV (γb bq.g o) (pid id) (a++b)=some (a++c):=λa b c w n=>by
       induction a<;>grind[gV]
      have P:gV (γb bq.g o) (pid id) (cE v u)=some (cE v u):=Da (λa C=>ni C);simp_all[jE,bQ.bU,OC]
     ·simp only[bq.g,fQ,n];rfl
    simp_all;|row v u p d=>
   simp only[nZ] at h;have y:(bq.row v u p d).g.bU (gO o) (pid id)=some (bq.row v u p d).g:=by
    cases d with
    |true=>simp only[bq.g,bQ.bU,if_true];|false=>
     simp only[bq.g,bQ.bU,χ,if_false];grind[Da,ni]
   split at h
   ·rename_i B;cases d with
    |false=>simp_all;|true=>
     simp only[if_true] at h;obtain⟨r',mid,w,n,f⟩:=sG j h;refine⟨_,(bq.row v u p true).g::mid,?_,?_,f⟩;all_goals simp_all[gO,jE,bq.g,fQ,pid]
   ·rename_i B;obtain⟨r',mid,w,n,f⟩:=sG j h;refine⟨_,(bq.row v u p d).g::mid,?_,?_,f⟩;·grind[gO,jE]
    ·cases d<;>simp only[bq.g,fQ,n,pid,beq_iff_eq,if_neg B]<;>rfl;|map H D I E J d=>
   simp only[nZ] at h;have y:(bq.map H D I E J d).g.bU (gO o) (pid id)=some (bq.map H D I E J d).g:=by
    cases d with
    |true=>simp only[bq.g,bQ.bU,if_true];|false=>
     simp only[bq.g,bQ.bU,χ,if_false];rw[Hq (λa C=>by obtain⟨q,_,rfl⟩:=Ψ.1 C;exact⟨_,rfl⟩),ν]
   obtain⟨r',mid,w,n,f⟩:=sG j h;grind[gO,jE,bq.g,fQ]
end
theorem ZC {v:SV}:(∃id,ub.xy v=some id/\∃a b c,v.g= .os id a b c)\/(ub.xy v=none/\∀id a b c,v.g≠ .os id a b c):=by
 cases v<;>simp[ub.xy,γB]
theorem Py {p:i6} {lo:Nat} {h:ky} {st:cy} {K:cy->Prop} {v:SV} (t:h.own=false) (f:BM h st.g=some v.g)
  (d:match ub.xy v with
   |some id=>if Nat.ble lo id then(match st.o[id]? with
    |some (.row s l e pu)=>zH id s l st.env λenv=>nZ id s l 0 (if pu then st.o else st.o.set id (.row s l e true)) λo=>K ⟨env,o⟩
    |_=>False) else K st
   |none=>K st):∃st',j8 lo h st.g=st'.g/\K st':=by
 let _:=p;unfold j8;rw[if_neg (by simp[t]),f];rcases @ZC v with⟨id,w,a,b,c,x⟩|⟨w,x⟩
 ·rw[w] at d;rw[x];simp only at d ⊢;split at d
  ·rename_i q;rw[if_pos q];split at d
   ·rename_i s l e pu m;have D:(λi=>i==id)=pid id:=rfl;cases pu with
    |true=>
     simp only[if_true] at d;obtain⟨j,A,n⟩:=Ho m d;obtain⟨B,u,C,y,r⟩:=sG m n;refine⟨_,?_,r⟩;simp_all[zc,cy.g,fR,bq.g,BP];|false=>
     simp only[χ,if_false] at d;have z:id<st.o.length:=(ζ.1 m).1;have k:(st.o.set id (.row s l e true))[id]?=some (.row s l e true):=by simp_all
     obtain⟨j,A,n⟩:=Ho (o:=st.o.set id (.row s l e true)) k d;obtain⟨B,u,C,y,r⟩:=sG k n;refine⟨_,?_,r⟩;simp_all[zc,cy.g,fR,bq.g,oZ,qw,BP]
   simp_all
  grind
 grind
section
variable {p:i6} {lo:Nat}
theorem ZD {h:ky} {st:cy} {K:cy->Prop} (a:ub p lo h st K):∃st',j8 lo h st.g=st'.g/\K st':=by
 unfold ub at a;split at a
 ·rename_i f;unfold j8;rw[if_pos f];unfold BO;split at a
  ·rename_i b;simp only[b];split at a
   ·rename_i r;have t:=C9.1 r;rw[<-ob] at t;have B:dL st.g.env h.slot= .sc (.slice none 0 0):=t;rw[B];split at a
    ·rename_i s J;split at a
     ·rename_i w;refine⟨_,?_,a⟩;simp[cy.g,gE,gO,γB,bq.g,cE,w]
     simp_all
    simp_all
   ·rename_i r;split at a
    ·rename_i z;split at a
     ·rename_i m G D d;have n:dL st.g.env h.slot= .os m 0 G (G*D):=by
       show dL (gE st.env) h.slot=_;rw[ob,d];rfl
      rw[n];split at a
      ·rename_i s l e y;refine⟨_,?_,a⟩;simp_all[BN,cy.g,fR,bq.g,qw]
      simp_all
     simp_all
    ·rename_i z;refine⟨st,?_,a⟩;split
     ·rename_i L;have:dL (gE st.env) h.slot= .sc (.slice none 0 0):=L;grind[ob,C9]
     all_goals simp_all
  ·rename_i k b;simp only[b];split at a
   ·rename_i m c j d;have n:dL st.g.env h.slot= .ptr m c j:=by
     show dL (gE st.env) h.slot=_;rw[ob,d];rfl
    rw[n];split at a
    ·rename_i i e F E y;have u:st.g.o[m]?=some (.cells (gL i) e F E):=fR y;simp only[u];split at a
     ·rename_i r;cases C:i[c+k]? with
      |none=>simp_all;|some v=>
       rw[C] at r;simp only[Option.any_some] at r;have M:=C9.1 r;have A:(gL i)[c+k]?=some (.sc (.slice none 0 0)):=by grind[ug]
       simp only[A,jU];split at a
       ·rename_i I;rw[if_pos I];split at a
        ·rename_i s J;split at a
         ·rename_i w;refine⟨_,?_,a⟩;have N:gL (i.set (c+k) (.ow st.o.length 0 h.sz))=(gL i).set (c+k) (.os st.o.length 0 0 0):=by
           simp_all[gj,γB]
          simp_all[cy.g,bq.g,gO,cE]
         simp_all
        simp_all
       simp_all
     grind[ug,C9]
    simp_all
   simp_all
 ·rename_i f;have f:h.own=false:=by simpa using f
  unfold ub.OL at a;cases b:h.off with
  |none=>
   rw[b] at a;simp only at a;refine Py (p:=p) (v:=jT st.env h.slot) f ?_ ?_;all_goals grind[BM,cy.g,ob];|some k=>
   rw[b] at a;simp only at a;cases q:jT st.env h.slot with
   |ptr m c j=>
    rw[q] at a;simp only at a;cases y:st.o[m]? with
    |none=>simp_all;|some x=>
     rw[y] at a;cases x with
     |cells i e F E=>
      simp only at a;by_cases H:i.length=j
      ·rw[if_pos H] at a;cases C:i[c+k]? with
       |none=>simp_all;|some v=>
        rw[C] at a;refine Py (p:=p) (v:=v) f ?_ ?_
        ·unfold BM;rw[b];have:dL st.g.env h.slot= .ptr m c j:=by
          show dL (gE st.env) h.slot=_;rw[ob,q];rfl
         have u:st.g.o[m]?=some (.cells (gL i) e F E):=fR y;simp_all[behind,jU,ug]
        grind
      simp_all;|_=>exact a.elim
   |_=>rw[q] at a;exact a.elim
theorem Hr:∀{hs:List ky} {st:cy} {K:cy->Prop},zI p lo hs st K->∃st',hs.foldl (λs h=>j8 lo h s) st.g=st'.g/\K st'
 |[],st,K,h=>⟨st,rfl,h⟩
 |h::hs,st,K,hk=>by
  simp only[zI] at hk;obtain⟨st1,h1,h2⟩:=ZD hk;obtain⟨st2,h3,h4⟩:=Hr h2;exact⟨st2,by rw[List.foldl_cons,h1,h3],h4⟩
theorem ZE (a:List Nat) (env:fE):gE (GL a env)=prune a (gE env):=by
 simp[GL,prune,gE,<-ob]
theorem Ht (k:Nat) (st:cy):(trimS k st).g=trim k st.g:=by
 unfold trimS trim;have b:st.g.o.length=st.o.length:=by simp[cy.g,od]
 have c:(st.g.env.all λp=>p.2.bY k)=(st.env.all λp=>p.2.bY k):=by
  simp only[cy.g,gE,ζ0];grind[zO]
 have d:((st.g.o.take k).all λx=>x.bY k)=((st.o.take k).all λx=>x.bY k):=by
  simp only[cy.g,gO,<-List.map_take,ζ0];grind[C0]
 rw[b,c,d];by_cases a:st.o.length<=k;·simp_all
 ·rw[if_neg a,if_neg a];split;·simp[cy.g,gO]
  ·rfl
variable {T:Tab}
theorem Pz {v:Int} {n:Nat} {K:Nat->Prop}:∀{j:Nat},j<=n->splitN v n K j->(n - j:Nat)<=v->∃i:Nat,v=i/\K i
 |0,_,h,a=>by
  grind[splitN];|j+1,c,h,a=>by
  simp only[splitN] at h;by_cases b:v=(n - (j+1):Nat);·grind
  ·exact Pz (by omega) h.2 (by omega)
theorem PD {v:Int} {n:Nat} {K:Nat->Prop}:∀{j:Nat},splitN v n K j->0<=v
 |0,h=>h.1
 |j+1,h=>PD h.2
theorem ZF {x:Option (Nat×Nat×Nat)} {st:cy} {K:cy->Prop} (h:splitK x st K):∃st',st'.g=st.g/\K st':=by
 unfold splitK at h;split at h;·grind
 ·rename_i p a n;split at h
  ·rename_i c e q r b;split at h
   ·rename_i k v o;obtain⟨i,rfl,f⟩:=Pz (Nat.le_refl _) h (by have:=PD h;omega);refine⟨_,?_,f⟩;have l:gL (c.set a (.il k i))=gL c:=by
     rw[gj,gj,List.map_set];apply γ9;grind[γB]
    simp only[cy.g,qw,bq.g,l,cy.mk.injEq,St.mk.injEq,true_and];apply γ9;intro j;rw[List.getElem?_set];split
    ·rename_i d;subst d;have m:=(ζ.1 b).1;rw[if_pos (by grind[od]),G0,b];rfl
    ·rfl
   simp_all
  simp_all
theorem PE:∀{e a:fE},xA e a->gE e=gE a
 |[],[],_=>rfl
 |[],_::_,h=>by grind[xA];|_::_,[],h=>by grind[xA];|(k,v)::e,(d,c)::a,h=>by
  simp only[xA] at h;split at h
  ·rename_i b;subst b;have:=PE h.2;simp only[gE,π] at this ⊢;rw[this,show v.g=c.g from h.1]
  simp_all
theorem xG:∀{o o':bZ},kE o o'->gO o=gO o'
 |[],[],_=>rfl
 |[],_::_,h=>by grind[kE];|_::_,[],h=>by grind[kE];|x::o,y::o',h=>by
  simp only[kE] at h;have:=xG h.2;simp only[gO,π] at this ⊢;rw[this,show x.g=y.g from h.1]
theorem Db {s t:cy} (h:zJ s t):s.g=t.g:=by
 simp only[cy.g,PE h.1,xG h.2]
theorem ah3 (env:fE) (args:List Operand):args.map (eJ (gE env))=gL (args.map (jI env)):=by
 simp_all[gj,zM]
theorem vJ (hC:pL T.K p.C) (hI:∀f F,p.it f=some F->T.fn f=some F):∀{c:IR} {Λ:Nat->cF} {st:cy} {Q:Out->cy->Prop},wpS p lo c Λ st Q->VW T zB lo c st.g λout s=>∃ss,s=ss.g/\Q out ss:=by
 intro c;induction c with
 |skip=>intro Λ st Q h;exact VW.skip ⟨st,rfl,h⟩;|exit id=>intro Λ st Q h;exact VW.exit ⟨st,rfl,h⟩;|ret=>intro Λ st Q h;exact VW.ret ⟨st,rfl,h⟩;|goto l=>intro Λ st Q h;exact VW.goto ⟨st,rfl,h⟩;|oP x a b iha ihb=>
  intro Λ st Q h;simp only[wpS] at h;have hx:eJ st.g.env x=(jI st.env x).g:=zM _ _;split at h
  ·rename_i he;rw[he] at hx;exact VW.oP hx (by rw[if_pos rfl];exact iha h)
  ·rename_i he;rw[he] at hx;exact VW.oP hx (by rw[if_neg (by simp)];exact ihb h)
  ·rename_i c he;rw[he] at hx;have hset:∀v:SV,(SV.sb c).g=v.g->(cy.mk (CX st.env x v) st.o).g=st.g:=λv hv=>by
    cases x with
    |tmp t=>
     have:jT st.env t= .sb c:=he;simp only[cy.g,CX];rw[Hm (by rw[this];exact hv)];|_=>rfl
   refine VW.oP hx ?_;cases c with
   |true=>
    have:=iha (h.1 rfl);rw[hset (.bl true) rfl] at this;rw[if_pos rfl];exact this;|false=>
    have:=ihb (h.2 rfl);rw[hset (.bl false) rfl] at this;rw[if_neg (by simp)];exact this
  ·exact h.elim;|turns l b ih=>
  intro Λ st Q h;cases l with
  |none=>
   simp only[wpS] at h;refine VW.Y0 ((ih h).mono ?_);rintro out s ⟨ss,rfl,h2⟩;cases out with
   |norm=>exact⟨by simp,ss,rfl,h2⟩;|exit id=>exact⟨by simp,ss,rfl,h2⟩;|ret=>exact⟨by simp,ss,rfl,h2⟩;|goto l=>exact h2.elim
  |some l=>
   simp only[wpS] at h;split at h
   ·rename_i X shape next J m inner _;obtain⟨⟨h0,hx⟩,hstep⟩:=h;refine VW.Y1 (λk s=>∃x,s=(shape x).g/\J x/\m x=k) ?_ (m (next st)) _ ⟨next st,Db h0,hx,rfl⟩;rintro k s ⟨x,rfl,hj,rfl⟩;refine(ih (hstep x hj)).mono ?_;rintro out s ⟨ss,rfl,h2⟩;cases out with
    |goto l'=>
     obtain⟨rfl,h3,h4,h5⟩:=h2;refine .inl ⟨rfl,_,h5,_,?_,h4,rfl⟩;have h6:=Db h3;rw[<-h6,Ht,show(shape x).o.length=(shape x).g.o.length from by simp[cy.g,od]];|norm=>exact .inr ⟨by simp,ss,rfl,h2⟩;|exit id=>exact .inr ⟨by simp,ss,rfl,h2⟩;|ret=>exact .inr ⟨by simp,ss,rfl,h2⟩
   ·exact h.elim
 |region id draw k ops kz live pre post=>
  intro Λ st Q h;simp only[wpS] at h;obtain⟨st0,h0,h⟩:=ZF h;obtain⟨st1,h1,h2⟩:=Hr h;obtain⟨st2,h3,h4⟩:=ZB hC h2;obtain⟨GN,h5,h6⟩:=Hr h4;refine VW.region ?_;rw[<-h0,h1,h3];refine⟨GN,?_,h6⟩;rw[<-h5];simp only[cy.g,ZE];|tC g caps d a b _ _=>intro Λ st Q h;exact h.elim;|seq a b iha ihb=>
  intro Λ st Q h;simp only[wpS] at h;refine VW.seq ((iha h).mono ?_);rintro out s ⟨ss,rfl,h2⟩;cases out with
  |norm=>rw[if_pos rfl];exact ihb h2;|exit id=>rw[if_neg (by simp)];exact⟨ss,rfl,h2⟩;|ret=>rw[if_neg (by simp)];exact⟨ss,rfl,h2⟩;|goto l=>rw[if_neg (by simp)];exact⟨ss,rfl,h2⟩
 |cond x a b iha ihb=>
  intro Λ st Q h;simp only[wpS] at h;have hx:eJ st.g.env x=(jI st.env x).g:=zM _ _;have hdr:(cy.mk (xB x st.env) st.o).g=⟨pD x st.g.env,st.g.o⟩:=by
   have:∀(t:Nat) (env:fE),(zK t env).map (λp=>(p.1,p.2.g))=rc t (env.map λp=>(p.1,p.2.g)):=by
    intro t env;induction env with
    |nil=>rfl;|cons p env ih=>
     simp only[zK,rc,π];cases δq p.1 t with
     |true=>simpa using ih;|false=>simpa using ih
   cases x with
   |tmp t=>simp only[cy.g,gE,xB,pD];rw[this];|_=>rfl
  split at h
  ·rename_i he;rw[he] at hx;exact VW.cond hx (by rw[if_pos rfl,<-hdr];exact iha h)
  ·rename_i he;rw[he] at hx;exact VW.cond hx (by rw[if_neg (by simp),<-hdr];exact ihb h)
  ·rename_i c he;rw[he] at hx;refine VW.cond hx ?_;cases c with
   |true=>rw[if_pos rfl,<-hdr];exact iha (h.1 rfl);|false=>rw[if_neg (by simp),<-hdr];exact ihb (h.2 rfl)
  ·exact h.elim;|block id b ih=>
  intro Λ st Q h;simp only[wpS] at h;exact VW.block ((ih h).mono λout s ⟨ss,e,h2⟩=>⟨ss,e,h2⟩);|loop b ih=>
  intro Λ st Q h;simp only[wpS] at h;split at h
  ·rename_i n ZG;clear ZG;induction n generalizing st with
   |zero=>exact h.elim;|succ n ihn=>
    simp only[GM] at h;refine VW.loop ((ih h).mono ?_);rintro out s ⟨ss,rfl,h2⟩;cases out with
    |norm=>
     rw[if_pos rfl];have:=ihn h2;rwa [Ht,show st.o.length=st.g.o.length from by simp[cy.g,od]] at this;|exit id=>rw[if_neg (by simp)];exact⟨ss,rfl,h2⟩;|ret=>rw[if_neg (by simp)];exact⟨ss,rfl,h2⟩;|goto l=>rw[if_neg (by simp)];exact⟨ss,rfl,h2⟩
  ·exact h.elim
  ·rename_i X shape next J m inner _;obtain⟨⟨h0,hx⟩,hstep⟩:=h;refine VW.YZ (λk s=>∃x,s=(shape x).g/\J x/\m x=k) ?_ (m (next st)) _ ⟨next st,Db h0,hx,rfl⟩;rintro k s ⟨x,rfl,hj,rfl⟩;refine(ih (hstep x hj)).mono ?_;rintro out s ⟨ss,rfl,h2⟩;cases out with
   |norm=>
    rw[if_pos rfl];obtain⟨h3,h4,h5⟩:=h2;refine⟨_,h5,_,?_,h4,rfl⟩;have h6:=Db h3;rw[<-h6,Ht,show(shape x).o.length=(shape x).g.o.length from by simp[cy.g,od]];|exit id=>rw[if_neg (by simp)];exact⟨ss,rfl,h2⟩;|ret=>rw[if_neg (by simp)];exact⟨ss,rfl,h2⟩;|goto l=>rw[if_neg (by simp)];exact⟨ss,rfl,h2⟩
theorem PG {st:cy}:∀{a:List mZ} {K:List SV->Prop},oa.goK st a K->∃l,a.mapM (q9 st.g)=some (gL l)/\K l
 |[],K,h=>⟨[],by simp[gL],h⟩
 |r::a,K,h=>by
  simp only[oa.goK] at h;have b:∃v,q9 st.g r=some v.g/\oa.goK st a λl=>K (v::l):=by
   unfold oa.OM at h;unfold q9;split at h
   ·rename_i c;rw[c];exact⟨_,by grind[cy.g,ob],h⟩
   grind[OX,cy.g,ob]
  obtain⟨v,i,d⟩:=b;obtain⟨l,f,e⟩:=PG d;exact⟨v::l,by simp_all[gL],e⟩
theorem xH {st:cy} {b:List mZ} {K:SV->Prop} (h:oa st b K):∃r,nS st.g b=some r.g/\K r:=by
 unfold oa at h;obtain⟨l,c,a⟩:=PG h;unfold nS;rw[c];match l,a with
 |[],a=>exact⟨_,rfl,a⟩;|[v],a=>exact⟨v,rfl,a⟩;|v::w::l,a=>exact⟨_,rfl,a⟩
theorem vK:∀(i:Nat) (args:List SV),gE (nj i args)=iw i (gL args)
 |_,[]=>rfl
 |i,v::a=>by
  have:=vK (i+1) a;grind[gE,nj,gL,iw]
theorem Hu {Λ:Nat->cF} {P:Program} (hT:kD P T) (hC:pL T.K p.C) (hI:∀f F,p.it f=some F->T.fn f=some F) {f:FuncId} {F:fA} (hF:T.fn f=some F) {args:List SV} {r:AV} (hK:T.K f (gL args) [] false=none) (hlen:args.length=F.params)
  {Q:SV->Prop} (hQ:∀v,Q v->v.g=r) (h:uf p Λ F args Q):gW P f=true/\kC P f (gL args) [] r []:=by
 unfold uf at h;have hw:=vJ hC hI h;have hst:(cy.mk (nj 0 args) []).g=⟨iw 0 (gL args),[]⟩:=by simp[cy.g,vK,gO]
 rw[hst] at hw;obtain⟨h1,h2,_⟩:=CL hT hF (o:=[]) (own:=false) hK (by rw[jU];exact hlen) (v:=r) (o':=[]) (hw.mono λout s hs=>by
  obtain⟨ss,rfl,hq⟩:=hs;cases out with
  |exit id=>exact hq.elim;|goto l=>exact hq.elim;|norm=>
   obtain⟨r0,h1,h2⟩:=xH hq;obtain⟨v,h3,h4⟩:=G3 h2;refine⟨.inl rfl,?_⟩;rw[h1];show finish false 0 r0.g ss.g.o=_;have:freeze ss.g.o 6 r0.g=some v.g:=h3;simp[finish,this,hQ _ h4];|ret=>
   obtain⟨r0,h1,h2⟩:=xH hq;obtain⟨v,h3,h4⟩:=G3 h2;refine⟨.inr rfl,?_⟩;rw[h1];show finish false 0 r0.g ss.g.o=_;have:freeze ss.g.o 6 r0.g=some v.g:=h3;simp[finish,this,hQ _ h4]);exact⟨h1,h2⟩
end
structure qx (α:Type) where
 put:α->SV
 dec:SV->Option α
 ok:∀v a,dec v=some a->v.g=(put a).g
 inj:∀a b,(put a).g=(put b).g->a=b
structure qy (α:Type) where
 put:α->List SV
 dec:List SV->Option α
 ok:∀v a,dec v=some a->gL v=gL (put a)
 inj:∀a b,gL (put a)=gL (put b)->a=b
def qy.one {d:Type} (c:qx d):qy d where
 put a:=[c.put a];dec
  |[v]=>c.dec v
  |_=>none;ok v a h:=by
  match v,h with
  |[v],h=>simp only[gL,c.ok v a h]
 inj a b h:=by
  simp only[gL,Θ,and_true] at h;exact c.inj a b h
def qy.cons {f g:Type} (c:qx f) (d:qy g):qy (f×g) where
 put a:=c.put a.1::d.put a.2;dec
  |v::e=>match c.dec v,d.dec e with
   |some a,some b=>some (a,b)
   |_,_=>none
  |[]=>none;ok v a h:=by
  match v,h with
  |v::e,h=>
   simp only at h;split at h
   ·rename_i x y j i;simp only[γ] at h;subst h;simp only[gL,c.ok v x j,d.ok e y i]
   ·cases h
 inj a b h:=by
  simp only[gL,Θ] at h;exact Prod.ext (c.inj _ _ h.1) (d.inj _ _ h.2)
def qy.nil:qy Unit where
 put _:=[];dec
  |[]=>some ()
  |_=>none;ok v a h:=by
  grind
 inj a b h:=rfl
structure bM where
 f:FuncId
 α:Type
 A:qy α
 dom:α->Prop
 res:α->SV
def Holds (P:Program) (c:bM):Prop:=∀a,c.dom a->gW P c.f=true/\kC P c.f (gL (c.A.put a)) [] (c.res a).G []
def pM (f:FuncId):List bM->Option bM
 |[]=>none
 |c::r=>bif δq c.f f then some c else pM f r
def vM (L:List bM) (f:FuncId) (args:List SV) (K:SV->Prop):Prop:=
 match pM f L with
 |some c=>i7 (c.A.dec args) λa=>c.dom a/\CW (c.res a) K
 |none=>False
structure np where
 K:FuncId->List AV->Store->Option (AV×Store)
 C:FuncId->List SV->bZ->(SV->bZ->Prop)->Prop
def np.none:np:=⟨λ_ _ _=> .none,λ_ _ _ _=>False⟩
noncomputable def sH (L:List bM) (W:np):dh:=λf args o own=>
 if own then W.K f args o
 else match o with
  |[]=>match pM f L with
   |some c=>(ans (λa=>gL (c.A.put a)) c.dom (λa=>(c.res a).G) args).map λv=>(v,[])
   |none=> .none
  |_=> .none
noncomputable def qA (a:FuncId->Option fA) (L:List bM) (W:np):Tab:=⟨a,sH L W⟩
structure qB (P:Program) (W:np):Prop where
 K:∀f args o r o',W.K f args o=some (r,o')->gW P f=true/\kC P f args o r o'
 C:∀(call:dh),(∀f args o,call f args o true=W.K f args o)->∀f args o K,W.C f args o K->∃(r:SV) (o':bZ),iM call f (gL args) (gO o)=some (r.g,gO o')/\K r o'
theorem qB.none (P:Program):qB P np.none where
 K:=λ_ _ _ _ _ h=>by cases h
 C:=λ_ _ _ _ _ _ h=>h.elim
theorem PH:∀{L:List bM} {f:FuncId} {c:bM},pM f L=some c->c.f=f/\c∈L
 |[],_,_,h=>by cases h;|d::L,f,c,h=>by
  simp only[pM] at h;cases a:δq d.f f with
  |true=>
   simp_all;|false=>
   rw[a] at h;simp only[cond_false] at h;obtain⟨b,e⟩:=PH h;simp_all
theorem Hv:∀{v:SV} {K:SV->Prop},CW v K->∃w:SV,w.g=v.G/\K w
 | .ite c a b,K,h=>by
  cases c with
  |true=>exact Hv (v:=a) (h.1 rfl);|false=>exact Hv (v:=b) (h.2 rfl)
 | .ud,_,h| .sc _,_,h| .il _ _,_,h| .si _ _,_,h| .bl _,_,h| .sb _,_,h| .agg _,_,h| .bI _,_,h| .row _ _,_,h| .ep _ _ _ _,_,h| .ptr _ _ _,_,h| .ap _ _ _ _ _ _,_,h| .rp _ _ _ _ _,_,h| .ow _ _ _,_,h| .os _ _ _ _ _,_,h| .oc _ _ _ _ _,_,h| .mp _,_,h| .fn _ _ _,_,h| .ia _ _,_,h=>⟨_,rfl,h⟩
theorem zV:∀{w v:SV},v.sE w->v.g=w.G
 | .ite c a b,v,h=>by
  cases c with
  |true=>exact zV (w:=a) (h.1 rfl);|false=>exact zV (w:=b) (h.2 rfl)
 | .ud,_,h| .sc _,_,h| .il _ _,_,h| .si _ _,_,h| .bl _,_,h| .sb _,_,h| .agg _,_,h| .bI _,_,h| .row _ _,_,h| .ep _ _ _ _,_,h| .ptr _ _ _,_,h| .ap _ _ _ _ _ _,_,h| .rp _ _ _ _ _,_,h| .ow _ _ _,_,h| .os _ _ _ _ _,_,h| .oc _ _ _ _ _,_,h| .mp _,_,h| .fn _ _ _,_,h| .ia _ _,_,h=>h
variable {P:Program} {L:List bM} {W:np} {fn:FuncId->Option fA}
theorem vN (j:qB P W) (k:∀c∈L,Holds P c) (n:kD P ⟨fn,λ_ _ _ _=>none⟩):kD P (qA fn L W) where
 fn:=n.fn;K:=λg e o b r q h=>by
  simp only[qA,sH] at h;cases b with
  |true=>
   simp only[if_true] at h;obtain⟨p,d⟩:=j.K _ _ _ _ _ h;simp_all;|false=>
   simp only[χ,if_false] at h;split at h
   ·split at h
    ·rename_i c l;obtain⟨rfl,f⟩:=PH l;obtain⟨v,m,d⟩:=ε.1 h;simp only[Prod.mk.injEq] at d;obtain⟨rfl,rfl⟩:=d;obtain⟨a,rfl,i,rfl⟩:=Y3 m;obtain⟨t,s⟩:=k c f a i;simp_all
    ·cases h
   ·cases h
theorem vO (hW:qB P W):pL (qA fn L W).K ⟨vM L,W.C⟩ where
 pure:=λf args K h=>by
  simp only[vM] at h;split at h
  ·rename_i c hc;obtain⟨a,h1,h2,h3⟩:=jo h;obtain⟨r,h4,h5⟩:=Hv h3;refine⟨r,?_,h5⟩;have:=c.A.ok _ _ h1;simp only[qA,sH,χ,if_false,hc,this];rw[Y2 (enc:=λa=>gL (c.A.put a)) c.A.inj h2,h4];rfl
  ·exact h.elim
 own:=λf args o K h=>hW.C _ (λf args o=>by simp[qA,sH]) f args o K h
theorem Hw {f:FuncId} {args:List AV} (h:pM f L=none):(qA fn L W).K f args [] false=none:=by
 simp[qA,sH,h]
def og (L:List bM) (W:np) (a:TypeId->Option bp) (c:List Nat×Bool->Option (bp×bp)) (b:FuncId->Option fA):i6:=⟨⟨vM L,W.C⟩,a,c,λ_=>none,b,λ_=>false⟩
theorem holds_of (c:bM) {F:fA} {ty:TypeId->Option bp} {mt:List Nat×Bool->Option (bp×bp)} {Λ:c.α->Nat->cF} (h0:kD P ⟨fn,λ_ _ _ _=>none⟩) (hW:qB P W) (hL:∀c∈L,Holds P c)
  (hF:fn c.f=some F) (hfr:pM c.f L=none) (hlen:∀a,(c.A.put a).length=F.params)
  (h:∀a,c.dom a->uf (og L W ty mt fn) (Λ a) F (c.A.put a) λv=>v.sE (c.res a)):Holds P c:=by
 intro a hd;exact Hu (p:=og L W ty mt fn) (Λ:=Λ a) (vN hW hL h0) (vO hW) (λ_ _ h=>h) hF (Hw hfr) (hlen a) (λ_ h=>zV h) (h a hd)
def Hy (L:List bM) (W:np) (a:TypeId->Option bp) (c:List Nat×Bool->Option (bp×bp)) (b:FuncId->Option fA) (d:FuncId->Bool):i6:=⟨⟨vM L,W.C⟩,a,c,λ_=>none,b,d⟩
theorem ZH (c:bM) {F:fA} {ty:TypeId->Option bp} {mt:List Nat×Bool->Option (bp×bp)} {ro:FuncId->Bool} {Λ:c.α->Nat->cF} (h0:kD P ⟨fn,λ_ _ _ _=>none⟩) (hW:qB P W) (hL:∀c∈L,Holds P c)
  (hF:fn c.f=some F) (hfr:pM c.f L=none) (hlen:∀a,(c.A.put a).length=F.params)
  (h:∀a,c.dom a->uf (Hy L W ty mt fn ro) (Λ a) F (c.A.put a) λv=>v.sE (c.res a)):Holds P c:=by
 intro a hd;exact Hu (p:=Hy L W ty mt fn ro) (Λ:=Λ a) (vN hW hL h0) (vO hW) (λ_ _ h=>h) hF (Hw hfr) (hlen a) (λ_ h=>zV h) (h a hd)
def eA (k:IntKind):qx Int where
 put n:=.si k n;dec v:=v.int k;ok v a h:=by rw[iN h];rfl
 inj a b h:=by grind[γB]
def PI:qx Bool where
 put b:=.sb b;dec v:=v.boo;ok v a h:=by rw[vu h];rfl
 inj a b h:=by grind[γB]
theorem sJ:(s:bp)->(x y:s.T)->dB s x=dB s y->(e:s.flat=true:=by rfl)->x=y
 | .i k,x,y,h,_=>by grind[dB];| .b,x,y,h,_=>by grind[dB];| .fi,⟨o,B,r,f,j,q⟩,⟨p,l,g,u,A,z⟩,h,_=>by
  simp_all[dB,iv];| .off,⟨b,⟨o,B,r,f,j,q⟩,v⟩,⟨c,⟨p,l,g,u,A,z⟩,w⟩,h,_=>by
  simp_all[dB,iv];| .need,⟨a,b⟩,⟨c,d⟩,h,_=>by
  simp_all[dB,iv];| .key,⟨b,⟨o,B,r,f,j,q⟩⟩,⟨c,⟨p,l,g,u,A,z⟩⟩,h,_=>by
  simp_all[dB,iv];| .sit,⟨m,⟨o,B,r,f,j,q⟩,⟨K,F,G,N,L,P⟩⟩,⟨n,⟨p,l,g,u,A,z⟩,⟨O,J,M,I,H,E⟩⟩,h,_=>by
  simp_all[dB,iv];| .bE _,_,_,_,e=>by grind[bp.flat];| .pair s t,(a,b),(c,d),h,e=>by
  simp only[bp.flat,θ] at e;simp only[dB] at h;obtain⟨D,C⟩:=εF h (by grind[Gw]);rw[sJ s a c D e.1,sJ t b d C e.2]
theorem Hz {d i:Type} {n:Nat} {f:d->List i} (a:∀x,(f x).length=n) (c:∀x y,f x=f y->x=y):∀{l m:List d},l.length=m.length->l.flatMap f=m.flatMap f->l=m
 |[],[],_,_=>rfl
 |[],_::_,h,_=>by simp at h;|_::_,[],h,_=>by simp at h;|x::l,y::m,b,h=>by
  simp only[δY] at h;obtain⟨e,g⟩:=εF h (by rw[a,a]);simp only[γE,ζo] at b;rw[c x y e,Hz a c b g]
theorem xI:(s:bp)->(x y:s.T)->(h:dP s x=dP s y)->x=y
 | .bE s,x,y,h=>by
  simp only[dP,Θ,AV.sl.injEq,and_true] at h;exact Hz (lS s) (xI s) h.1 h.2;| .pair s t,(a,b),(c,d),h=>by
  simp only[dP] at h;obtain⟨e,f⟩:=εF h (by grind[lS]);rw[xI s a c e,xI t b d f];| .i k,x,y,h=>sJ (.i k) x y (ui h)
 | .b,x,y,h=>sJ .b x y (ui h)
 | .fi,x,y,h=>sJ .fi x y (ui h)
 | .off,x,y,h=>sJ .off x y (ui h)
 | .need,x,y,h=>sJ .need x y (ui h)
 | .key,x,y,h=>sJ .key x y (ui h)
 | .sit,x,y,h=>sJ .sit x y (ui h)
theorem ly (s:bp) {l m:List s.T} (a:l.length=m.length) (h:cE s l=cE s m):l=m:=
 Hz (lS s) (xI s) a h
def eh (s:bp):qx s.T where
 put x:=.agg (encS s x);dec
  | .agg c=>jS s c
  |_=>none;ok v a h:=by
  grind[γB,gj,nV,tZ]
 inj a b h:=by
  grind[γB,gj,tZ,xI]
theorem o6 {s:bp} {v:SV} {l:List s.T} (h:jH s v=some l):v.g=(SV.row s l).g:=by
 cases v<;>simp only[jH,reduceCtorEq] at h;grind[zT,γB,cE]
def dM (s:bp):qx (List s.T) where
 put l:=.row s l;dec:=jH s;ok v a h:=o6 h;inj a b h:=by
  grind[γB,ly]
end Go.Vi
