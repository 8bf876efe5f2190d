/-
  The symbolic run: its operations, and what must hold for a piece of code to come to a post. Plain definitions: no proof stands here.
  Conditions: none.
-/
import Derived.Test.YtbnhiekmnpikhaaGreatDA04
set_option maxRecDepth 100000
set_option maxHeartbeats 4000000
set_option linter.all false
open And renaming intro->γj
open BitVec renaming ofInt->γn
open Bool renaming and_eq_true->θ,and_true->δT,false_eq_true->χ,or_eq_true->δn,true_eq_false->ζU
open Function renaming comp_def->δm
open Go.Vi.AV renaming sc->δg,ren->δw
open Go.Vi.AV.sc renaming injEq->δd
open Go.Vi.SV renaming g->γD
open List renaming replicate->δ,map_map->γ3,mem_map->Ψ,length_cons->γF,length->γc,drop_drop->δj,getElem?_eq_getElem->μ,take->Δ,take_of_length_le->γo,map_cons->π,take_append_drop->γM,cons_append->γH,modify_succ_cons->ζI,getElem?_eq_some_iff->ζ,map_append->γa,flatMap_nil->ζD,nil_append->δK,drop_zero->εr,map_nil->γr,take_succ_cons->δt,range->ω,range'->ζy,range'_succ->εw,range_eq_range'->δD,flatMap_cons->δZ,all_map->ζ3,map->γb,ext_getElem?->γ9,append_inj->εI
open List.cons renaming injEq->Γ
open Nat renaming beq->δs,add_assoc->ε2,mul_le_mul_right->γK,add_mul->δV,add_right_cancel_iff->ζs
open Option renaming map_eq_some_iff->ε,map_some->ξ,isSome_some->ζV,isSome_none->ζi
open Option.some renaming injEq->γ
namespace Go.Vi
abbrev fD:=List (Nat×SV)
abbrev bZ:=List bq
structure cu where
 env:fD
 o:bZ
def jX:fD->Nat->SV
 |[],_=> .ud
 |p::r,s=>bif δs p.1 s then p.2 else jX r s
def vD (env:fD) (a:Option Nat) (v:SV):fD:=
 match a with
 |none=>env
 |some d=>(d,v)::env
def SV.pd:Value->SV
 | .int k n=> .il k n
 | .bool b=> .bl b
 |v=> .sc v
def SV.uY:Value->SV
 | .agg a=>if a.toList.all (·.oneCell') then .agg (a.toList.map .pd) else .ud
 | .tuple _=> .ud
 | .int k n=> .il k n
 | .bool b=> .bl b
 |v=> .sc v
def jK (env:fD):Operand->SV
 | .tmp t=>jX env t
 | .const v=> .uY v
 | .global _=> .ud
 | .func f=> .fn (.func f) [] []
def SV.cellsOf:SV->List SV
 | .agg a=>a
 |v=>[v]
def SV.one:SV->Bool
 | .agg _| .bI _| .ud| .ite _ _ _=>false
 | .sc v=>v.oneCell'
 |_=>true
def xB (l:List SV):Bool:=l.all (·.one)
mutual
def SV.pure:SV->Bool
 | .sc _| .il .. | .si .. | .bl _| .sb _| .row .. =>true
 |_=>false
def zO:List SV->Bool
 |[]=>true
 |c::a=>c.pure&&zO a
end
mutual
def SV.bY (k:Nat):SV->Bool
 | .ud| .sc _| .il .. | .si .. | .bl _| .sb _| .row .. | .ep .. =>true
 | .agg e| .bI e=>sG k e
 | .ptr d .. | .ap d .. | .rp d .. | .ow d .. | .os d .. | .oc d .. | .mp d=>decide (d<k)
 | .fn _ a b=>sG k a&&sG k b
 | .ia _ _| .ite _ _ _=>true
def sG (k:Nat):List SV->Bool
 |[]=>true
 |c::e=>c.bY k&&sG k e
end
def bq.bY (k:Nat):bq->Bool
 | .cells b _ _ a=>a||sG k b
 | .o8 _ _ _ t=>sG k t
 |_=>true
mutual
def SV.kZ:SV->Bool
 | .ud| .sc _| .il .. | .si .. | .bl _| .sb _=>true
 | .agg a| .bI a=>C0 a
 |_=>false
def C0:List SV->Bool
 |[]=>true
 |c::a=>c.kZ&&C0 a
end
def cq (k:IntKind) (n:Int):Prop:=
 match k with
 | .i64=> -9223372036854775808<=n/\n<=9223372036854775807
 |k=>k.wrap n=n
def vE (k:IntKind) (n:Int) (K:Int->Prop):Prop:=
 match k with
 | .u32=>K (n % 4294967296)
 | .u64=>K (n % 18446744073709551616)
 |k=>cq k n/\K n
structure OY where
 pure:FuncId->List SV->(SV->Prop)->Prop
 own:FuncId->List SV->bZ->(SV->bZ->Prop)->Prop
structure i7 where
 C:OY
 ty:TypeId->Option bp
 mt:List Nat×Bool->Option (bp×bp)
 sp:Nat->Option (Nat×Nat×Nat):=λ_=>none
 it:FuncId->Option fz:=λ_=>none
 ro:FuncId->Bool:=λ_=>false
def sH (cs:List SV) (a:Nat):Option Nat->Option SV
 |none=>cs[a]?
 |some n=>if a+n<=cs.length then some (.agg ((cs.drop a).take n)) else none
def uf (cs:List SV) (a:Nat):List SV->List SV
 |[]=>cs
 |v::b=>uf (cs.set a v) (a+1) b
def ja {b:Type} (x:Option b) (K:b->Prop):Prop:=match x with|some a=>K a|none=>False
def vF {b:Type} (f:SV->(b->Prop)->Prop):List SV->(List b->Prop)->Prop
 |[],K=>K []
 |v::c,K=>f v λa=>vF f c λd=>K (a::d)
def rC (o:bZ):Nat->SV->(SV->Prop)->Prop
 |_,.ud,K=>K .ud
 |_,.sc v,K=>match v with
  | .slice none 0 0=>K (.row (.i .i64) [])
  |v=>K (.sc v)
 |_,.il k n,K=>K (.il k n)
 |_,.si k n,K=>K (.si k n)
 |_,.bl b,K=>K (.bl b)
 |_,.sb b,K=>K (.sb b)
 |_,.row s l,K=>K (.row s l)
 |_,.ia t cs,K=>K (.ia t cs)
 |d+1,.agg cs,K=>vF (rC o d) cs λcs'=>K (.agg cs')
 |d+1,.bI cs,K=>vF (rC o d) cs λcs'=>K (.bI cs')
 |d+1,.fn f a b,K=>vF (rC o d) a λa'=>vF (rC o d) b λb'=>K (.fn f a' b')
 |_+1,.ow id n sz,K=>match o[id]? with
  |some (.row s l _ _)=>if sz=s.sz then n=l.length/\K (.row s l) else False
  |_=>False
 |_+1,.os id off len n sz,K=>match o[id]? with
  |some (.row s l _ _)=>if sz=s.sz then n=l.length/\off+len<=n/\K (.row s ((l.drop off).take len)) else False
  |_=>False
 |_,_,_=>False
def mK (o:bZ) (a:SV) (n:Option Nat) (K:SV->Prop):Prop:=
 match a with
 | .ptr h b d=>match o[h]? with
  |some (.cells c _ _ _)=>if c.length=d then ja (sH c b n) K else False
  |_=>False
 | .ap h e g f d i=>match o[h]? with
  |some (.cells c _ _ _)=>if c.length=d/\e+g*f<=d then i<f/\zP ((c.drop e).take (g*f)) g i n K else False
  |_=>False
 | .ep s l i b=>i<l.length/\ja (sH (encS s (bj l i s.dflt)) b n) K
 | .rp h i b m g=>match o[h]? with
  |some (.row s l _ _)=>if g=s.sz then m=l.length/\i<l.length/\ja (sH (encS s (bj l i s.dflt)) b n) K else False
  |_=>False
 |_=>False
where
 zP (c:List SV) (g i:Nat) (n:Option Nat) (K:SV->Prop):Prop:=
  match n,g with
  |none,1=>match ints c with
   |some l=>K (.si .i64 (bj l i 0))
   |none=>match rowsOff c with
    |some l=>K (.row .off (bj l i []))
    |none=>False
  |_,_=>False;rowsOff:List SV->Option (List (List Off))
  |[]=>some []
  | .row .off l::c=>(rowsOff c).map (l::·)
  |_=>none
def mkK (bB:Nat) (x:bq) (o:bZ) (K:bZ->Prop):Prop:=
 match o[bB]? with
 |some .dead=>K (o.set bB x)
 |_=>False
def sJ (a:List (Nat×Nat×SV)) (cs:List SV):Option (List SV):=
 match a with
 |[]=>some cs
 |(b,n,v)::c=>
  if v.cellsOf.length=n/\xB v.cellsOf=true/\b+n<=cs.length then sJ c (uf cs b v.cellsOf) else none
def ug (s:bp):Nat->List SV->Option (List s.T)
 |0,[]=>some []
 |n+1,a=>match jW s (a.take s.sz),ug s n (a.drop s.sz) with
  |some x,some l=>some (x::l)
  |_,_=>none
 |_,_=>none
def vG (o:bZ) (s:bp) (x:SV) (K:List s.T->Prop):Prop:=
 match x with
 | .row a l=>ja (iH a s l) K
 | .ow d n e=>match o[d]? with
  |some (.row a l _ _)=>if e=a.sz then n=l.length/\ja (iH a s l) K else False
  |_=>False
 | .os d c b n e=>match o[d]? with
  |some (.row a l _ _)=>if e=a.sz then n=l.length/\c+b<=n/\ja (iH a s ((l.drop c).take b)) K else False
  |_=>False
 | .sc (.slice none 0 0)=>K []
 |_=>False
def OZ (o:bZ):SV->Option (List SV)
 | .ow j 1 a=>match o[j]? with
  |some (.o8 s [] _ t)=>if s.sz=a then some t else none
  |_=>none
 |_=>none
def SV.O0:SV->Bool
 | .ow .. =>true
 |_=>false
def zQ:SV->Option Int
 | .si _ n=>some n
 | .il _ n=>some n
 |_=>none
def isNil:SV->Bool
 | .sc (.slice none 0 0)=>true
 |_=>false
def gY (e:BinOp) (x y:SV) (K:SV->Prop):Prop:=
 match x,y with
 | .il k a,.il d b=>match gV e (.int k a) (.int d b) with
  |some (.int k n)=>K (.il k n)
  |some (.bool c)=>K (.bl c)
  |_=>False
 | .si k a,.si d b=>go k a d b
 | .il k a,.si d b=>go k a d b
 | .si k a,.il d b=>go k a d b
 | .sc (.string a),.sc (.string b)=>match e with
  | .eql=>K (.sb (a.toList==b.toList))
  | .neq=>K (.sb (!(a.toList==b.toList)))
  |_=>False
 |_,_=>False
where
 go (k:IntKind) (a:Int) (d:IntKind) (b:Int):Prop:=
  match e with
  | .shl=>0<=b/\b<=k.bits/\vE k (a*2^b.toNat) λn=>K (.si k n)
  | .shr=>0<=b/\b<=k.bits/\K (.si k (a / 2^b.toNat))
  | .add=>if k=d then vE k (a+b) λn=>K (.si k n) else False
  | .sub=>if k=d then vE k (a - b) λn=>K (.si k n) else False
  | .mul=>if k=d then vE k (a*b) λn=>K (.si k n) else False
  | .quo=>if k=d then b≠0/\cq k (a.tdiv b)/\K (.si k (a.tdiv b)) else False
  | .rem=>if k=d then b≠0/\K (.si k (a.tmod b)) else False
  | .and=>if k=d then K (.si k (vH k a b)) else False
  | .or=>if k=d then K (.si k (nZ k a b)) else False
  | .xor=>if k=d then K (.si k (GN k a b)) else False
  | .andNot=>if k=d then K (.si k (C2 k a b)) else False
  | .eql=>if k=d then K (.sb (decide (a=b))) else False
  | .neq=>if k=d then K (.sb (decide (a≠b))) else False
  | .lss=>if k=d then K (.sb (decide (a<b))) else False
  | .leq=>if k=d then K (.sb (decide (a<=b))) else False
  | .gtr=>if k=d then K (.sb (decide (b<a))) else False
  | .geq=>if k=d then K (.sb (decide (b<=a))) else False;vH (k:IntKind) (a b:Int):Int:=eX k (γn k.bits a &&&γn k.bits b).toNat;nZ (k:IntKind) (a b:Int):Int:=eX k (γn k.bits a |||γn k.bits b).toNat;GN (k:IntKind) (a b:Int):Int:=eX k (γn k.bits a ^^^γn k.bits b).toNat;C2 (k:IntKind) (a b:Int):Int:=eX k (γn k.bits a &&&~~~(γn k.bits b)).toNat
def GQ:SV->SV->Option Bool
 | .si k a,y=>(y.int k).map λb=>decide (a=b)
 | .il k a,y=>(y.int k).map λb=>decide (a=b)
 | .sb a,y=>y.boo.map λb=>a==b
 | .bl a,y=>y.boo.map λb=>a==b
 |_,_=>none
def uh:List SV->List SV->Option Bool
 |[],[]=>some true
 |x::d,y::c=>match GQ x y,uh d c with
  |some a,some b=>some (a&&b)
  |_,_=>none
 |_,_=>none
def lz:List Nat->List SV->Bool
 |[],[]=>true
 |0::a,.si _ _::b=>lz a b
 |0::a,.il _ _::b=>lz a b
 |1::a,.sb _::b=>lz a b
 |1::a,.bl _::b=>lz a b
 |_,_=>false
def oa (a sv:bp) (x:a.T) (es:List (a.T×sv.T)):Option sv.T:=(es.find? λp=>decide (p.1=x)).map (·.2)
def sK (a sv:bp) (x:a.T) (v:sv.T):List (a.T×sv.T)->List (a.T×sv.T)
 |[]=>[(x,v)]
 |p::r=>if p.1=x then(x,v)::r else p::sK a sv x v r
def vI (a:Bool):SV->Bool
 | .agg _=>a
 |_=>!a
def bp.keyed:bp->Bool
 | .key| .sit| .i _=>true
 |_=>false
def ob (d:Nat):Option SV->(Nat->Prop)->Prop
 |none,K=>K d
 |some (.il _ n),K=>if 0<=n then K n.toNat else False
 |some (.si _ n),K=>0<=n/\K n.toNat
 |_,_=>False
def ui:List Int->Nat->Int->Nat->List Int
 |[],_,_,_=>[]
 |a::l,i,v,j=>(if i=j then v else a)::ui l i v (j+1)
def C4:SV->(SV->Prop)->Prop
 | .ite c a b,K=>(c=true->C4 a K)/\(c=false->C4 b K)
 |v,K=>K v
def SV.G:SV->AV
 | .ite c a b=>match c with
  |true=>a.G
  |false=>b.G
 |v=>v.g
def eO (p:i7) (op:cJ) (ρ:Operand->SV) (o:bZ) (bB:Nat) (K:SV->bZ->Prop):Prop:=
 match op with
 | .uZ x=>K (ρ x) o
 | .pick c a b=>match ρ c with
  | .bl true=>K (ρ a) o
  | .bl false=>K (ρ b) o
  | .sb c=>(c=true->K (ρ a) o)/\(c=false->K (ρ b) o)
  |_=>False
 | .alloc z e pu=>mkK bB (.cells (z.map .pd) e z.length pu) o λo'=>K (.ptr bB 0 z.length) o'
 | .box e x=>if xB (ρ x).cellsOf then mkK bB (.cells (ρ x).cellsOf e (ρ x).cellsOf.length false) o λo'=>K (.ptr bB 0 (ρ x).cellsOf.length) o' else False
 | .build z parts=>ja (sJ (parts.map λq=>(q.1,q.2.1,ρ q.2.2)) (z.map .pd)) λcs=>K (.agg cs) o
 | .pF z len parts e sz=>match p.ty e,sJ (parts.map λq=>(q.1,sz,ρ q.2)) ((δ len (z.map SV.pd)).flatten) with
  |some s,some cs=>if s.sz=sz then(if cs.any SV.O0 then(if cs.length=len*sz then mkK bB (.o8 s [] e cs) o λo'=>K (.ow bB len sz) o' else False) else ja (ug s len (cs.map SV.qn)) λl=>mkK bB (.row s l e true) o λo'=>K (.ow bB len sz) o') else False
  |_,_=>False
 | .tH z len parts e sz=>match p.ty e,sJ (parts.map λq=>(q.1,sz,ρ q.2)) ((δ len (z.map SV.pd)).flatten) with
  |some s,some cs=>if s.sz=sz then ja (ug s len (cs.map SV.qn)) λl=>K (.row s l) o else False
  |_,_=>False
 | .load n a=>mK o (ρ a) n λv=>K v o
 | .store n a x=>match ρ a with
  | .ptr id off tot=>match o[id]? with
   |some (.cells cs e sz pu)=>
    if cs.length=tot/\(ρ x).cellsOf.length=n/\xB (ρ x).cellsOf=true/\off+n<=cs.length/\(pu=false\/zO (ρ x).cellsOf=true) then K .ud (o.set id (.cells (uf cs off (if pu then(ρ x).cellsOf.map SV.qn else(ρ x).cellsOf)) e sz pu)) else False
   |_=>False
  | .rp id i off m sz=>match o[id]? with
   |some (.row s l e pu)=>
    if sz=s.sz/\(ρ x).cellsOf.length=n/\off+n<=s.sz then m=l.length/\i<l.length/\ja (jW s (uf (encS s (bj l i s.dflt)) off (if pu then(ρ x).cellsOf.map SV.qn else(ρ x).cellsOf))) λv=>K .ud (o.set id (.row s (l.set i v) e pu)) else False
   |_=>False
  | .ap id base sz len tot i=>match o[id]? with
   |some (.cells cs e sz' pu)=>match n,sz,(ρ x).int .i64 with
    |1,1,some v=>match ints ((cs.drop base).take len) with
     |some l=>if cs.length=tot/\base+len<=tot then i<len/\K .ud (o.set id (.cells (uf cs base ((ui l i v 0).map (SV.si .i64))) e sz' pu)) else False
     |none=>False
    |_,_,_=>False
   |_=>False
  |_=>False
 | .u7 x=>match ρ x with
  | .ptr a b c=>K (.ptr a b c) o
  | .rp a b c d e=>K (.rp a b c d e) o
  | .ep s l i f=>K (.ep s l i f) o
  |_=>False
 | .bin op x y=>gY op (ρ x) (ρ y) λv=>K v o
 | .beq neg x y=>match(ρ x).boo,(ρ y).boo with
  |some a,some b=>K (.sb (if neg then !(a==b) else a==b)) o
  |_,_=>False
 | .su neg ks x y=>match ρ x,ρ y with
  | .agg a,.agg b=>if lz ks a&&lz ks b then ja (uh a b) λr=>K (.sb (if neg then !r else r)) o else False
  |_,_=>False
 | .tJ neg x y=>match ρ x,ρ y with
  | .ptr _ _ _,.sc (.pointer none)=>K (.bl neg) o
  | .sc (.pointer none),.sc (.pointer none)=>K (.bl !neg) o
  |_,_=>False
 | .un op x=>match op,ρ x with
  | .not,.sb b=>K (.sb !b) o
  | .not,.bl b=>K (.bl !b) o
  | .neg,.si k n=>cq k (-n)/\K (.si k (-n)) o
  | .neg,.il k n=>K (.il k (eX k (0 - n))) o
  |_,_=>False
 | .conv k x=>match ρ x with
  | .il _ n=>K (.il k (eX k n)) o
  | .si .i64 n=>cq k n/\K (.si k n) o
  | .si _ n=>vE k n λm=>K (.si k m) o
  |_=>False
 | .vd off x=>match ρ x with
  | .ptr id b tot=>K (.ptr id (b+off) tot) o
  | .ep s l i b=>K (.ep s l i (b+off)) o
  | .rp id i b m sz=>K (.rp id i (b+off) m sz) o
  |_=>False
 | .field off n x=>match ρ x with
  | .agg cs=>ja (sH cs off n) λv=>K v o
  |_=>False
 | .ve len sz x i=>match ρ i with
  | .il _ n=>if 0<=n/\n<len then(match ρ x with
   | .ptr id b tot=>K (.ptr id (b+n.toNat*sz) tot) o
   | .ep s l j b=>K (.ep s l j (b+n.toNat*sz)) o
   | .rp id j b m sz'=>K (.rp id j (b+n.toNat*sz) m sz') o
   |_=>False) else False
  | .si _ n=>match ρ x with
   | .ptr id b tot=>0<=n/\n<len/\K (.ap id b sz len tot n.toNat) o
   |_=>False
  |_=>False
 | .sw sz x i=>match zQ (ρ i) with
  |some n=>match ρ x with
   | .row s l=>if sz=s.sz then 0<=n/\n<l.length/\K (.ep s l n.toNat 0) o else False
   | .ow id m sz'=>match o[id]? with
    |some (.row s l _ _)=>if sz=s.sz/\sz'=s.sz then m=l.length/\0<=n/\n<l.length/\K (.rp id n.toNat 0 m sz) o else False
    |_=>False
   | .os id off len m sz'=>match o[id]? with
    |some (.row s l _ _)=>if sz=s.sz/\sz'=s.sz then m=l.length/\0<=n/\n<len/\off+len<=m/\K (.rp id (off+n.toNat) 0 m sz) o else False
    |_=>False
   | .oc id off len m sz'=>match o[id]? with
    |some (.row s l _ _)=>if sz=s.sz/\sz'=s.sz then m=l.length/\0<=n/\n<len/\off+len<=m/\K (.rp id (off+n.toNat) 0 m sz) o else False
    |_=>False
   |_=>False
  |none=>False
 | .idx len sz n x i=>match ρ i,ρ x with
  | .il _ k,.agg cs=>if 0<=k/\k<len then ja (sH cs (k.toNat*sz) n) λv=>K v o else False
  | .si _ k,.agg cs=>match n,sz,ints cs with
   |none,1,some l=>if l.length=len then 0<=k/\k<len/\K (.si .i64 (bj l k.toNat 0)) o else False
   |_,_,_=>False
  |_,_=>False
 | .qf z e sz bytes l c pu=>match zQ (ρ l),zQ (ρ c),p.ty e with
  |some n,some m,some s=>if s.sz=sz then ja (jW s (if pu then(z.map SV.pd).map SV.qn else z.map .pd)) λx=>0<=n/\n<=m/\m*bytes<=140737488355328/\m<=1000000000000/\
    mkK bB (.row s (δ n.toNat x) e pu) o λo'=>K (.ow bB n.toNat sz) o' else False
  |_,_,_=>False
 | .slice sz x lo hi=>match ρ x with
  | .row s l=>if sz=s.sz then ob 0 (lo.map ρ) λa=>ob l.length (hi.map ρ) λb=>a<=b/\b<=l.length/\K (.row s ((l.drop a).take (b - a))) o else False
  | .ow id m sz'=>match o[id]? with
   |some (.row s l _ _)=>if sz=s.sz/\sz'=s.sz then m=l.length/\ob 0 (lo.map ρ) λa=>ob m (hi.map ρ) λb=>a<=b/\b<=m/\K (.os id a (b - a) m sz) o else False
   |_=>False
  | .os id off len m sz'=>match o[id]? with
   |some (.row s l _ _)=>if sz=s.sz/\sz'=s.sz then m=l.length/\ob 0 (lo.map ρ) λa=>ob len (hi.map ρ) λb=>a<=b/\b<=len/\K (.os id (off+a) (b - a) m sz) o else False
   |_=>False
  |_=>False
 | .slice3 sz x lo hi mx=>match ρ x with
  | .row s l=>if sz=s.sz then ob 0 (lo.map ρ) λa=>ob l.length (some (ρ hi)) λb=>ob l.length (some (ρ mx)) λm=>a<=b/\b<=m/\m<=l.length/\K (.row s ((l.drop a).take (b - a))) o else False
  | .ow id n sz'=>match o[id]? with
   |some (.row s l _ _)=>if sz=s.sz/\sz'=s.sz then n=l.length/\ob 0 (lo.map ρ) λa=>ob n (some (ρ hi)) λb=>ob n (some (ρ mx)) λm=>a<=b/\b<=m/\m<=n/\K (.oc id a (b - a) n sz) o else False
   |_=>False
  |_=>False
 | .append e sz bytes s x pu=>match p.ty e,OZ o (ρ x) with
  |some t,some tl=>match ρ s,ρ x with
   | .ow id n sz',.ow _ _ Zk=>match o[id]? with
    |some (.row t' l e' GR)=>if e'=e/\t'.sz=sz/\sz'=sz/\Zk=sz/\t.sz=sz/\GR=false/\tl.length=sz/\xB tl=true then n=l.length/\(l.length+1)*bytes<=140737488355328/\l.length+1<=1000000000000/\
      K (.ow id (l.length+1) sz) (o.set id (.o8 t' l e tl)) else False
    |_=>False
   |_,_=>False
  |some t,none=>if t.sz=sz then vG o t (ρ x) λnew=>match ρ s with
    | .sc (.slice none 0 0)=>(new.length=0->K (.sc zk) o)/\(new.length≠0->new.length*bytes<=140737488355328/\new.length<=1000000000000/\mkK bB (.row t new e pu) o λo'=>K (.ow bB new.length sz) o')
    | .ow id n sz'=>match o[id]? with
     |some (.row t' l e' GR)=>if e'=e/\t'.sz=sz/\sz'=sz then n=l.length/\(l.length+new.length)*bytes<=140737488355328/\l.length+new.length<=1000000000000/\
       ja (iH t' t l) λl'=>K (.ow id (l'++new).length sz) (o.set id (.row t (l'++new) e GR)) else False
     |_=>False
    | .row t' l=>new.length=0/\K (.row t' l) o
    |_=>False
   else False
  |none,_=>False
 | .len k x=>match k,ρ x with
  |0,.row _ l=>K (.si .i64 l.length) o
  |0,.ow _ n _=>K (.si .i64 n) o
  |0,.os _ _ len _ _=>K (.si .i64 len) o
  |0,.oc _ _ len _ _=>K (.si .i64 len) o
  |0,.sc (.slice none 0 0)=>K (.il .i64 0) o
  |1,.sc (.string s)=>K (.si .i64 s.size) o
  |2,.mp id=>match o[id]? with
   |some (.map _ _ _ es _ _)=>K (.si .i64 es.length) o
   |_=>False
  |_,_=>False
 | .vg n=>K (.il .i64 n) o
 | .mm mx x y=>match ρ x,ρ y with
  | .il k a,.il k' b=>if k=k' then K (.il k (if mx then(if b>a then b else a) else(if b<a then b else a))) o else False
  | .si k a,y=>ja (y.int k) λb=>K (.si k (if mx then max a b else min a b)) o
  | .il k a,y=>ja (y.int k) λb=>K (.si k (if mx then max a b else min a b)) o
  |_,_=>False
 | .call f args own=>zR p f (args.map ρ) o own K
 | .jU f args own=>match ρ f with
  | .fn (.func g) first captured=>zR p g (first++args.map ρ++captured) o own K
  |_=>False
 | .extract x i=>match ρ x with
  | .bI vs=>ja vs[i]? λv=>K v o
  |_=>False
 | .tK f first captured=>K (.fn f (first.map ρ) (captured.map ρ)) o
 | .vh t x=>match ρ x with
  | .agg cs=>if zO cs=true then K (.ia t cs) o else False
  |_=>False
 | .oV tab x args=>match ρ x with
  | .ia t cs=>match vj tab t with
   |some f=>zR p f (.agg cs::args.map ρ) o false K
   |none=>False
  |_=>False
 | .qg kt pu=>match p.mt kt with
  |some (sk,sv)=>mkK bB (.map sk sv kt.2 [] kt pu) o λo'=>K (.mp bB) o'
  |none=>False
 | .lookup z agg ks ka x k ok=>match ρ x with
  | .mp id=>match o[id]? with
   |some (.map sk sv xC es kt _)=>
    if kt=(ks,ka)/\xC=ka/\sk.keyed=true/\sv.xA=true/\agg=false/\(ka=false->sk.sz=1)/\lz ks (ρ k).cellsOf=true/\vI ka (ρ k)=true then
     ja (jW sk (ρ k).cellsOf) λkv=>ja (jW sv (z.map .pd)) λzv=>
      let r:=(encS sv ((oa sk sv kv es).getD zv)).headD .ud;K (if ok then .bI [r,.sb (oa sk sv kv es).isSome] else r) o
    else False
   |_=>False
  |_=>False
 | .ra ks ka x k v=>match ρ x with
  | .mp id=>match o[id]? with
   |some (.map sk sv xC es kt pu)=>
    if kt=(ks,ka)/\xC=ka/\sk.keyed=true/\sv.xA=true/\(ka=false->sk.sz=1)/\lz ks (ρ k).cellsOf=true/\vI ka (ρ k)=true/\vI false (ρ v)=true then
     ja (jW sk (ρ k).cellsOf) λkv=>ja (jW sv (ρ v).cellsOf) λvv=>K .ud (o.set id (.map sk sv xC (sK sk sv kv vv es) kt pu))
    else False
   |_=>False
  |_=>False
 |_=>False
where
 zR (p:i7) (f:FuncId) (args:List SV) (o:bZ) (own:Bool) (K:SV->bZ->Prop):Prop:=
  if own then p.C.own f args o K
  else vF (rC o 6) args λargs'=>p.C.pure f args' λr=>if(args.flatMap (λv=>fw (o.map bq.g) 6 v.g)).isEmpty||r.kZ then K r o else False
def xE:fD->Nat->SV->fD
 |[],_,_=>[]
 |p::r,s,v=>bif δs p.1 s then(p.1,v)::r else p::xE r s v
def GU (env:fD) (g:Option (Option Nat×Bool)) (K:fD->Bool->Prop):Prop:=
 match g with
 |none=>K env true
 |some (none,_)=>False
 |some (some s,b)=>match jX env s with
  | .bl c=>K env (c==b)
  | .sb c=>(c=true->K (xE env s (.bl true)) (true==b))/\(c=false->K (xE env s (.bl false)) (false==b))
  | .bI []=>K env false
  |_=>False
def SV.same (v w:SV):Prop:=v.g=w.g
def SV.sL (v:SV):SV->Prop
 | .ite c a b=>(c=true->v.sL a)/\(c=false->v.sL b)
 |w=>v.same w
def bq.same (x y:bq):Prop:=x.g=y.g
def kH:bZ->bZ->Prop
 |[],[]=>True
 |x::o,y::a=>x.same y/\kH o a
 |_,_=>False
def O1 (p:i7) (a:cJ) (o o':bZ) (K:Bool->Prop):Prop:=
 match a with
 | .call f _ true=>if p.ro f=true then kH o o'/\K true else K false
 |_=>K false
def xF (p:i7) (base:Nat):List dC->cu->Trace->(cu->Trace->Prop)->Prop
 |[],b,c,K=>K b c
 |i::r,b,c,K=>GU b.env i.guard λa w=>
   if w then eO p i.op (jK a) b.o (base+i.bB) λv d=>O1 p i.op b.o d λe=>xF p base r ⟨vD a i.dst v,d⟩ ((i.idx,dR i.op (λx=>(jK a x).g) (b.o.map bq.g) (base+i.bB),if e then[] else wrt i.op (λx=>(jK a x).g) (b.o.map bq.g) (base+i.bB))::c) K
   else xF p base r ⟨vD a i.dst (.bI []),b.o⟩ ((i.idx,[],[])::c) K
def bq.mZ:bq->Bool
 | .dead=>true
 |_=>false
def GV (base:Nat) (o:bZ):bZ:=if(o.drop base).all (·.mZ) then o.take base else o
def GX (p:i7) (k:Nat) (c:List dC) (b:List (Nat×Nat)) (st:cu) (K:cu->Prop):Prop:=
 xF p st.o.length c ⟨st.env,st.o++δ k .dead⟩ [] λa d=>
  if b.isEmpty||tN (st.o.length+k) d.reverse b then K ⟨a.env,if k=0 then a.o else GV st.o.length a.o⟩ else False
mutual
def jL (id:Nat) (s:bp) (l:List s.T):SV->(SV->Prop)->Prop
 | .ow j n m,K=>if j=id then(if m=s.sz then n=l.length/\K (.row s l) else False) else K (.ow j n m)
 | .os j h g n m,K=>if j=id then(if m=s.sz then n=l.length/\h+g<=n/\K (.row s ((l.drop h).take g)) else False) else K (.os j h g n m)
 | .oc j h g n m,K=>if j=id then False else K (.oc j h g n m)
 | .rp j i f n m,K=>if j=id then False else K (.rp j i f n m)
 | .ptr j f t,K=>if j=id then False else K (.ptr j f t)
 | .ap j a b c d e,K=>if j=id then False else K (.ap j a b c d e)
 | .agg o,K=>rD id s l o λk=>K (.agg k)
 | .bI o,K=>rD id s l o λk=>K (.bI k)
 | .fn f a b,K=>rD id s l a λp=>rD id s l b λr=>K (.fn f p r)
 |v,K=>K v
def rD (id:Nat) (s:bp) (l:List s.T):List SV->(List SV->Prop)->Prop
 |[],K=>K []
 |c::o,K=>jL id s l c λq=>rD id s l o λk=>K (q::k)
end
def zS (id:Nat) (s:bp) (l:List s.T):fD->(fD->Prop)->Prop
 |[],K=>K []
 |(k,v)::r,K=>jL id s l v λa=>zS id s l r λb=>K ((k,a)::b)
def od (id:Nat) (s:bp) (l:List s.T):Nat->bZ->(bZ->Prop)->Prop
 |_,[],K=>K []
 |i,x::r,K=>match x with
  | .cells g e h b=>if b then(if i=id then False else od id s l (i+1) r λa=>K (.cells g e h b::a)) else rD id s l g λd=>od id s l (i+1) r λa=>K (.cells d e h b::a)
  | .o8 c f e t=>if i=id then False else rD id s l t λj=>match ug c 1 j with
   |some m=>od id s l (i+1) r λa=>K (.row c (f++m) e false::a)
   |none=>False
  | .row c f e b=>if i=id then(if b then od id s l (i+1) r λa=>K (.dead::a) else False) else od id s l (i+1) r λa=>K (.row c f e b::a)
  |x=>od id s l (i+1) r λa=>K (x::a)
def uj (p:i7) (lo:Nat) (h:kB) (st:cu) (K:cu->Prop):Prop:=
 if h.own then match h.off with
  |none=>if isNil (jX st.env h.slot) then(match p.ty h.e with
    |some s=>if s.sz=h.sz then K ⟨(h.slot,.ow st.o.length 0 h.sz)::st.env,st.o++[.row s [] h.e h.pu]⟩ else False
    |none=>False) else if h.sz=0 then(match jX st.env h.slot with
     | .ow a _ _=>match st.o[a]? with
      |some (.row s l e true)=>K ⟨st.env,st.o.set a (.row s l e false)⟩
      |_=>False
     |_=>False) else K st
  |some k=>match jX st.env h.slot with
   | .ptr a b c=>match st.o[a]? with
    |some (.cells d e i f)=>if(d[b+k]?).any isNil then(if d.length=c/\f=false then(match p.ty h.e with
      |some s=>if s.sz=h.sz then K ⟨st.env,(st.o.set a (.cells (d.set (b+k) (.ow st.o.length 0 h.sz)) e i f))++[.row s [] h.e h.pu]⟩ else False
      |none=>False) else False) else K st
    |_=>False
   |_=>False
 else match O2 h st with
  |some (some a)=>if Nat.ble lo a then(match st.o[a]? with
   |some (.row s l e f)=>zS a s l st.env λg=>od a s l 0 (if f then st.o else st.o.set a (.row s l e true)) λo=>K ⟨g,o⟩
   |_=>False) else K st
  |some none=>K st
  |none=>False
where
 xG:SV->Option Nat
  | .ow a .. =>some a
  | .os a .. =>some a
  | .oc a .. =>some a
  |_=>none;O2 (h:kB) (st:cu):Option (Option Nat):=
  match h.off with
  |none=>some (xG (jX st.env h.slot))
  |some k=>match jX st.env h.slot with
   | .ptr a b c=>match st.o[a]? with
    |some (.cells d _ _ _)=>if d.length=c then(d[b+k]?).map xG else none
    |_=>none
   |_=>none
def zT (p:i7) (lo:Nat):List kB->cu->(cu->Prop)->Prop
 |[],st,K=>K st
 |h::hs,st,K=>uj p lo h st λst'=>zT p lo hs st' K
def GY (a:List Nat) (env:fD):fD:=a.map λs=>(s,jX env s)
def trimS (k:Nat) (st:cu):cu:=
 if st.o.length<=k then st
 else if(st.env.all λp=>p.2.bY k)&&((st.o.take k).all λx=>x.bY k) then⟨st.env,st.o.take k⟩ else st
def xH:fD->fD->Prop
 |[],[]=>True
 |(k,v)::e,(b,c)::a=>if k=b then v.same c/\xH e a else False
 |_,_=>False
def zU (s t:cu):Prop:=xH s.env t.env/\kH s.o t.o
def iS (s:cu) (k:Nat):Int:=match jX s.env k with
 | .si _ n=>n
 | .il _ n=>n
 |_=>0
def bS (s:cu) (k:Nat):Bool:=match jX s.env k with
 | .sb b=>b
 | .bl b=>b
 |_=>false
def rS (t:bp) (s:cu) (k:Nat):List t.T:=match jX s.env k with
 | .row a l=>match iH a t l with
  |some l=>l
  |none=>[]
 |_=>[]
def oS (t:bp) (s:cu) (id:Nat):List t.T:=match s.o[id]? with
 |some (.row a l _ _)=>match iH a t l with
  |some l=>l
  |none=>[]
 |_=>[]
def splitN (v:Int) (n:Nat) (K:Nat->Prop):Nat->Prop
 |0=>0<=v/\v<n
 |j+1=>(v=(n - (j+1):Nat)->K (n - (j+1)))/\splitN v n K j
def splitK (x:Option (Nat×Nat×Nat)) (st:cu) (K:cu->Prop):Prop:=
 match x with
 |none=>K st
 |some (b,a,n)=>match st.o[b]? with
  |some (.cells c e f d)=>match c[a]? with
   |some (.si k v)=>splitN v n (λj=>K ⟨st.env,st.o.set b (.cells (c.set a (.il k j)) e f d)⟩) n
   |_=>False
  |_=>False
inductive cC where
 |qy (n:Nat)
 |look
 |inv (X:Type) (shape:X->cu) (next:cu->X) (J:X->Prop) (m:X->Nat) (inner:X->Nat->cC)
def Look (_:cu):Prop:=False
def vJ:IR->Nat
 | .region c .. =>c
 | .seq .skip b=>vJ b
 | .seq a _=>vJ a
 | .block _ b=>vJ b
 | .loop b=>vJ b
 | .turns _ b=>vJ b
 |_=>0
def GZ (W:cu->(Out->cu->Prop)->Prop) (Q:Out->cu->Prop):Nat->cu->Prop
 |0,_=>False
 |n+1,b=>W b λa s=>match a with
  | .norm=>GZ W Q n (trimS b.o.length s)
  |o=>Q o s
def zV (t:Nat):fD->fD
 |[]=>[]
 |p::r=>bif δs p.1 t then zV t r else p::zV t r
def xI (x:Operand) (env:fD):fD:=
 match x with
 | .tmp t=>zV t env
 |_=>env
def C5 (env:fD) (x:Operand) (v:SV):fD:=
 match x with
 | .tmp t=>xE env t v
 |_=>env
def wpS (p:i7) (lo:Nat):IR->(Nat->cC)->cu->(Out->cu->Prop)->Prop
 | .skip,_,st,Q=>Q .norm st
 | .region id draw k ops kC live pre post,_,st,Q=>splitK (p.sp id) st λst0=>zT p lo pre st0 λst1=>GX p k ops kC st1 λst2=>zT p lo post ⟨GY live st2.env,st2.o⟩ λG0=>Q .norm G0
 | .seq a b,Λ,st,Q=>wpS p lo a Λ st λout s=>match out with
  | .norm=>wpS p lo b Λ s Q
  |o=>Q o s
 | .cond x a b,Λ,st,Q=>match jK st.env x with
  | .bl true=>wpS p lo a Λ ⟨xI x st.env,st.o⟩ Q
  | .bl false=>wpS p lo b Λ ⟨xI x st.env,st.o⟩ Q
  | .sb c=>(c=true->wpS p lo a Λ ⟨xI x st.env,st.o⟩ Q)/\(c=false->wpS p lo b Λ ⟨xI x st.env,st.o⟩ Q)
  |_=>False
 | .block id b,Λ,st,Q=>wpS p lo b Λ st λout s=>Q (out.inBlock id) s
 | .loop b,Λ,st,Q=>match Λ (vJ b) with
  | .qy n=>GZ (wpS p lo b Λ) Q n st
  | .look=>Look st
  | .inv _ shape next J m inner=>(zU st (shape (next st))/\J (next st))/\∀x,J x->wpS p lo b (inner x) (shape x) λout s=>match out with
   | .norm=>zU (trimS (shape x).o.length s) (shape (next (trimS (shape x).o.length s)))/\J (next (trimS (shape x).o.length s))/\m (next (trimS (shape x).o.length s))<m x
   |o=>Q o s
 | .exit id,_,st,Q=>Q (.exit id) st
 | .ret,_,st,Q=>Q .ret st
 | .goto l,_,st,Q=>Q (.goto l) st
 | .oW x a b,Λ,st,Q=>match jK st.env x with
  | .bl true=>wpS p lo a Λ st Q
  | .bl false=>wpS p lo b Λ st Q
  | .sb c=>(c=true->wpS p lo a Λ ⟨C5 st.env x (.bl true),st.o⟩ Q)/\(c=false->wpS p lo b Λ ⟨C5 st.env x (.bl false),st.o⟩ Q)
  |_=>False
 | .turns none b,Λ,st,Q=>wpS p lo b Λ st λout s=>match out with
  | .goto _=>False
  |o=>Q o s
 | .turns (some l) b,Λ,st,Q=>match Λ (vJ b) with
  | .inv _ shape next J m inner=>(zU st (shape (next st))/\J (next st))/\∀x,J x->wpS p lo b (inner x) (shape x) λout s=>match out with
   | .goto l'=>l'=l/\zU (trimS (shape x).o.length s) (shape (next (trimS (shape x).o.length s)))/\J (next (trimS (shape x).o.length s))/\m (next (trimS (shape x).o.length s))<m x
   |o=>Q o s
  |_=>Look st
 | .tL ..,_,_,_=>False
def nu:Nat->List SV->fD
 |_,[]=>[]
 |i,v::a=>(i,v)::nu (i+1) a
def og (st:cu) (a:List ng) (K:SV->Prop):Prop:=
 goK a λl=>match l with
  |[v]=>K v
  |l=>K (.bI l)
where
 goK:List ng->(List SV->Prop)->Prop
  |[],K=>K []
  |r::a,K=>O3 r λv=>goK a λl=>K (v::l);O3 (r:ng) (K:SV->Prop):Prop:=match r.cell with
  |none=>K (jX st.env r.slot)
  |some n=>mK st.o (jX st.env r.slot) n K
def uk (p:i7) (Λ:Nat->cC) (F:fz) (args:List SV) (Q:SV->Prop):Prop:=
 wpS p 0 F.body Λ ⟨nu 0 args,[]⟩ λa b=>match a with
  | .exit _=>False
  | .goto _=>False
  |_=>og b F.res λr=>rC b.o 6 r Q
def zW (p:i7) (Λ:Nat->cC) (F:fz) (args:List SV) (o:bZ) (Q:SV->bZ->Prop):Prop:=
 wpS p o.length F.body Λ ⟨nu 0 args,o⟩ λb a=>match b with
  | .exit _=>False
  | .goto _=>False
  |_=>og a F.res λr=>if r.bY o.length&&a.o.all (λx=>x.bY o.length)&&decide (o.length<=a.o.length) then Q r (a.o.take o.length) else False
def gE (env:fD):jF:=env.map λp=>(p.1,p.2.g)
def gO (o:bZ):Store:=o.map bq.g
def cu.g (st:cu):St:=⟨gE st.env,gO st.o⟩
theorem oh:∀(env:fD) (s:Nat),dK (gE env) s=(jX env s).g
 |[],_=>by simp[gE,dK,jX,γD];|p::r,s=>by
  have:=oh r s;grind[gE,dK,jX]
theorem O4 (env:fD) (d:Option Nat) (v:SV):gE (vD env d v)=oU (gE env) d v.g:=by
 cases d<;>simp[vD,oU,gE]
theorem O5 (v:Value):(SV.pd v).g= .sc v:=by cases v<;>simp[SV.pd,γD]
theorem G2 (l:List Value):(l.map SV.pd).map γD=l.map .sc:=by simp[O5]
theorem zY (env:fD) (x:Operand):eG (gE env) x=(jK env x).g:=by
 cases x with
 |tmp t=>simp[eG,jK,oh];|const v=>
  cases v<;>simp[eG,jK,AV.uY,SV.uY,γD];split<;>simp[γD,gk,O5];|global g=>simp[eG,jK,γD];|func f=>simp[eG,jK,γD,gL]
theorem O6 (env:fD):eG (gE env)=λx=>(jK env x).g:=funext λx=>zY env x
theorem C6 (v:SV):v.g.cellsOf=gL v.cellsOf:=by
 cases v<;>simp[γD,AV.cellsOf,SV.cellsOf,gL]
theorem Zl (v:SV):v.g.one=v.one:=by
 cases v<;>simp[γD,AV.one,SV.one,Value.oneCell']
theorem C7 (l:List SV):eK (gL l)=xB l:=by
 induction l<;>grind[gL,eK,xB,Zl]
theorem G3:∀(l:List SV),zO l=true->dB (gL l)=true
 |[],_=>by simp[gL,dB];|v::l,h=>by
  simp only[zO,θ] at h;simp only[gL,dB,G3 l h.2,δT];have a:=h.1;cases v<;>simp[SV.pure] at a<;>simp[γD,AV.pure,o9]
mutual
theorem zZ (k:Nat):∀(v:SV),v.g.bY k=v.bY k
 | .agg c=>by simp only[γD,AV.bY,SV.bY];exact vK k c;| .bI c=>by simp only[γD,AV.bY,SV.bY];exact vK k c;| .fn _ a b=>by simp only[γD,AV.bY,SV.bY,vK k a,vK k b];| .ud| .sc _| .il .. | .si .. | .bl _| .sb _| .row .. | .ep .. | .ptr .. | .ap .. | .rp .. | .ow .. | .os .. | .oc .. | .mp _| .ia _ _| .ite _ _ _=>by simp[γD,AV.bY,SV.bY]
theorem vK (k:Nat):∀(l:List SV),eu k (gL l)=sG k l
 |[]=>by simp[gL,eu,sG];|v::l=>by simp only[gL,eu,sG,zZ k v,vK k l]
end
theorem Zm (k:Nat) {b sv:bp} (c:Bool) (es:List (b.T×sv.T)):eu k ((es.map λp=>(pO b c p.1,nn sv p.2)).map (·.2))=true:=
 GL λa h=>by
  simp only[γ3,Ψ,Function.comp] at h;grind[nn,AV.bY]
theorem C9 (k:Nat) (x:bq):x.g.bY k=x.bY k:=by
 cases x with
 |dead=>rfl;|cells n e m d=>simp[bq.g,bR.bY,bq.bY,vK];|row s l e d=>simp[bq.g,bR.bY,bq.bY,OU];|o8 s l e t=>
  have c:∀a b:List AV,eu k (a++b)=(eu k a&&eu k b):=λa b=>by
   induction a<;>grind[eu]
  grind[bq.g,bR.bY,bq.bY,OU,vK];|map i o f j h d=>simp only[bq.g,bR.bY,bq.bY,Zm,Bool.or_true]
mutual
theorem O7:∀(v:SV),v.kZ=true->v.g.kZ=true
 | .agg a,h=>by simp only[SV.kZ] at h;simp only[γD,AV.kZ];exact G4 a h;| .bI a,h=>by simp only[SV.kZ] at h;simp only[γD,AV.kZ];exact G4 a h;| .ud,_| .sc _,_| .il ..,_| .si ..,_| .bl _,_| .sb _,_=>by simp[γD,AV.kZ];| .row ..,h| .ep ..,h| .ptr ..,h| .ap ..,h| .rp ..,h| .ow ..,h| .os ..,h| .oc ..,h| .mp _,h| .fn ..,h| .ia _ _,h| .ite _ _ _,h=>by simp[SV.kZ] at h
theorem G4:∀(l:List SV),C0 l=true->vi (gL l)=true
 |[],_=>by simp[gL,vi];|v::l,h=>by
  simp only[C0,θ] at h;simp only[gL,vi,O7 v h.1,G4 l h.2,δT]
end
theorem jY (l:List SV):(gL l).length=l.length:=by simp[gk]
theorem um (l:List SV) (i:Nat):(gL l)[i]?=(l[i]?).map γD:=by simp[gk]
theorem uo (a b:List SV):gL (a++b)=gL a++gL b:=by simp[gk]
theorem Da {cs:List SV} {a:Nat} {n:Option Nat} {v:SV} (h:sH cs a n=some v):gv (gL cs) a n=some v.g:=by
 cases n with
 |none=>grind[sH,gv,um];|some m=>
  simp only[sH] at h;split at h
  ·rename_i b;simp only[γ] at h;subst h;simp_all[gv,γD,gk]
  ·cases h
theorem Aa:∀(vs cs:List SV) (a:Nat),gL (uf cs a vs)=gh (gL cs) a (gL vs)
 |[],cs,a=>by simp[uf,gL,gh];|v::vs,cs,a=>by
  simp only[uf,gL,gh];rw[Aa vs];simp_all[gk]
theorem G5 (cs:List SV):gL (cs.map SV.qn)=(gL cs).map AV.qn:=by
 simp_all[gk,Zj]
theorem G6 (pu:Bool) (cs:List SV):gL (if pu then cs.map SV.qn else cs)=eC pu (gL cs):=by
 grind[eC,G5]
theorem Zn {c:AV} (h:Plain c.qn):c.one=true/\c.pure=true:=by
 by_cases a:c.qn=c
 ·rw[a] at h;exact⟨h.one,h.pure⟩
 ·unfold AV.qn at a;split at a;·exact⟨rfl,rfl⟩
  simp_all
theorem G7 {pu:Bool} {cs:List AV} (h:∀c∈eC pu cs,Plain c):eK cs=true/\dB cs=true:=by
 have b:∀c∈cs,c.one=true/\c.pure=true:=by
  intro c a;unfold eC at h;split at h;·grind[Zn]
  ·exact⟨(h c a).one,(h c a).pure⟩
 grind[eK,CY]
theorem G8:∀(vs a b c:List AV) (d:Nat),d+vs.length<=b.length->gh (a++b++c) (a.length+d) vs=a++gh b d vs++c
 |[],a,b,c,d,_=>rfl
 |v::vs,a,b,c,d,h=>by
  simp only[γF] at h;simp only[gh];have e:(a++b++c).set (a.length+d) v=a++b.set d v++c:=by
   grind
  rw[e,ε2,G8 vs a (b.set d v) c (d+1) (by simp;omega)]
theorem O8 {s:bp} {l:List s.T} {i:Nat} (h:i<l.length):cF s l=cF s (l.take i)++dP s (bj l i s.dflt)++cF s (l.drop (i+1)):=by
 have a:l=l.take i++l[i]::l.drop (i+1):=by simp
 grind[cV,cF]
theorem take_len {a:Type} {l:List a} {i:Nat} (h:i<l.length):(l.take i).length=i:=by simp;omega
theorem Zo {s:bp} {l:List s.T} {i a:Nat} {v:s.T} {vs:List AV} (h:i<l.length) (e:a+vs.length<=s.sz) (c:gh (dP s (bj l i s.dflt)) a vs=dP s v):
  gh (cF s l) (i*s.sz+a) vs=cF s (l.set i v):=by
 have d:(cF s (l.take i)).length=i*s.sz:=by rw[eY,take_len h]
 rw[O8 h,<-d,G8 _ _ _ _ _ (by grind[lU]),c];have b:i<(l.set i v).length:=by simpa using h
 rw[O8 b,cV b];simp[List.take_set_of_le,List.drop_set_of_lt]
theorem O9 {s:bp} {l:List s.T} {i b:Nat} {n:Option Nat} {v:SV} (h:i<l.length) (e:sH (encS s (bj l i s.dflt)) b n=some v):gv (cF s l) (i*s.sz+b) n=some v.g:=by
 have a:=Da e;rw[gk,ub] at a;have c:=OX (s:=s) h;have d:(cF s l).length=i*s.sz+(s.sz+(cF s (l.drop (i+1))).length):=by
  have:=congrArg γc c;grind[lU]
 cases n with
 |none=>
  simp only[gv] at a ⊢;rw[<-List.getElem?_drop,c,List.getElem?_append_left]<;>grind;|some m=>
  simp only[gv,lU] at a;split at a
  ·rename_i f;simp only[gv];rw[if_pos (by omega),<-δj,c,List.drop_append_of_le_length (by grind[lU]),List.take_append_of_le_length (by grind[lU])];exact a
  ·cases a
theorem jq {b:Type} {x:Option b} {K:b->Prop} (h:ja x K):∃a,x=some a/\K a:=by
 cases x with
 |none=>exact h.elim;|some a=>exact⟨a,rfl,h⟩
theorem G9 (o:bZ) (i:Nat):(gO o)[i]?=(o[i]?).map bq.g:=by simp[gO]
theorem om (o:bZ):(gO o).length=o.length:=by simp[gO]
theorem qA (o:bZ) (i:Nat) (x:bq):gO (o.set i x)=(gO o).set i x.g:=by simp[gO]
theorem fR {o:bZ} {i:Nat} {x:bq} (h:o[i]?=some x):(gO o)[i]?=some x.g:=by grind[G9]
theorem Pe:∀{cs:List SV} {l:List Int},ints cs=some l->cs.length=l.length/\∀i,i<l.length->(cs[i]?).map γD=some (.sc (.int .i64 (bj l i 0))):=by
 intro cs l h;have a:=CW h;have c:cs.length=l.length:=by simpa using congrArg γc a
 refine⟨c,λi b=>?_⟩;have:=congrArg (λl=>l[i]?) a;simp only[List.getElem?_map] at this;rw[this,μ b,cV b];rfl
theorem Pg:∀{cs:List SV} {l:List (List Off)},mK.rowsOff cs=some l->cs.length=l.length/\∀i,i<l.length->cs[i]?=some (.row .off (bj l i []))
 |[],l,h=>by grind[mK.rowsOff];|c::cs,l,h=>by
  cases c with
  |row s x=>
   cases s<;>simp only[mK.rowsOff,reduceCtorEq] at h;obtain⟨e,a,rfl⟩:=ε.1 h;obtain⟨b,d⟩:=Pg a;grind[bj];|_=>simp[mK.rowsOff] at h
theorem Zp {cs:List SV} {sz i:Nat} {n:Option Nat} {K:SV->Prop} (h:mK.zP cs sz i n K) (d:i*sz<cs.length):∃v,gv (gL cs) (i*sz) n=some v.g/\K v:=by
 unfold mK.zP at h;split at h
 ·rw[Nat.mul_one] at d ⊢;split at h
  ·rename_i l a;obtain⟨b,c⟩:=Pe a;grind[gv,um,γD]
  ·split at h
   ·rename_i l a;obtain⟨b,c⟩:=Pg a;grind[gv,um]
   simp_all
 simp_all
theorem Zq {cs:List AV} {base a m:Nat} {v:AV} (h:gv ((cs.drop base).take m) a none=some v):gv cs (base+a) none=some v:=by
 grind[gv]
theorem Ph {o:bZ} {a:SV} {n:Option Nat} {K:SV->Prop} (h:mK o a n K):∃cs b v,behind (gO o) a.g=some (cs,b)/\gv cs b n=some v.g/\K v:=by
 cases a with
 |ptr x b t=>
  simp only[mK] at h;split at h
  ·rename_i cs e f z y;split at h
   ·rename_i D;obtain⟨v,k,j⟩:=jq h;exact⟨gL cs,b,v,by simp_all[behind,γD,fR,bq.g,jY],Da k,j⟩
   simp_all
  simp_all;|ap x c f d t i=>
  simp only[mK] at h;split at h
  ·rename_i cs e A z y;split at h
   ·rename_i D;obtain⟨C,p⟩:=h;have w:(i+1)*f<=d*f:=γK _ C;rw[Nat.succ_mul] at w;have F:f*d=d*f:=Nat.mul_comm ..;by_cases E:f=0;·grind[mK.zP]
    ·have q:i*f<((cs.drop c).take (f*d)).length:=by grind
     obtain⟨v,k,j⟩:=Zp p q;have B:n=none:=by
      grind[mK.zP]
     subst B;refine⟨gL cs,c+i*f,v,by simp_all[behind,γD,fR,bq.g,jY],?_,j⟩;have:gL ((cs.drop c).take (f*d))=((gL cs).drop c).take (f*d):=by simp[gk]
     grind[Zq]
   simp_all
  simp_all;|ep s l i b=>
  simp only[mK] at h;obtain⟨u,p⟩:=h;obtain⟨v,k,j⟩:=jq p;exact⟨cF s l,i*s.sz+b,v,by simp[behind,γD],O9 u k,j⟩;|rp x i b m f=>
  simp only[mK] at h;split at h
  ·rename_i s l e z y;split at h
   ·rename_i r;subst r;obtain⟨w,u,p⟩:=h;obtain⟨v,k,j⟩:=jq p;exact⟨cF s l,i*s.sz+b,v,by simp_all[behind,γD,fR,bq.g,eY],O9 u k,j⟩
   simp_all
  simp_all;|_=>simp only[mK] at h
theorem Pj (o:Store) (d:Nat) {v:Value} (h:v≠ .slice none 0 0):freeze o d (.sc v)=some (.sc v):=by
 grind[freeze]
theorem Pm (o:Store) (d:Nat) {a:AV} (h:Plain a):freeze o d a=some a:=by
 rcases h with⟨v,rfl,_,h⟩|⟨n,b,rfl,_⟩<;>grind[Pj,freeze]
theorem Ha {f:AV->Option AV}:∀{l:List AV},(∀a∈l,f a=some a)->l.mapM f=some l
 |[],_=>by simp;|a::l,h=>by simp[List.mapM_cons,h a (by simp),Ha (l:=l) λb c=>h b (by simp[c])]
theorem xJ {o:Store} {d:Nat} {f:SV->(SV->Prop)->Prop} (c:∀v K,f v K->∃b:SV,freeze o d v.g=some b.g/\K b):
  ∀{l:List SV} {K:List SV->Prop},vF f l K->∃a,(gL l).mapM (freeze o d)=some (gL a)/\K a
 |[],K,h=>⟨[],by simp[gL],h⟩
 |v::l,K,h=>by
  obtain⟨b,j,i⟩:=c v _ h;obtain⟨a,k,e⟩:=xJ c i;exact⟨b::a,by simp_all[gL],e⟩
theorem Ab {s:bp} {l:List s.T} {b a:Nat}:((cF s l).drop (b*s.sz)).take (a*s.sz)=cF s ((l.drop b).take a):=by
 rw[GM,OW]
theorem He {o:bZ}:∀{d:Nat} {v:SV} {K:SV->Prop},rC o d v K->∃y,freeze (gO o) d v.g=some y.g/\K y:=by
 intro d;induction d with
 |zero=>
  intro v K h;cases v<;>simp only[rC] at h<;>grind[rC,γD,freeze,cF,Pj];|succ d p=>
  intro v K h;cases v<;>simp only[rC] at h;case sc v=>
   grind[γD,freeze,cF]
  case agg B=>
   obtain⟨A,z,r⟩:=xJ (λv K m=>p m) h;grind[γD,freeze]
  case bI B=>
   obtain⟨A,z,r⟩:=xJ (λv K m=>p m) h;grind[γD,freeze]
  case fn f a b=>
   obtain⟨I,z,r⟩:=xJ (λv K m=>p m) h;obtain⟨J,L,H⟩:=xJ (λv K m=>p m) r;grind[γD,freeze]
  case ow E n F=>
   split at h
   ·rename_i s l e G w;split at h
    ·rename_i k;obtain⟨rfl,t⟩:=h;subst k;refine⟨_,?_,t⟩;have i:(cF s l).mapM (freeze (gO o) d)=some (cF s l):=Ha λa C=>by
      grind[Pm,np]
     have D:Δ (l.length*s.sz) (cF s l)=cF s l:=γo (by grind[eY]);simp_all[γD,freeze,fR,bq.g,eY,o9]
    simp_all
   simp_all
  case os E j c n F=>
   split at h
   ·rename_i s l e G w;split at h
    ·rename_i k;obtain⟨rfl,u,t⟩:=h;subst k;refine⟨_,?_,t⟩;have i:(cF s ((l.drop j).take c)).mapM (freeze (gO o) d)=some (cF s ((l.drop j).take c)):=Ha λa C=>by
      grind[Pm,np]
     have x:(j+c)*s.sz<=l.length*s.sz:=γK _ u;rw[δV] at x;have q:((l.drop j).take c).length=c:=by simp;omega
     simp only[γD,freeze,fR w,bq.g,eY,x,and_self,if_true,Ab,i,o9,q];simp_all
    simp_all
   simp_all
  all_goals grind[γD,freeze]
theorem Db {k:IntKind} {n:Int} (h:cq k n):eX k n=n:=by
 cases k<;>simp only[cq,eX] at h ⊢<;>simp_all
theorem ny {c:Prop} [Decidable c] {A:Prop} (h:if c then A else False):c/\A:=by
 simp_all
theorem air {b:Int} {k:Nat} (h:b<=k):min b.toNat k=b.toNat:=by omega
theorem Zr (a b:Int):(a==b)=decide (a=b):=rfl
theorem Zs (a b:Int):(a !=b)=decide (a≠b):=by
 grind
theorem Ac {k:IntKind} {n:Int} {K:Int->Prop} (h:vE k n K):K (eX k n):=by
 have a:k= .u32->eX k n=n % 4294967296:=by
  grind[tW,IntKind.wrap,IntKind.bits,IntKind.signed]
 have b:k= .u64->eX k n=n % 18446744073709551616:=by
  grind[tW,IntKind.wrap,IntKind.bits,IntKind.signed]
 unfold vE at h;grind[Db]
theorem go_sound {e:BinOp} {k i:IntKind} {a b:Int} {K:SV->Prop} (h:gY.go e K k a i b):∃v f:_,gV e (.int k a) (.int i b)=some v/\f.g= .sc v/\K f:=by
 cases e<;>simp only[gY.go] at h;case shl=>
  obtain⟨j,m,l⟩:=h;refine⟨.int k (eX k (a*2^b.toNat)),.si k (eX k (a*2^b.toNat)),?_,rfl,Ac l⟩;simp_all[gV,FW]
 case shr=>
  obtain⟨j,m,n⟩:=h;refine⟨.int k (a / 2^b.toNat),_,?_,rfl,n⟩;have:a.fdiv (2^b.toNat)=a / 2^b.toNat:=Int.fdiv_eq_ediv_of_nonneg _ (by grind);simp_all[gV,FW]
 case add=>
  obtain⟨d,c⟩:=ny h;subst d;exact⟨.int k (eX k (a+b)),.si k (eX k (a+b)),by simp only[gV,if_true,lu],rfl,Ac c⟩
 case sub=>
  obtain⟨d,c⟩:=ny h;subst d;exact⟨.int k (eX k (a - b)),.si k (eX k (a - b)),by simp only[gV,if_true,lu],rfl,Ac c⟩
 case mul=>
  obtain⟨d,c⟩:=ny h;subst d;exact⟨.int k (eX k (a*b)),.si k (eX k (a*b)),by simp only[gV,if_true,lu],rfl,Ac c⟩
 case quo=>
  obtain⟨d,c⟩:=ny h;subst d;exact⟨.int k (a.tdiv b),_,by simp_all[gV,lu,Db],rfl,c.2.2⟩
 case rem=>
  obtain⟨d,c⟩:=ny h;subst d;exact⟨.int k (a.tmod b),_,by simp_all[gV,lu],rfl,c.2⟩
 case and=>
  obtain⟨d,c⟩:=ny h;subst d;exact⟨.int k (gY.vH k a b),_,by simp only[gV,if_true,lu,gY.vH],rfl,c⟩
 case or=>
  obtain⟨d,c⟩:=ny h;subst d;exact⟨.int k (gY.nZ k a b),_,by simp only[gV,if_true,lu,gY.nZ],rfl,c⟩
 case xor=>
  obtain⟨d,c⟩:=ny h;subst d;exact⟨.int k (gY.GN k a b),_,by simp only[gV,if_true,lu,gY.GN],rfl,c⟩
 case andNot=>
  obtain⟨d,c⟩:=ny h;subst d;exact⟨.int k (gY.C2 k a b),_,by simp only[gV,if_true,lu,gY.C2],rfl,c⟩
 case eql=>
  obtain⟨d,c⟩:=ny h;subst d;exact⟨.bool (decide (a=b)),_,by simp_all[gV,lu,Zr],rfl,c⟩
 case neq=>
  obtain⟨d,c⟩:=ny h;subst d;exact⟨.bool (decide (a≠b)),_,by simp_all[gV,lu,Zs],rfl,c⟩
 case lss=>
  obtain⟨d,c⟩:=ny h;subst d;exact⟨.bool (decide (a<b)),_,by simp only[gV,if_true,lu],rfl,c⟩
 case leq=>
  obtain⟨d,c⟩:=ny h;subst d;exact⟨.bool (decide (a<=b)),_,by simp only[gV,if_true,lu],rfl,c⟩
 case gtr=>
  obtain⟨d,c⟩:=ny h;subst d;exact⟨.bool (decide (b<a)),_,by simp only[gV,if_true,lu],rfl,c⟩
 case geq=>
  obtain⟨d,c⟩:=ny h;subst d;exact⟨.bool (decide (b<=a)),_,by simp only[gV,if_true,lu],rfl,c⟩
theorem Zt {j:BinOp} {x y:SV} {K:SV->Prop} (h:gY j x y K):∃a b v c,x.g= .sc a/\y.g= .sc b/\gV j a b=some v/\c.g= .sc v/\K c:=by
 unfold gY at h;split at h
 ·split at h;·rename_i i;exact⟨_,_,_,_,rfl,rfl,i,rfl,h⟩
  ·rename_i i;exact⟨_,_,_,_,rfl,rfl,i,rfl,h⟩
  simp_all
 ·obtain⟨v,c,d,e,f⟩:=go_sound h;exact⟨_,_,v,c,rfl,rfl,d,e,f⟩
 ·obtain⟨v,c,d,e,f⟩:=go_sound h;exact⟨_,_,v,c,rfl,rfl,d,e,f⟩
 ·obtain⟨v,c,d,e,f⟩:=go_sound h;exact⟨_,_,v,c,rfl,rfl,d,e,f⟩
 ·split at h;·exact⟨_,_,_,_,rfl,rfl,by grind[gV],rfl,h⟩
  ·exact⟨_,_,_,_,rfl,rfl,by grind[gV],rfl,h⟩
  simp_all
 simp_all
theorem Ad {k:IntKind} {a b:Int}:seq1 (.int k a) (.int k b)=some (decide (a=b)):=by
 simp only[seq1,if_true,γ];rfl
theorem Zu {x y:SV} {r:Bool} (h:GQ x y=some r):∃a b,x.g= .sc a/\y.g= .sc b/\seq1 a b=some r:=by
 cases x<;>simp only[GQ,reduceCtorEq] at h;all_goals
  obtain⟨b,c,rfl⟩:=ε.1 h;first
   |exact⟨_,_,rfl,iP c,Ad⟩;|exact⟨_,_,rfl,vC c,by simp[seq1]⟩
theorem Pn:∀{x y:List SV} {r:Bool},uh x y=some r->∃a b,gL x=a.map .sc/\gL y=b.map .sc/\fN a b=some r
 |[],[],r,h=>by simp[uh] at h;subst h;exact⟨[],[],rfl,rfl,rfl⟩;|[],_::_,r,h=>by grind[uh];|_::_,[],r,h=>by grind[uh];|x::l,y::n,r,h=>by
  simp only[uh] at h;split at h
  ·rename_i a b e f;simp only[γ] at h;subst h;obtain⟨u,v,g,j,k⟩:=Zu e;obtain⟨d,c,i,o,m⟩:=Pn f;exact⟨u::d,v::c,by grind[gL],by grind[gL],by grind[fN]⟩
  ·cases h
theorem Hf:∀(l:List Value),sx (l.map .sc)=some l
 |[]=>rfl
 |v::l=>by simp[sx,Hf l]
theorem uq:∀{a b:List Value},a.map δg=b.map δg->a=b
 |[],[],_=>rfl
 |[],_::_,h=>by simp at h;|_::_,[],h=>by simp at h;|x::a,y::b,h=>by
  simp only[π,Γ,δd] at h;rw[h.1,uq h.2]
theorem vM:∀{e:List Nat} {x:List SV} {a:List Value},lz e x=true->gL x=a.map .sc->eD e a=true
 |[],[],a,_,h=>by
  cases a with
  |nil=>rfl;|cons a i=>simp[gL] at h
 |[],_::_,a,h,_=>by grind[lz];|_::_,[],a,h,_=>by grind[lz];|k::e,x::j,a,h,f=>by
  cases a with
  |nil=>grind[gL];|cons a i=>
   simp only[gL,π,Γ] at f;obtain⟨c,d⟩:=f;match k,x,h with
   |0,.si k n,h=>simp only[lz] at h;simp only[γD,δd] at c;subst c;simpa[eD] using vM h d;|0,.il k n,h=>simp only[lz] at h;simp only[γD,δd] at c;subst c;simpa[eD] using vM h d;|1,.sb b,h=>simp only[lz] at h;simp only[γD,δd] at c;subst c;simpa[eD] using vM h d;|1,.bl b,h=>simp only[lz] at h;simp only[γD,δd] at c;subst c;simpa[eD] using vM h d
theorem Zv {c:List Nat} {a b:List SV} {r:Bool} (d:(lz c a&&lz c b)=true) (h:uh a b=some r):wV c (gL a) (gL b)=some r:=by
 obtain⟨u,v,f,e,g⟩:=Pn h;simp only[θ] at d;rw[f,e];simp only[wV,Hf,vM d.1 f,vM d.2 e,Bool.and_self,if_true,g]
theorem Zw {s s':bp} {l:List s.T} {a:List s'.T} (h:iH s s' l=some a):s=s'/\HEq l a:=by
 unfold iH at h;grind
theorem Ae {s s':bp} {l:List s.T} {l':List s'.T} (h:iH s s' l=some l'):s'=s/\cF s' l'=cF s l/\l'.length=l.length:=by
 grind[Zw]
theorem Hh:∀{a:List (Nat×Nat×SV)} {cs b:List SV},sJ a cs=some b->lx (a.map λq=>(q.1,q.2.1,q.2.2.g)) (gL cs)=some (gL b)
 |[],cs,b,h=>by simp[sJ] at h;subst h;rfl;|(d,n,v)::r,cs,b,h=>by
  simp only[sJ] at h;split at h
  ·rename_i c;obtain⟨i,f,e⟩:=c;have:=Hh h;simp_all[lx,C6,jY,C7,Aa]
  ·cases h
theorem Dc {s:bp}:∀{n:Nat} {cs:List SV} {l:List s.T},ug s n cs=some l->gL cs=cF s l/\l.length=n
 |0,[],l,h=>by grind[ug,gL,cF];|0,_::_,l,h=>by simp[ug] at h;|n+1,cs,l,h=>by
  simp only[ug] at h;split at h
  ·rename_i x f a b;simp only[γ] at h;subst h;obtain⟨d,c⟩:=Dc b;have e:=nY a;refine⟨?_,by simp[c]⟩;rw[gk] at d ⊢;conv=>lhs;rw[<-γM s.sz cs]
   grind[cF]
  ·cases h
theorem Zx {o:bZ} {s:bp} {x:SV} {K:List s.T->Prop} (h:vG o s x K):∃l,nf (gO o) s.sz x.g=some (l.length,cF s l)/\K l:=by
 cases x with
 |row q l=>
  simp only[vG] at h;obtain⟨f,c,w⟩:=jq h;obtain⟨rfl,p,m⟩:=Ae c;exact⟨f,by simp_all[γD,nf,eY],w⟩;|ow y n u=>
  simp only[vG] at h;split at h
  ·rename_i q l e A B;split at h
   ·rename_i b;subst b;obtain⟨rfl,k⟩:=h;obtain⟨f,c,i⟩:=jq k;obtain⟨rfl,p,m⟩:=Ae c;refine⟨f,?_,i⟩;have t:Δ (l.length*s.sz) (cF s l)=cF s l:=γo (by grind[eY]);simp_all[γD,nf,fR,bq.g,eY]
   simp_all
  simp_all;|os y d a n u=>
  simp only[vG] at h;split at h
  ·rename_i q l e A B;split at h
   ·rename_i b;subst b;obtain⟨rfl,j,k⟩:=h;obtain⟨f,c,i⟩:=jq k;obtain⟨rfl,p,m⟩:=Ae c;refine⟨f,?_,i⟩;have r:(d+a)*s.sz<=l.length*s.sz:=γK _ j;rw[δV] at r;have z:((l.drop d).take a).length=a:=by simp;omega
    simp_all[γD,nf,fR,bq.g,eY,Ab]
   simp_all
  simp_all;|sc v=>
  grind[vG,γD,nf,cF];|_=>simp only[vG] at h
theorem Hj {v:SV} {n:Int} (h:zQ v=some n):iq v.g=some n:=by
 cases v<;>simp[zQ] at h<;>simp[γD,iq,h]
theorem pP {d:Nat} {x:Option SV} {K:Nat->Prop} (h:ob d x K):∃n,iu d (x.map γD)=some n/\K n:=by
 unfold ob at h;grind[γD,iu]
theorem vN {bB:Nat} {x:bq} {o:bZ} {K:bZ->Prop} (h:mkK bB x o K):∃o',kX bB x.g (gO o)=some (gO o')/\K o':=by
 grind[mkK,kX,fR,bq.g,qA]
theorem Zy {s:bp} (e:s.keyed=true) (x y:s.T):fN (dy s x) (dy s y)=some (decide (x=y)):=by
 cases s<;>simp only[bp.keyed,reduceCtorEq] at e;·grind[dy,fN,Ad]
 ·obtain⟨b,⟨m,o,a,l,c,i⟩⟩:=x;obtain⟨g,⟨k,h,j,n,d,f⟩⟩:=y;simp_all[dy,iv,fN,Ad]
 ·obtain⟨b,⟨m,o,a,l,c,i⟩,⟨C,t,B,A,D,w⟩⟩:=x;obtain⟨g,⟨k,h,j,n,d,f⟩,⟨p,z,r,u,v,q⟩⟩:=y;simp only[dy,iv,fN,Ad,γ,δT];grind
theorem Zz {s:bp} {a:Bool} (d:s.keyed=true) (b:a=false->s.sz=1) (x y:s.T):keq (pO s a x) (pO s a y)=some (decide (x=y)):=by
 cases a with
 |true=>grind[pO,keq,Zy];|false=>
  have c:=b rfl;cases s<;>simp only[bp.keyed,reduceCtorEq] at d<;>simp only[bp.sz,reduceCtorEq,Nat.reduceEqDiff] at c;simp_all[pO,dy,keq,Ad]
theorem Hk {a sv:bp} {c:Bool} (f:a.keyed=true) (e:c=false->a.sz=1) (x:a.T):∀(es:List (a.T×sv.T)) (i:Nat),
  ∃r,mD (pO a c x) (es.map λp=>(pO a c p.1,nn sv p.2)) i=some r/\(match oa a sv x es with|some v=>∃j,r=some (i+j,nn sv v)/\(∃p,es[j]?=some p/\p.1=x)/\(∀g<j,∀p,es[g]?=some p->p.1≠x)|none=>r=none/\∀p∈es,p.1≠x)
 |[],i=>⟨none,by simp[mD],by simp[oa]⟩
 |p::es,i=>by
  simp only[π,mD,Zz f e];by_cases b:p.1=x
  ·refine⟨some (i,nn sv p.2),by simp[b],?_⟩;simp only[oa,List.find?_cons,b,decide_true,ξ];exact⟨0,by simp,⟨p,by simp,b⟩,by simp⟩
  ·obtain⟨r,m,k⟩:=Hk f e x es (i+1);have d:¬x=p.1:=λh=>b h.symm;refine⟨r,by simp[d,m],?_⟩;have n:oa a sv x (p::es)=oa a sv x es:=by grind[oa]
   rw[n];split at k
   ·obtain⟨j,w,⟨q,t,l⟩,o⟩:=k;refine⟨j+1,by grind,⟨q,by simp_all,l⟩,λg u s y=>?_⟩;grind
   grind
theorem Hl {a sv:bp} {x:a.T} {v:sv.T}:∀{es:List (a.T×sv.T)},(∀p∈es,p.1≠x)->sK a sv x v es=es++[(x,v)]
 |[],_=>rfl
 |p::es,h=>by
  simp only[sK,if_neg (h p (by simp)),γH];rw[Hl λq b=>h q (by simp[b])]
theorem Po {a sv:bp} {x:a.T} {v:sv.T}:∀{es:List (a.T×sv.T)} {j:Nat},(∃p,es[j]?=some p/\p.1=x)->(∀b<j,∀p,es[b]?=some p->p.1≠x)->sK a sv x v es=es.modify j λ_=>(x,v)
 |[],j,⟨p,h,_⟩,_=>by simp at h;|p::es,0,⟨q,h,d⟩,_=>by
  grind[sK];|p::es,j+1,⟨q,h,d⟩,c=>by
  have g:=c 0 (by omega) p (by simp);simp only[sK,if_neg g,ζI];rw[Po (j:=j) ⟨q,by simpa using h,d⟩ λb i e f=>c (b+1) (by omega) e (by simp_all)]
theorem Pq {f:List Nat} {d:Bool} {s:bp} {v:SV} {x:s.T} (e:lz f v.cellsOf=true) (o:vI d v=true) (p:s.flat=true) (n:jW s v.cellsOf=some x):ql f d v.g=some (pO s d x):=by
 have k:=nY n;have c:gL v.cellsOf=(dy s x).map .sc:=by grind[gk,CV]
 have i:=vM e c;by_cases l:∃h,v= .agg h
 ·obtain⟨h,rfl⟩:=l;simp_all[SV.cellsOf,vI,γD,ql,Hf,pO]
 ·have b:d=false:=by
   simp_all[vI]
  subst b;have j:v.cellsOf=[v]:=by
   cases v<;>first|rfl|simp_all
  rw[j] at c;simp only[gL] at c;cases m:dy s x with
  |nil=>simp_all;|cons a r=>
   rw[m] at c i;simp only[π,Γ] at c;simp_all[ql,pO]
theorem Pv {s:bp} (h:s.xA=true) (x:s.T):((encS s x).headD .ud).g=nn s x:=by
 cases s<;>simp[bp.xA] at h<;>simp[encS,nn,dy,γD]
theorem Px {s:bp} (h:s.xA=true) (x:s.T):dP s x=[nn s x]:=by
 cases s<;>simp[bp.xA] at h<;>simp[dP,nn,dy]
theorem Py {s:bp} (h:s.keyed=true):s.flat=true:=by
 cases s<;>simp[bp.keyed] at h<;>rfl
structure pQ (call:dh) (C:OY):Prop where
 pure:∀f args K,C.pure f args K->∃r:SV,call f (gL args) [] false=some (r.g,[])/\K r
 own:∀f args o K,C.own f args o K->∃(r:SV) (o':bZ),iO call f (gL args) (gO o)=some (r.g,gO o')/\K r o'
section
variable {call:dh} {p:i7} {o:bZ} {bB:Nat} {K:SV->bZ->Prop}
theorem Hm (j:pQ call p.C) {f:FuncId} {args:List SV} {own:Bool} (h:eO.zR p f args o own K):
  ∃(v:SV) (o':bZ),gK call f (gL args) (gO o) own=some (v.g,gO o')/\K v o':=by
 unfold eO.zR at h;split at h
 ·rename_i c;obtain⟨r,o',k,e⟩:=j.own _ _ _ _ h;exact⟨r,o',by simp_all[gK],e⟩
 ·rename_i c;have c:own=false:=by simp_all
  subst c;obtain⟨b,k,e⟩:=xJ (o:=gO o) (d:=6) (λv K m=>He m) h;obtain⟨r,l,i⟩:=j.pure _ _ _ e;split at i
  ·rename_i a;refine⟨r,o,?_,i⟩;simp only[gK,χ,if_false,k,l];rw[if_pos];simp only[δn] at a ⊢;rcases a with a|a
   ·left;rw[gk,List.flatMap_map];exact a
   grind[O7]
  simp_all
theorem Df (ρ:Operand->SV) (l:List Operand):gL (l.map ρ)=l.map λx=>(ρ x).g:=by simp[gk]
theorem ZA {a:List (Nat×Nat×Operand)} {ρ:Operand->SV} {cs b:List SV} (h:sJ (a.map λq=>(q.1,q.2.1,ρ q.2.2)) cs=some b):
  lx (a.map λq=>(q.1,q.2.1,(ρ q.2.2).g)) (gL cs)=some (gL b):=by
 have:=Hh h;grind[δm]
theorem Hn {a:List (Nat×Operand)} {sz:Nat} {ρ:Operand->SV} {cs b:List SV} (h:sJ (a.map λq=>(q.1,sz,ρ q.2)) cs=some b):
  lx (a.map λq=>(q.1,sz,(ρ q.2).g)) (gL cs)=some (gL b):=by
 have:=Hh h;grind[δm]
theorem Ho (z:List Value):gL (z.map SV.pd)=z.map .sc:=by rw[gk,G2]
theorem Hq (a:Nat) (z:List Value):gL ((δ a (z.map SV.pd)).flatten)=(δ a (z.map δg)).flatten:=by
 rw[gk,List.map_flatten,List.map_replicate,G2]
theorem ZB (s:bp) (x:s.T) (n:Nat):(δ n (dP s x)).flatten=cF s (δ n x):=by
 induction n<;>grind[cF]
theorem Af {ρ:Operand->SV} (l:Option Operand):(l.map ρ).map γD=l.map λx=>(ρ x).g:=by cases l<;>rfl
theorem ZC:∀{l:List Int} {i:Nat} {v:Int},i<l.length->gh (l.map λn=>δg (iv n)) 0 ((l.set i v).map λn=>δg (iv n))=(l.map λn=>δg (iv n)).set i (.sc (iv v)):=by
 intro l i v e;have d:∀(b a c:List AV),b.length=c.length->gh (a++c) a.length b=a++b:=by
  intro b;induction b with
  |nil=>grind[gh];|cons w b f=>
   intro a c h;cases c with
   |nil=>simp at h;|cons y c=>
    simp only[γF,ζs] at h;simp only[gh];have:(a++y::c).set a.length w=(a++[w])++c:=by
     simp_all
    grind
 have:=d ((l.set i v).map λn=>δg (iv n)) [] (l.map λn=>δg (iv n)) (by simp);simp_all
theorem Pz {b c:Type} (f:b->c) (x:b):∀(l:List b) (j:Nat),(l.modify j λ_=>x).map f=(l.map f).modify j λ_=>f x
 |[],j=>by simp;|a::l,0=>by simp_all;|a::l,j+1=>by simp only[ζI,π,Pz f x l j]
theorem ZD (v:Value):(δg v).cellsOf=[.sc v]:=rfl
theorem PD:∀{l:List Int} {i j:Nat} {v:Int},ui l (i+j) v j=l.set i v
 |[],_,_,_=>rfl
 |a::l,0,j,v=>by
  have h:∀(l:List Int) (c:Nat),j<c->ui l j v c=l:=by
   intro l;induction l with
   |nil=>intro _ _;rfl;|cons b l d=>intro c e;simp only[ui,if_neg (show ¬j=c by omega),d (c+1) (by omega)]
  simp_all[ui];|a::l,i+1,j,v=>by
  simp only[ui,if_neg (show ¬i+1+j=j by omega),List.set_cons_succ];rw[show i+1+j=i+(j+1) from by omega,PD]
theorem ZE {ρ:Operand->SV} {n:Nat} {a x:Operand} (h:eO p (.store n a x) ρ o bB K):
  ∃(v:SV) (o':bZ),bK call (.store n a x) (λx=>(ρ x).g) (gO o) bB=some (v.g,gO o')/\K v o':=by
 simp only[eO] at h;split at h
 ·rename_i W b L B;split at h
  ·rename_i f e Y E z;split at h
   ·rename_i D;obtain⟨V,C,X,P,R⟩:=D;refine⟨.ud,_,?_,h⟩;simp only[bK,B,γD,fR z,bq.g,C6,jY,C7];rw[if_pos ⟨V,C,X,P,R.imp (λq=>q) λhp=>G3 _ hp⟩,qA,bq.g,Aa,G6]
   simp_all
  simp_all
 ·rename_i W i b m Y B;split at h
  ·rename_i s l e E z;split at h
   ·rename_i D;obtain⟨rfl,C,X⟩:=D;obtain⟨rfl,N,P⟩:=h;obtain⟨v,hv,R⟩:=jq P;refine⟨.ud,_,?_,R⟩;have T:=nY hv;rw[<-gk,Aa,G6] at T;have O:gL (encS s (bj l i s.dflt))=dP s (bj l i s.dflt):=by rw[gk,ub]
    rw[O] at T;have y:(i+1)*s.sz<=l.length*s.sz:=γK _ N;rw[Nat.succ_mul] at y;have u:∀c∈eC E (gL (ρ x).cellsOf),Plain c:=by
     intro c hc;obtain⟨j,hj⟩:=List.mem_iff_getElem?.1 hc;have U:=(ζ.1 hj).1;rw[tQ,jY,C] at U;have a1:(gh (dP s (bj l i s.dflt)) b (eC E (gL (ρ x).cellsOf)))[b+j]?=some c:=by
      have a0:∀(r f:List AV) (b j:Nat) (c:AV),r[j]?=some c->b+r.length<=f.length->(gh f b r)[b+j]?=some c:=by
       intro r;induction r with
       |nil=>simp_all;|cons w r ih=>
        intro f b j c h M;simp only[γF] at M;simp only[gh];cases j with
        |zero=>
         simp only[List.getElem?_cons_zero,γ] at h;subst h;have F:∀(r f:List AV) (Z k:Nat),k<Z->(gh f Z r)[k]?=f[k]?:=by
          intro r;induction r<;>grind[gh]
         grind;|succ j=>
         have:=ih (f.set b w) (b+1) j c (by simpa using h) (by simp;omega);grind
      grind[tQ,jY,lU]
     grind[zM]
    obtain⟨G,Q⟩:=G7 u;simp only[bK,B,γD,fR z,bq.g,C6,eY,jY];rw[if_pos ⟨trivial,C,G,by omega,.inr Q⟩,qA,bq.g,Zo N (by grind[tQ,jY]) T]
   simp_all
  simp_all
 ·rename_i W d Y t L i B;split at h
  ·rename_i f e a3 E z;split at h
   ·rename_i v H;split at h
    ·rename_i l M;split at h
     ·rename_i D;obtain⟨V,C⟩:=D;rw[show ui l i v 0=l.set i v from PD (j:=0)] at h;obtain⟨N,hk⟩:=h;refine⟨.ud,_,?_,hk⟩;have S:(ρ x).cellsOf=[ρ x]:=by
       cases hr:ρ x<;>rw[hr] at H<;>simp[SV.int] at H<;>rfl
      have I:(ρ x).g= .sc (iv v):=iP H;have A:=CW M;have a2:l.length=t:=by
       have:=congrArg γc A;grind
      have J:gL f=gL (f.take d)++(l.map λn=>δg (iv n))++gL (f.drop (d+t)):=by
       rw[<-A,gk,gk,gk,<-γa,<-γa];congr 1;rw[<-δj,List.append_assoc,γM,γM]
      have a4:(gL (f.take d)).length=d:=by grind[jY]
      have hq:eC E [δg (iv v)]=[δg (iv v)]:=by unfold eC;split<;>rfl
      simp only[bK,B,γD,fR z,bq.g,I,ZD,List.length_singleton,jY,hq];rw[if_pos ⟨V,trivial,by simp[eK,AV.one,iv,Value.oneCell'],by omega,.inr (by simp[dB,AV.pure])⟩,qA,bq.g,Aa];congr 4;have e1:gL ((l.set i v).map (SV.si .i64))=(l.set i v).map λn=>δg (iv n):=by
       rw[gk,γ3];rfl
      rw[e1,J];have hm:=G8 ((l.set i v).map λn=>δg (iv n)) (gL (f.take d)) (l.map λn=>δg (iv n)) (gL (f.drop (d+t))) 0 (by simp);grind[ZC,gh]
     simp_all
    simp_all
   simp_all
  simp_all
 simp_all
theorem ZF {ρ:Operand->SV} {e:TypeId} {sz b:Nat} {s x:Operand} {pu:Bool} (h:eO p (.append e sz b s x pu) ρ o bB K):
  ∃(v:SV) (o':bZ),bK call (.append e sz b s x pu) (λx=>(ρ x).g) (gO o) bB=some (v.g,gO o')/\K v o':=by
 simp only[eO] at h;split at h
 ·rename_i t tl U a;split at h
  ·rename_i S n G j m R k M;split at h
   ·rename_i O l Z I H;split at h
    ·rename_i F;obtain⟨rfl,q,rfl,rfl,rfl,rfl,i,w⟩:=F;obtain⟨rfl,C,y,B⟩:=h;rw[M] at a;unfold OZ at a;split at a
     ·rename_i j' W Y;injection Y with e1 N e3;subst e1 N e3;split at a
      ·rename_i s2 N L D;split at a
       ·rename_i A;injection a with a;subst a;refine⟨_,_,?_,B⟩;have E:nf (gO o) t.sz (.os j 0 1 (1*t.sz))=some (1,gL L):=by
         simp only[nf,fR D,bq.g,cF,ζD,δK,jY];rw[if_pos ⟨by omega,A,by omega⟩,εr,γo (by grind[jY])]
        have J:eK (gL L)=true:=by grind[C7]
        simp only[bK,k,M,γD,qj];simp only[E,J,ζU,if_false,fR H,bq.g,eY,q];rw[if_pos ⟨trivial,trivial,trivial,trivial,C,y,.inl trivial⟩,qA,bq.g];grind
       ·cases a
      ·cases a
     ·cases a
    simp_all
   simp_all
  simp_all
 ·rename_i t U _;split at h
  ·rename_i z;subst z;obtain⟨f,V,d⟩:=Zx h;have r:eK (cF t f)=true:=CZ _ _;have c:dB (cF t f)=true:=o9 _ _;simp only[bK,qj,V,r,ζU,if_false];split at d
   ·rename_i k;rw[k];simp only[γD];by_cases u:f.length=0;·exact⟨_,_,by simp only[u,if_true];rfl,d.1 u⟩
    ·obtain⟨q,i,w⟩:=d.2 u;obtain⟨o',P,Q⟩:=vN w;refine⟨_,o',?_,Q⟩;simp only[bq.g] at P;rw[if_neg u,if_pos ⟨q,i,.inr c⟩,P];rfl
   ·rename_i S n G k;split at d
    ·rename_i O l Z I H;split at d
     ·rename_i F;obtain⟨rfl,q,rfl⟩:=F;obtain⟨rfl,i,w,C⟩:=d;obtain⟨l',y,B⟩:=jq C;obtain⟨rfl,T,X⟩:=Ae y;refine⟨_,_,?_,B⟩;rw[k];simp only[γD,fR H,bq.g,eY];rw[if_pos ⟨trivial,trivial,trivial,trivial,i,w,.inr c⟩,qA,bq.g,OV,T];grind
     simp_all
    simp_all
   ·rename_i O l k;obtain⟨q,i⟩:=d;refine⟨_,_,?_,i⟩;simp_all[γD]
   simp_all
  simp_all
 simp_all
theorem PE {mx:Bool} {a b:Int}:(if mx then(if b>a then b else a) else(if b<a then b else a))=if mx then max a b else min a b:=by
 grind
theorem ZG (hC:pQ call p.C) {op:cJ} {ρ:Operand->SV} (h:eO p op ρ o bB K):
  ∃(v:SV) (o':bZ),bK call op (λx=>(ρ x).g) (gO o) bB=some (v.g,gO o')/\K v o':=by
 cases op with
 |uZ x=>exact⟨_,_,rfl,h⟩;|pick c a b=>
  simp only[eO] at h;split at h;·rename_i hc;exact⟨_,_,by simp only[bK,hc,γD],h⟩
  ·rename_i hc;exact⟨_,_,by simp only[bK,hc,γD],h⟩
  ·rename_i c hc;cases c with
   |true=>exact⟨_,_,by simp only[bK,hc,γD],h.1 rfl⟩;|false=>exact⟨_,_,by simp only[bK,hc,γD],h.2 rfl⟩
  ·exact h.elim;|alloc z e pu=>
  obtain⟨o',hm,hk⟩:=vN h;simp only[bq.g,Ho] at hm;exact⟨_,o',by simp only[bK,hm,ξ,γD],hk⟩;|box e x=>
  simp only[eO] at h;split at h
  ·rename_i h1;obtain⟨o',hm,hk⟩:=vN h;simp only[bq.g] at hm;exact⟨_,o',by simp only[bK,C6,C7,h1,if_true,jY,hm,ξ,γD],hk⟩
  ·exact h.elim;|build z parts=>
  simp only[eO] at h;obtain⟨cs,h1,h2⟩:=jq h;have:=ZA h1;rw[Ho] at this;exact⟨_,_,by simp only[bK,this,ξ,γD],h2⟩;|pF z len parts e sz=>
  simp only[eO] at h;split at h
  ·rename_i s cs hs hf;split at h
   ·rename_i hsz;split at h
    ·rename_i hany;split at h
     ·rename_i hlen;obtain⟨o',hm,hk⟩:=vN h;simp only[bq.g,cF,ζD,δK] at hm;have hfa:=Hn hf;rw[Hq] at hfa;refine⟨_,o',?_,hk⟩;subst hsz;have hp:dB (gL cs)=false:=by
       clear hf hfa hm hlen h;induction cs with
       |nil=>simp at hany;|cons c cs ih=>
        simp only[List.any_cons,δn] at hany;simp only[gL,dB];rcases hany with hc|hc
        ·have h9:c.g.pure=false:=by
          cases c with
          |ow a b d=>simp[γD,AV.pure];|_=>simp[SV.O0] at hc
         rw[h9,Bool.false_and]
        ·have ih2:=ih hc;rw[ih2,Bool.and_false]
      simp only[bK,hfa,hp,eC,χ,if_false,hm,ξ,γD]
     ·exact h.elim
    obtain⟨l,h1,h2⟩:=jq h;obtain⟨h3,h4⟩:=Dc h1;obtain⟨o',hm,hk⟩:=vN h2;simp only[bq.g] at hm;have hfa:=Hn hf;rw[Hq] at hfa;refine⟨_,o',?_,hk⟩;subst hsz;rw[G5] at h3;have hp:dB (gL cs)=true:=(G7 (pu:=true) (cs:=gL cs) λc hc=>np (s:=s) (l:=l) (by rw[<-h3];exact hc)).2;have hq:eC true (gL cs)=cF s l:=h3;simp only[bK,hfa,hp,hq,hm,ξ,γD]
   ·exact h.elim
  ·exact h.elim;|tH z len parts e sz=>
  simp only[eO] at h;split at h
  ·rename_i s cs hs hf;split at h
   ·rename_i hsz;obtain⟨l,h1,h2⟩:=jq h;obtain⟨h3,h4⟩:=Dc h1;have hfa:=Hn hf;rw[Hq] at hfa;rw[G5] at h3;have hp:dB (gL cs)=true:=(G7 (pu:=true) (cs:=gL cs) λc hc=>np (s:=s) (l:=l) (by rw[<-h3];exact hc)).2;have hq:eC true (gL cs)=cF s l:=h3;exact⟨_,_,by simp only[bK,hfa,hp,hq,if_true,γD,h4],h2⟩
   ·exact h.elim
  ·exact h.elim;|load n a=>
  simp only[eO] at h;obtain⟨cs,off,v,h1,h2,h3⟩:=Ph h;exact⟨v,o,by simp only[bK,h1,h2,ξ],h3⟩;|store n a x=>exact ZE h;|u7 x=>
  simp only[eO] at h;split at h;·rename_i hx;exact⟨_,_,by simp only[bK,hx,γD],h⟩
  ·rename_i hx;exact⟨_,_,by simp only[bK,hx,γD],h⟩
  ·rename_i hx;exact⟨_,_,by simp only[bK,hx,γD],h⟩
  ·exact h.elim;|bin op x y=>
  simp only[eO] at h;obtain⟨a,b,v,v',h1,h2,h3,h4,h5⟩:=Zt h;exact⟨v',o,by simp only[bK,h1,h2,h3,ξ,h4],h5⟩;|beq neg x y=>
  simp only[eO] at h;split at h
  ·rename_i a b h1 h2;exact⟨_,_,by simp only[bK,vC h1,vC h2,γD],h⟩
  ·exact h.elim;|su neg ks x y=>
  simp only[eO] at h;split at h
  ·rename_i a b h1 h2;split at h
   ·rename_i hk;obtain⟨r,hr,h3⟩:=jq h;exact⟨_,_,by simp only[bK,h1,h2,γD,Zv hk hr,ξ],h3⟩
   ·exact h.elim
  ·exact h.elim;|tJ neg x y=>
  simp only[eO] at h;split at h
  ·rename_i h1 h2;exact⟨_,_,by simp only[bK,h1,h2,γD],h⟩
  ·rename_i h1 h2;exact⟨_,_,by simp only[bK,h1,h2,γD],h⟩
  ·exact h.elim;|un op x=>
  simp only[eO] at h;split at h;·rename_i hx;exact⟨_,_,by simp only[bK,hx,γD,tM,ξ],h⟩
  ·rename_i hx;exact⟨_,_,by simp only[bK,hx,γD,tM,ξ],h⟩
  ·rename_i k n hx;refine⟨_,_,?_,h.2⟩;have:(0:Int) - n= -n:=by omega
   simp only[bK,hx,γD,tM,ξ,this,Db h.1]
  ·rename_i hx;exact⟨_,_,by simp only[bK,hx,γD,tM,ξ],h⟩
  ·exact h.elim;|conv k x=>
  simp only[eO] at h;split at h;·rename_i hx;exact⟨_,_,by simp only[bK,hx,γD],h⟩
  ·rename_i hx;exact⟨_,_,by simp only[bK,hx,γD,Db h.1],h.2⟩
  ·rename_i kk n _ hx;exact⟨.si k (eX k n),_,by simp only[bK,hx,γD],Ac h⟩
  ·exact h.elim;|vd off x=>
  simp only[eO] at h;split at h;·rename_i hx;exact⟨_,_,by simp only[bK,hx,γD,nc,ξ],h⟩
  ·rename_i hx;exact⟨_,_,by simp only[bK,hx,γD,nc,ξ,ε2],h⟩
  ·rename_i hx;exact⟨_,_,by simp only[bK,hx,γD,nc,ξ,ε2],h⟩
  ·exact h.elim;|field off n x=>
  simp only[eO] at h;split at h
  ·rename_i cs hx;obtain⟨v,h1,h2⟩:=jq h;exact⟨_,_,by simp only[bK,hx,γD,Da h1,ξ],h2⟩
  ·exact h.elim;|ve len sz x i=>
  simp only[eO] at h;split at h
  ·rename_i k n hi;split at h
   ·rename_i hn;split at h;·rename_i hx;exact⟨_,_,by simp only[bK,hi,hx,γD,iq,if_pos hn,nc,ξ],h⟩
    ·rename_i hx;exact⟨_,_,by simp only[bK,hi,hx,γD,iq,if_pos hn,nc,ξ,ε2],h⟩
    ·rename_i hx;exact⟨_,_,by simp only[bK,hi,hx,γD,iq,if_pos hn,nc,ξ,ε2],h⟩
    ·exact h.elim
   ·exact h.elim
  ·rename_i k n hi;split at h;·rename_i hx;exact⟨_,_,by simp only[bK,hi,hx,γD,iq,if_pos (γj h.1 h.2.1),nc,ξ],h.2.2⟩
   ·exact h.elim
  ·exact h.elim;|sw sz x i=>
  simp only[eO] at h;split at h
  ·rename_i n hi;have hi:=Hj hi;split at h
   ·rename_i s l hx;split at h
    ·rename_i hsz;subst hsz;obtain⟨h1,h2,h3⟩:=h;refine⟨_,_,?_,h3⟩;simp only[bK,hi,hx,γD,qh,eY];rw[if_pos ⟨h1,h2,trivial⟩];simp
    ·exact h.elim
   ·rename_i id m sz' hx;split at h
    ·rename_i s l e pu ho;split at h
     ·rename_i hsz;obtain⟨rfl,rfl⟩:=hsz;obtain⟨rfl,h1,h2,h3⟩:=h;refine⟨_,_,?_,h3⟩;simp only[bK,hi,hx,γD,qh,fR ho,bq.g,eY];rw[pK (Nat.zero_le _),if_pos ⟨trivial,trivial,h1,h2,by omega⟩];simp
     ·exact h.elim
    ·exact h.elim
   ·rename_i id off len m sz' hx;split at h
    ·rename_i s l e pu ho;split at h
     ·rename_i hsz;obtain⟨rfl,rfl⟩:=hsz;obtain⟨rfl,h1,h2,h4,h3⟩:=h;refine⟨_,_,?_,h3⟩;have hm:(off+len)*s.sz<=l.length*s.sz:=γK _ h4;rw[δV] at hm;simp only[bK,hi,hx,γD,qh,fR ho,bq.g,eY];rw[pK (by omega),if_pos ⟨trivial,trivial,h1,h2,hm⟩];simp[δV]
     ·exact h.elim
    ·exact h.elim
   ·rename_i id off len m sz' hx;split at h
    ·rename_i s l e pu ho;split at h
     ·rename_i hsz;obtain⟨rfl,rfl⟩:=hsz;obtain⟨rfl,h1,h2,h4,h3⟩:=h;refine⟨_,_,?_,h3⟩;have hm:(off+len)*s.sz<=l.length*s.sz:=γK _ h4;have hp:=GI s;rw[δV] at hm;simp only[bK,hi,hx,γD,qh,fR ho,bq.g,eY];rw[B8 (by omega),show off*s.sz+(l.length*s.sz+s.sz) - l.length*s.sz - s.sz=off*s.sz by omega,if_pos ⟨trivial,trivial,h1,h2,hm⟩];simp[δV]
     ·exact h.elim
    ·exact h.elim
   ·exact h.elim
  ·exact h.elim;|idx len sz n x i=>
  simp only[eO] at h;split at h
  ·rename_i k' k cs hi hx;split at h
   ·rename_i hk;obtain⟨v,h1,h2⟩:=jq h;exact⟨_,_,by simp only[bK,hi,hx,γD,iq,if_pos hk,Da h1,ξ],h2⟩
   ·exact h.elim
  ·rename_i k' k cs hi hx;split at h
   ·rename_i l _ _ hl;split at h
    ·rename_i hll;obtain⟨h1,h2,h3⟩:=h;refine⟨_,_,?_,h3⟩;obtain⟨h4,h5⟩:=Pe hl;have h6:=h5 k.toNat (by omega);simp only[bK,hi,hx,γD,iq,if_pos (γj h1 h2),Nat.mul_one,gv,um,h6,ξ]
    ·exact h.elim
   ·exact h.elim
  ·exact h.elim;|wU x i=>simp only[eO] at h;|qf z e sz bytes l c pu=>
  simp only[eO] at h;split at h
  ·rename_i n m s hn hm hs;have hn:=Hj hn;have hm:=Hj hm;split at h
   ·rename_i hsz;subst hsz;obtain⟨x,hx,h1,h2,h3,h4,h5⟩:=jq h;obtain⟨o',hmk,hk⟩:=vN h5;refine⟨_,o',?_,hk⟩;have hd:=nY hx;rw[<-gk,G6,Ho] at hd;simp only[bq.g] at hmk;simp only[bK,hn,hm];rw[if_pos ⟨h1,h2,h3,h4⟩,hd,ZB,hmk];simp[γD]
   ·exact h.elim
  ·exact h.elim;|slice sz x lo hi=>
  simp only[eO] at h;split at h
  ·rename_i s l hx;split at h
   ·rename_i hsz;subst hsz;obtain⟨a,ha,h1⟩:=pP h;obtain⟨b,hb,h2,h3,h4⟩:=pP h1;refine⟨_,_,?_,h4⟩;rw[Af] at ha hb;have hlen:((l.drop a).take (b - a)).length=b - a:=by simp;omega
    simp only[bK,hx,γD,qk,ha,hb,eY,and_true,if_pos (γj h2 h3),ξ,Ab,hlen]
   ·exact h.elim
  ·rename_i id m sz' hx;split at h
   ·rename_i s l e pu ho;split at h
    ·rename_i hsz;obtain⟨rfl,rfl⟩:=hsz;obtain⟨rfl,h⟩:=h;obtain⟨a,ha,h1⟩:=pP h;obtain⟨b,hb,h2,h3,h4⟩:=pP h1;refine⟨_,_,?_,h4⟩;rw[Af] at ha hb;simp only[bK,hx,γD,qk,ha,hb,fR ho,bq.g,eY];rw[if_pos ⟨h2,h3,trivial,trivial⟩];simp
    ·exact h.elim
   ·exact h.elim
  ·rename_i id off len m sz' hx;split at h
   ·rename_i s l e pu ho;split at h
    ·rename_i hsz;obtain⟨rfl,rfl⟩:=hsz;obtain⟨rfl,h⟩:=h;obtain⟨a,ha,h1⟩:=pP h;obtain⟨b,hb,h2,h3,h4⟩:=pP h1;refine⟨_,_,?_,h4⟩;rw[Af] at ha hb;simp only[bK,hx,γD,qk,ha,hb,fR ho,bq.g,eY];rw[if_pos ⟨h2,h3,trivial,trivial⟩];simp[δV]
    ·exact h.elim
   ·exact h.elim
  ·exact h.elim;|slice3 sz x lo hi mx=>
  simp only[eO] at h;split at h
  ·rename_i s l hx;split at h
   ·rename_i hsz;subst hsz;obtain⟨a,ha,h1⟩:=pP h;obtain⟨b,hb,h2⟩:=pP h1;obtain⟨m,hm,h3,h4,h5,h6⟩:=pP h2;refine⟨_,_,?_,h6⟩;rw[Af] at ha;simp only[ξ] at hb hm;have hlen:((l.drop a).take (b - a)).length=b - a:=by simp;omega
    simp only[bK,hx,γD,sA,ha,hb,hm,eY,and_true,if_pos (γj h3 (γj h4 h5)),ξ,Ab,hlen]
   ·exact h.elim
  ·rename_i id n sz' hx;split at h
   ·rename_i s l e pu ho;split at h
    ·rename_i hsz;obtain⟨rfl,rfl⟩:=hsz;obtain⟨rfl,h⟩:=h;obtain⟨a,ha,h1⟩:=pP h;obtain⟨b,hb,h2⟩:=pP h1;obtain⟨m,hm,h3,h4,h5,h6⟩:=pP h2;refine⟨_,_,?_,h6⟩;rw[Af] at ha;simp only[ξ] at hb hm;simp only[bK,hx,γD,sA,ha,hb,hm,fR ho,bq.g,eY];rw[if_pos ⟨h3,h4,h5,trivial,trivial,by omega,GI _⟩];simp
    ·exact h.elim
   ·exact h.elim
  ·exact h.elim;|vf x lo hi=>simp only[eO] at h;|append e sz bytes s x pu=>exact ZF h;|len k x=>
  simp only[eO] at h;split at h;·rename_i hx;exact⟨_,_,by simp only[bK,hx,γD,lv,ξ],h⟩
  ·rename_i hx;exact⟨_,_,by simp only[bK,hx,γD,lv,ξ],h⟩
  ·rename_i hx;exact⟨_,_,by simp only[bK,hx,γD,lv,ξ],h⟩
  ·rename_i hx;exact⟨_,_,by simp only[bK,hx,γD,lv,ξ],h⟩
  ·rename_i hx;exact⟨_,_,by simp only[bK,hx,γD,lv,ξ];rfl,h⟩
  ·rename_i hx;exact⟨_,_,by simp only[bK,hx,γD,lv,ξ],h⟩
  ·rename_i id hx;split at h
   ·rename_i sk sv ka es kt pu ho;exact⟨_,_,by simp only[bK,hx,γD,lv,fR ho,bq.g,List.length_map,ξ],h⟩
   ·exact h.elim
  ·exact h.elim;|vg n=>exact⟨_,_,rfl,h⟩;|mm mx x y=>
  simp only[eO] at h;split at h
  ·rename_i hx hy;split at h
   ·rename_i hk;exact⟨_,_,by simp only[bK,hx,hy,γD,if_pos hk],h⟩
   ·exact h.elim
  ·rename_i k a hx;obtain⟨b,hb,h2⟩:=jq h;exact⟨_,_,by simp only[bK,hx,iP hb,γD,if_true,PE],h2⟩
  ·rename_i k a hx _;obtain⟨b,hb,h2⟩:=jq h;exact⟨_,_,by simp only[bK,hx,iP hb,γD,if_true,PE],h2⟩
  ·exact h.elim;|call f args own=>
  simp only[eO] at h;obtain⟨v,o',h1,h2⟩:=Hm hC h;rw[Df] at h1;exact⟨v,o',by simp only[bK,h1],h2⟩;|jU f args own=>
  simp only[eO] at h;split at h
  ·rename_i g first captured hf;obtain⟨v,o',h1,h2⟩:=Hm hC h;rw[uo,uo,Df] at h1;exact⟨v,o',by simp only[bK,hf,γD,h1],h2⟩
  ·exact h.elim;|extract x i=>
  simp only[eO] at h;split at h
  ·rename_i vs hx;obtain⟨v,h1,h2⟩:=jq h;exact⟨_,_,by simp only[bK,hx,γD,um,h1,ξ],h2⟩
  ·exact h.elim;|tK f first captured=>exact⟨_,_,by simp only[bK,γD,Df],h⟩;|vh t x=>
  simp only[eO] at h;split at h
  ·rename_i cs hx;split at h
   ·rename_i hp;exact⟨_,_,by simp only[bK,hx,γD,if_pos (G3 cs hp)],h⟩
   ·exact h.elim
  ·exact h.elim;|oV tab x args=>
  simp only[eO] at h;split at h
  ·rename_i t cs hx;split at h
   ·rename_i f hf;obtain⟨v,o',h1,h2⟩:=Hm hC h;simp only[gL,γD,Df] at h1;exact⟨v,o',by simp only[bK,hx,γD,hf,h1],h2⟩
   ·exact h.elim
  ·exact h.elim;|qg kt pu=>
  simp only[eO] at h;split at h
  ·rename_i sk sv hs;obtain⟨o',hm,hk⟩:=vN h;simp only[bq.g,γr] at hm;exact⟨_,o',by simp only[bK,hm,ξ,γD],hk⟩
  ·exact h.elim;|lookup z agg ks ka x k ok=>
  simp only[eO] at h;split at h
  ·rename_i id hx;split at h
   ·rename_i sk sv xC es kt pu ho;split at h
    ·rename_i hh;obtain⟨rfl,rfl,h1,h2,rfl,h4,h5,h6⟩:=hh;obtain⟨kv,hkv,h7⟩:=jq h;obtain⟨zv,hzv,h8⟩:=jq h7;have hkey:=Pq h5 h6 (Py h1) hkv;have hz:rb z false=some (nn sv zv):=by
      have hd:=nY hzv;rw[G2,Px h2] at hd;cases z with
      |nil=>simp at hd;|cons a r=>
       cases r with
       |nil=>simp only[π,γr,Γ,and_true] at hd;simp[rb,hd];|cons=>simp at hd
     obtain⟨r,hr,hm⟩:=Hk (sv:=sv) h1 h4 kv es 0;refine⟨_,_,?_,h8⟩;simp only[bK,hx,γD,hkey,fR ho,bq.g,if_true,hr,hz];cases hf:oa sk sv kv es with
     |some v=>
      rw[hf] at hm;obtain⟨j,rfl,_⟩:=hm;simp only[Option.getD_some];cases ok<;>simp only[χ,if_false,if_true,γD,gL,Pv h2,ζV,ζi];|none=>
      rw[hf] at hm;obtain⟨rfl,_⟩:=hm;simp only[Option.getD_none];cases ok<;>simp only[χ,if_false,if_true,γD,gL,Pv h2,ζV,ζi]
    ·exact h.elim
   ·exact h.elim
  ·exact h.elim;|ra ks ka x k v=>
  simp only[eO] at h;split at h
  ·rename_i id hx;split at h
   ·rename_i sk sv xC es kt pu ho;split at h
    ·rename_i hh;obtain⟨rfl,rfl,h1,h2,h4,h5,h6,h9⟩:=hh;obtain⟨kv,hkv,h7⟩:=jq h;obtain⟨vv,hvv,h8⟩:=jq h7;have hkey:=Pq h5 h6 (Py h1) hkv;have hv:(ρ v).g=nn sv vv:=by
      have hd:=nY hvv;rw[Px h2] at hd;have hc:(ρ v).cellsOf=[ρ v]:=by
       revert h9;cases ρ v<;>simp[SV.cellsOf,vI]
      rw[hc] at hd;simpa using hd
     obtain⟨r,hr,hm⟩:=Hk (sv:=sv) h1 h4 kv es 0;refine⟨_,_,?_,h8⟩;have hpure:(nn sv vv).pure=true:=by simp[nn,AV.pure]
     simp only[bK,hx,γD,hkey,fR ho,bq.g,hv,hpure,hr,qA];rw[if_neg (by simp)];cases hf:oa sk sv kv es with
     |some w=>
      rw[hf] at hm;obtain⟨j,rfl,h10,h11⟩:=hm;rw[Po h10 h11];simp only[Nat.zero_add];rw[Pz];|none=>
      rw[hf] at hm;obtain⟨rfl,h10⟩:=hm;rw[Hl h10];simp
    ·exact h.elim
   ·exact h.elim
  ·exact h.elim
end
mutual
theorem Hr {o:Store} {k:Nat}:∀{v:AV},v.bY k=true->v.bV o (λi=>decide (k<=i))=some v
 | .os m d j e,h=>by
  simp_all[AV.bY,AV.bV,if_neg];| .ptr m d e,h=>by
  simp_all[AV.bY,AV.bV,if_neg];| .agg g,h=>by simp only[AV.bY] at h;simp only[AV.bV,xK h,ξ];| .bI g,h=>by simp only[AV.bY] at h;simp only[AV.bV,xK h,ξ];| .fn f a b,h=>by
  simp only[AV.bY,θ] at h;simp only[AV.bV,xK h.1,xK h.2];| .ud,_| .sc _,_| .sl _ _,_| .ep _ _,_| .mp _,_| .jo _ _,_=>by simp only[AV.bV]
theorem xK {o:Store} {k:Nat}:∀{l:List AV},eu k l=true->gW o (λi=>decide (k<=i)) l=some l
 |[],_=>by simp[gW];|c::g,h=>by
  simp only[eu,θ] at h;simp only[gW,Hr h.1,xK h.2]
end
theorem PG {o:Store} {k:Nat}:∀{l:List (Value×AV)},eu k (l.map (·.2))=true->qp o (λi=>decide (k<=i)) l=some l
 |[],_=>by simp[qp];|(q,c)::a,h=>by
  simp only[π,eu,θ] at h;simp only[qp,Hr h.1,PG h.2]
theorem ZH {o:Store} {k:Nat} {x:bR} (h:x.bY k=true):x.bV o (λi=>decide (k<=i))=some x:=by
 cases x with
 |dead=>rfl;|cells b e f a=>
  cases a with
  |true=>simp only[bR.bV,if_true];|false=>simp_all[bR.bY,bR.bV,xK]
 |map d c a=>
  cases a with
  |true=>simp only[bR.bV,if_true];|false=>simp_all[bR.bY,bR.bV,PG]
theorem PH {o:Store} {k:Nat}:∀{r:Store},(∀x∈r,x.bY k=true)->jG o (λi=>decide (k<=i)) r=some r
 |[],_=>rfl
 |x::r,h=>by
  simp only[jG,ZH (h x (by simp)),PH (r:=r) λy a=>h y (by simp[a])]
theorem PI {k:Nat}:∀{o:Store} {i:Nat},(fQ (λj=>decide (k<=j)) i o).take (k - i)=o.take (k - i)
 |[],i=>by simp[fQ];|x::r,i=>by
  simp only[fQ];by_cases a:i<k
  ·rw[show k - i=(k - (i+1))+1 from by omega,δt,δt,PI];grind
  simp_all
theorem ais {k i:Nat} (h:i<k):(ω k).contains i=true:=by simp[h]
theorem PK {o:Store} {k:Nat}:∀{d:Nat} {vs:List AV},eu k vs=true->cT o d vs (ω k)=ω k:=by
 intro d;induction d with
 |zero=>grind[cT];|succ d e=>
  intro vs h;cases vs with
  |nil=>simp[cT];|cons v vs=>
   simp only[eu,θ] at h;have i:=h.1;simp only[cT];cases v with
   |agg g=>grind[AV.bY];|bI g=>grind[AV.bY];|fn f a b=>grind[AV.bY];|ptr c _ _=>simp_all[AV.bY];|os c _ _ _=>simp_all[AV.bY];|mp c=>simp_all[AV.bY];|_=>simp only[e h.2]
theorem PL:∀{n s i p:Nat},s<=i->i<s+n->idxOf (ζy s n) i p=some (p+(i - s))
 |0,s,i,p,a,b=>by omega;|n+1,s,i,p,a,b=>by
  simp only[εw,idxOf];by_cases h:s=i;·subst h;simp
  ·have:(s==i)=false:=by simpa using h
   rw[this];simp only[χ,if_false];rw[PL (by omega) (by omega)];grind
theorem Ht {k i:Nat} (h:i<k):idxOf (ω k) i=some i:=by
 rw[δD,PL (by omega) (by omega)];simp
mutual
theorem Dh {k:Nat}:∀{v:AV},v.bY k=true->v.ren (λj=>idxOf (ω k) j)=some v
 | .os g d m e,h=>by simp_all[AV.bY,δw,Ht];| .ptr g d e,h=>by simp_all[AV.bY,δw,Ht];| .mp g,h=>by simp_all[AV.bY,δw,Ht];| .agg i,h=>by simp only[AV.bY] at h;simp only[δw,xM h,ξ];| .bI i,h=>by simp only[AV.bY] at h;simp only[δw,xM h,ξ];| .fn f a b,h=>by
  simp only[AV.bY,θ] at h;simp only[δw,xM h.1,xM h.2];| .ud,_| .sc _,_| .sl _ _,_| .ep _ _,_| .jo _ _,_=>by simp only[δw]
theorem xM {k:Nat}:∀{l:List AV},eu k l=true->iN (λj=>idxOf (ω k) j) l=some l
 |[],_=>by simp[iN];|c::i,h=>by
  simp only[eu,θ] at h;simp only[iN,Dh h.1,xM h.2]
end
theorem PN {k:Nat}:∀{l:List (Value×AV)},eu k (l.map (·.2))=true->oY (λj=>idxOf (ω k) j) l=some l
 |[],_=>by simp[oY];|(q,c)::a,h=>by
  simp only[π,eu,θ] at h;simp only[oY,Dh h.1,PN h.2]
theorem ZI {k:Nat} {x:bR} (h:x.bY k=true):x.ren (λj=>idxOf (ω k) j)=some x:=by
 cases x with
 |dead=>rfl;|cells b e f a=>
  cases a with
  |true=>simp only[bR.ren,if_true];|false=>simp_all[bR.bY,bR.ren,xM]
 |map d c a=>
  cases a with
  |true=>simp only[bR.ren,if_true];|false=>simp_all[bR.bY,bR.ren,PN]
theorem Hu {k:Nat} {o:Store} (a:∀x∈o.take k,x.bY k=true) (c:k<=o.length):∀{n s:Nat},s+n=k->kY o (ω k) (ζy s n)=some ((o.take k).drop s)
 |0,s,h=>by
  grind[kY];|n+1,s,h=>by
  simp only[εw,kY];have d:s<o.length:=by omega
  have e:o[s]?=some o[s]:=μ d;rw[e,Hu a c (by omega)];have f:o[s]∈o.take k:=by
   rw[List.mem_take_iff_getElem];grind
  simp only[ZI (a _ f),ξ];congr 1;have b:s<(o.take k).length:=by simp;omega
  rw[List.drop_eq_getElem_cons b];simp
theorem nodup_range':∀{n s:Nat},iO.pG (ζy s n)=true
 |0,_=>by simp[iO.pG];|n+1,s=>by
  simp only[εw,iO.pG,nodup_range',δT,Bool.not_eq_true'];grind
theorem PO {k:Nat}:∀{a b:List AV},eu k a=true->eu k b=true->eu k (a++b)=true
 |[],b,_,h=>h
 |x::a,b,h,c=>by
  simp only[eu,θ] at h;simp only[γH,eu,h.1,PO h.2 c,Bool.and_self]
theorem Hv {k:Nat}:∀{o:Store},(∀x∈o,x.bY k=true)->eu k (o.flatMap lN.bR.zn)=true
 |[],_=>by simp[eu];|x::o,h=>by
  simp only[δZ];refine PO ?_ (Hv λy a=>h y (by simp[a]));have b:=h x (by simp);cases x<;>grind[lN.bR.zn,eu,bR.bY]
theorem PQ {k:Nat} {r:AV} {o:Store} (e:r.bY k=true) (b:∀x∈o,x.bY k=true) (j:k<=o.length):lN k r o=some (r,o.take k):=by
 unfold lN;rw[Hr e,PH b];simp only;have a:(fQ (λi=>decide (k<=i)) 0 o).take k=o.take k:=by simpa using PI (k:=k) (o:=o) (i:=0)
 have d:∀{o:Store} {i:Nat},(fQ (λi=>decide (k<=i)) i o).length=o.length:=by
  intro o;induction o with
  |nil=>intro i;rfl;|cons x o l=>simp_all[fQ]
 have h:∀x∈o.take k,x.bY k=true:=λx g=>b x (List.mem_of_mem_take g);rw[a,PK (by grind[eu,Hv])];have f:iO.pG (ω k)=true:=by rw[δD];exact nodup_range'
 rw[if_pos f,Dh e];have c:=Hu (k:=k) (o:=fQ (λi=>decide (k<=i)) 0 o) (by simp_all) (by simp_all) (n:=k) (s:=0) (by omega);rw[<-δD,a,εr] at c;rw[c]
theorem Hw:∀{env:fD} {s:Nat} {v:SV},(jX env s).g=v.g->gE (xE env s v)=gE env
 |[],_,_,_=>rfl
 |p::r,s,v,h=>by
  simp only[xE,jX] at h ⊢;cases a:δs p.1 s with
  |true=>
   simp_all[gE];|false=>
   rw[a] at h;simp only[cond_false] at h ⊢;have:=Hw h;grind[gE]
theorem ZJ {env:fD} {g:Option (Option Nat×Bool)} {K:fD->Bool->Prop} (h:GU env g K):∃a w,gE a=gE env/\mE (gE env) g=some w/\K a w:=by
 unfold GU at h;split at h;·exact⟨_,_,rfl,rfl,h⟩
 ·exact h.elim
 ·rename_i s b;split at h;·grind[mE,oh,γD]
  ·rename_i c d;cases c<;>grind[Hw,mE,oh,γD]
  all_goals grind[mE,oh,γD,gL]
section
variable {call:dh} {p:i7}
theorem PR:∀{a b:bZ},kH a b->gO a=gO b
 |[],[],_=>rfl
 |x::a,y::b,h=>by
  obtain⟨c,d⟩:=h;have e:x.g=y.g:=c;simp only[gO,π,e];congr 1;exact PR d
def vO:Trace->Trace->Prop
 |[],[]=>True
 |x::a,y::b=>(x.1=y.1/\x.2.1=y.2.1/\∀j∈x.2.2,j∈y.2.2)/\vO a b
 |_,_=>False
theorem vO.look:∀{a b:Trace} {i:Nat},vO a b->(qo a i).1=(qo b i).1/\∀j∈(qo a i).2,j∈(qo b i).2
 |[],[],_,_=>⟨rfl,λj h=>h⟩
 |(k,x)::a,(g,y)::b,i,h=>by
  obtain⟨⟨c,e,d⟩,f⟩:=h;simp only at c e d;subst c;simp only[qo];split;·exact⟨e,d⟩
  ·exact vO.look f
theorem ZK {a b d c:List Nat} (f:∀j∈a,j∈d) (e:∀j∈b,j∈c) (h:wW d c=true):wW a b=true:=by
 grind[wW]
theorem ZL {n:Nat} {a b:Trace} {c:List (Nat×Nat)} (h:vO a b) (d:tN n b c=true):tN n a c=true:=by
 unfold tN at d ⊢;rw[List.all_eq_true] at d ⊢;intro p e;have l:=d p e;obtain⟨g,k⟩:=h.look (i:=p.1);obtain⟨f,j⟩:=h.look (i:=p.2);grind[ZK]
theorem Hy (u:pQ call p.C) {base:Nat}:∀{d:List dC} {st:cu} {l:Trace} {K:cu->Trace->Prop},xF p base d st l K->
  ∃st' T,gi call base d st.g=some st'.g/\vO (mG call base d st.g) T/\K st' (T.reverse++l)
 |[],st,l,K,h=>⟨st,[],rfl,trivial,h⟩
 |i::r,st,l,K,h=>by
  simp only[xF] at h;obtain⟨a,w,B,s,q⟩:=ZJ h;have A:st.g=⟨gE a,gO st.o⟩:=by grind[cu.g]
  rw[<-B] at s;cases w with
  |true=>
   simp only[if_true] at q;obtain⟨v,y,E,c⟩:=ZG u q;have b:iw call base i st.g=some (cu.g ⟨vD a i.dst v,y⟩):=by
    grind[iw,O6,zl,cu.g,O4]
   have k:∀W:List Nat,(∀j∈ew call i.op (λx=>(jK a x).g) (gO st.o) (base+i.bB),j∈W)->
     xF p base r ⟨vD a i.dst v,y⟩ ((i.idx,dR i.op (λx=>(jK a x).g) (st.o.map bq.g) (base+i.bB),W)::l) K->
     ∃st' T,gi call base (i::r) st.g=some st'.g/\vO (mG call base (i::r) st.g) T/\K st' (T.reverse++l):=λW G c=>by
    obtain⟨st',T,D,z,F⟩:=Hy u c;refine⟨st',(i.idx,dR i.op (λx=>(jK a x).g) (st.o.map bq.g) (base+i.bB),W)::T,by grind[gi],?_,?_⟩
    ·simp only[mG,b];rw[A];simp only[s,O6];exact⟨⟨rfl,rfl,G⟩,z⟩
    simp_all
   unfold O1 at c;split at c
   ·rename_i f n t;split at c
    ·obtain⟨H,c⟩:=c;refine k [] (λj m=>?_) c;rw[t] at E m;have e:iO call f (n.map λx=>(jK a x).g) (gO st.o)=some (v.g,gO y):=by simp_all[bK,gK]
     simp only[ew,e,List.mem_filter,decide_eq_true_eq] at m;grind[PR]
    ·exact k _ (λj m=>Gt m) c
   ·exact k _ (λj m=>Gt m) c;|false=>
   simp only[χ,if_false] at q;obtain⟨st',T,D,z,F⟩:=Hy u q;have b:iw call base i st.g=some (cu.g ⟨vD a i.dst (.bI []),st.o⟩):=by
    grind[iw,cu.g,O4,γD,gL]
   refine⟨st',(i.idx,[],[])::T,by grind[gi],?_,?_⟩
   ·simp only[mG,b];rw[A];simp only[s];exact⟨⟨rfl,rfl,λj h=>h⟩,z⟩
   simp_all
theorem ZM (k:Nat):gO (δ k .dead)=gj k:=by simp[gO,gj,bq.g]
theorem PS (a b:bZ):gO (a++b)=gO a++gO b:=by simp[gO]
theorem ZN (x:bq):x.g.mZ=x.mZ:=by cases x<;>rfl
theorem ZO (base:Nat) (o:bZ):gO (GV base o)=rc base (gO o):=by
 unfold GV rc;have:((gO o).drop base).all (·.mZ)=(o.drop base).all (·.mZ):=by
  simp only[gO,<-List.map_drop,ζ3];grind[ZN]
 rw[this];cases(o.drop base).all (·.mZ);·rfl
 ·simp[gO]
theorem ZP (i:pQ call p.C) {k:Nat} {b:List dC} {a:List (Nat×Nat)} {st:cu} {K:cu->Prop} (h:GX p k b a st K):∃st',pH call k b a st.g=some st'.g/\K st':=by
 unfold GX at h;obtain⟨st',T,f,j,d⟩:=Hy i h;rw[List.append_nil,List.reverse_reverse] at d;have e:(cu.mk st.env (st.o++δ k .dead)).g=⟨st.g.env,st.g.o++gj k⟩:=by simp[cu.g,PS,ZM]
 rw[e] at f j;have c:st.g.o.length=st.o.length:=by simp[cu.g,om]
 split at d
 ·rename_i l;refine⟨_,?_,d⟩;simp only[pH,c];rw[f];simp only;rw[if_pos (by
   grind[gj,ZL])];grind[cu.g,ZO]
 simp_all
end
theorem Di {v:SV}:isNil v=true↔v.g= .sc (.slice none 0 0):=by
 constructor
 ·intro h;unfold isNil at h;split at h;·rfl
  ·cases h
 ·intro h;cases v<;>simp only[γD,reduceCtorEq,δd] at h;subst h;rfl
section
variable {o:bZ} {id:Nat} {s:bp} {l:List s.T} {e:TypeId}
def pid (id:Nat):Nat->Bool:=λi=>i==id
mutual
theorem PT (r:o[id]?=some (.row s l e true)):∀{v:SV} {K:SV->Prop},jL id s l v K->∃E:SV,v.g.bV (gO o) (pid id)=some E.g/\K E
 | .ow j n A,K,h=>by
  simp only[jL] at h;split at h
  ·rename_i q;subst q;split at h
   ·rename_i u;subst u;obtain⟨rfl,D⟩:=h;refine⟨_,?_,D⟩;have I:Δ (l.length*s.sz) (cF s l)=cF s l:=γo (by grind[eY]);simp_all[γD,AV.bV,pid,fR,bq.g,eY]
   simp_all
  ·rename_i q;refine⟨_,?_,h⟩;simp_all[γD,AV.bV,pid];| .os j w p n A,K,h=>by
  simp only[jL] at h;split at h
  ·rename_i q;subst q;split at h
   ·rename_i u;subst u;obtain⟨rfl,C,D⟩:=h;refine⟨_,?_,D⟩;have F:(w+p)*s.sz<=l.length*s.sz:=γK _ C;rw[δV] at F;have B:((l.drop w).take p).length=p:=by simp;omega
    simp only[γD,AV.bV,pid,BEq.rfl,if_true,fR r,bq.g,eY,F,and_self,Ab,B]
   simp_all
  ·rename_i q;refine⟨_,?_,h⟩;simp_all[γD,AV.bV,pid];| .oc j w p n A,K,h=>by
  simp only[jL] at h;split at h;·exact h.elim
  ·rename_i q;exact⟨_,by simp_all[γD,AV.bV,pid],h⟩;| .rp j i f n A,K,h=>by
  simp only[jL] at h;split at h;·exact h.elim
  ·rename_i q;exact⟨_,by simp_all[γD,AV.bV,pid],h⟩;| .ptr j f t,K,h=>by
  simp only[jL] at h;split at h;·exact h.elim
  ·rename_i q;exact⟨_,by simp_all[γD,AV.bV,pid],h⟩;| .ap j a b c d i,K,h=>by
  simp only[jL] at h;split at h;·exact h.elim
  ·rename_i q;exact⟨_,by simp_all[γD,AV.bV,pid],h⟩;| .agg x,K,h=>by
  simp only[jL] at h;obtain⟨m,z,y⟩:=vP r h;grind[γD,AV.bV];| .bI x,K,h=>by
  simp only[jL] at h;obtain⟨m,z,y⟩:=vP r h;grind[γD,AV.bV];| .fn f a b,K,h=>by
  simp only[jL] at h;obtain⟨M,z,y⟩:=vP r h;obtain⟨L,G,H⟩:=vP r y;grind[γD,AV.bV];| .ud,K,h=>⟨.ud,by grind[γD,AV.bV],by grind[jL]⟩
 | .sc v,K,h=>⟨.sc v,by grind[γD,AV.bV],by grind[jL]⟩
 | .il k n,K,h=>⟨.il k n,by grind[γD,AV.bV],by grind[jL]⟩
 | .si k n,K,h=>⟨.si k n,by grind[γD,AV.bV],by grind[jL]⟩
 | .bl b,K,h=>⟨.bl b,by grind[γD,AV.bV],by grind[jL]⟩
 | .sb b,K,h=>⟨.sb b,by grind[γD,AV.bV],by grind[jL]⟩
 | .row s l,K,h=>⟨.row s l,by grind[γD,AV.bV],by grind[jL]⟩
 | .ep s l i f,K,h=>⟨.ep s l i f,by grind[γD,AV.bV],by grind[jL]⟩
 | .mp i,K,h=>⟨.mp i,by grind[γD,AV.bV],by grind[jL]⟩
 | .ia t x,K,h=>⟨.ia t x,by grind[γD,AV.bV],by grind[jL]⟩
 | .ite c a b,K,h=>⟨.ite c a b,by grind[γD,AV.bV],by grind[jL]⟩
theorem vP (r:o[id]?=some (.row s l e true)):∀{x:List SV} {K:List SV->Prop},rD id s l x K->∃m:List SV,gW (gO o) (pid id) (gL x)=some (gL m)/\K m
 |[],K,h=>⟨[],by simp[gL,gW],by grind[rD]⟩
 |c::x,K,h=>by
  simp only[rD] at h;obtain⟨J,z,y⟩:=PT r h;obtain⟨m,G,H⟩:=vP r y;grind[gL,gW]
end
theorem Hz (b:o[id]?=some (.row s l e true)):∀{env:fD} {K:fD->Prop},zS id s l env K->∃a,vk (gO o) (pid id) (gE env)=some (gE a)/\K a
 |[],K,h=>⟨[],rfl,h⟩
 |(k,v)::r,K,h=>by
  simp only[zS] at h;obtain⟨f,d,c⟩:=PT b h;obtain⟨j,g,i⟩:=Hz b c;grind[gE,vk]
theorem Dj {o:Store} {q:Nat->Bool}:∀{cs:List AV},(∀a∈cs,Plain a)->gW o q cs=some cs
 |[],_=>by simp[gW];|a::cs,h=>by
  have d:=Dj (o:=o) (q:=q) (cs:=cs) λb c=>h b (by simp[c]);rcases h a (by simp) with⟨v,rfl,_⟩|⟨n,e,rfl,_⟩<;>simp only[gW,AV.bV,d]
theorem HA {o:Store} {q:Nat->Bool}:∀{es:List (Value×AV)},(∀a∈es,∃v,a.2= .sc v)->qp o q es=some es
 |[],_=>by simp[qp];|(k,a)::es,h=>by
  obtain⟨v,b⟩:=h (k,a) (by simp);simp only at b;subst b;simp only[qp,AV.bV,HA (es:=es) λa c=>h a (by simp[c])]
theorem sM (j:o[id]?=some (.row s l e true)):∀{i:Nat} {r:bZ} {K:bZ->Prop},od id s l i r K->∃r' mid,jG (gO o) (pid id) (gO r)=some mid/\fQ (pid id) i mid=gO r'/\K r'
 |i,[],K,h=>⟨[],[],rfl,rfl,h⟩
 |i,x::r,K,h=>by
  cases x with
  |dead=>
   simp only[od] at h;obtain⟨r',mid,w,n,f⟩:=sM j h;grind[gO,bq.g,jG,bR.bV,fQ];|cells N p F d=>
   simp only[od] at h;cases d with
   |true=>
    simp only[if_true] at h;split at h;·exact h.elim
    ·rename_i B;obtain⟨r',mid,w,n,f⟩:=sM j h;refine⟨_,.cells (gL N) p F true::mid,?_,?_,f⟩;all_goals simp_all[gO,bq.g,jG,bR.bV,fQ,pid];|false=>
    simp only[χ,if_false] at h;obtain⟨A,z,k⟩:=vP j h;obtain⟨r',mid,w,n,f⟩:=sM j k;refine⟨_,.cells (gL A) p F false::mid,?_,?_,f⟩;all_goals simp_all[gO,bq.g,jG,bR.bV,fQ]
  |o8 v u p t=>
   simp only[od] at h;split at h;·exact h.elim
   ·obtain⟨O,z,k⟩:=vP j h;split at k
    ·rename_i m M;obtain⟨L,_⟩:=Dc M;obtain⟨r',mid,w,n,f⟩:=sM j k;refine⟨_,(bq.row v (u++m) p false).g::mid,?_,?_,f⟩
     ·simp only[gO,π,bq.g] at w z ⊢;have G:∀(a b c:List AV),gW (γb bq.g o) (pid id) a=some a->gW (γb bq.g o) (pid id) b=some c->gW (γb bq.g o) (pid id) (a++b)=some (a++c):=λa b c w n=>by
       induction a<;>grind[gW]
      have P:gW (γb bq.g o) (pid id) (cF v u)=some (cF v u):=Dj (λa C=>np C);simp_all[jG,bR.bV,OV]
     ·simp only[bq.g,fQ,n];rfl
    simp_all;|row v u p d=>
   simp only[od] at h;have y:(bq.row v u p d).g.bV (gO o) (pid id)=some (bq.row v u p d).g:=by
    cases d with
    |true=>simp only[bq.g,bR.bV,if_true];|false=>
     simp only[bq.g,bR.bV,χ,if_false];grind[Dj,np]
   split at h
   ·rename_i B;cases d with
    |false=>simp_all;|true=>
     simp only[if_true] at h;obtain⟨r',mid,w,n,f⟩:=sM j h;refine⟨_,(bq.row v u p true).g::mid,?_,?_,f⟩;all_goals simp_all[gO,jG,bq.g,fQ,pid]
   ·rename_i B;obtain⟨r',mid,w,n,f⟩:=sM j h;refine⟨_,(bq.row v u p d).g::mid,?_,?_,f⟩;·grind[gO,jG]
    ·cases d<;>simp only[bq.g,fQ,n,pid,beq_iff_eq,if_neg B]<;>rfl;|map H D I E J d=>
   simp only[od] at h;have y:(bq.map H D I E J d).g.bV (gO o) (pid id)=some (bq.map H D I E J d).g:=by
    cases d with
    |true=>simp only[bq.g,bR.bV,if_true];|false=>
     simp only[bq.g,bR.bV,χ,if_false];rw[HA (λa C=>by obtain⟨q,_,rfl⟩:=Ψ.1 C;exact⟨_,rfl⟩),ξ]
   obtain⟨r',mid,w,n,f⟩:=sM j h;grind[gO,jG,bq.g,fQ]
end
theorem ZQ {v:SV}:(∃id,uj.xG v=some id/\∃a b c,v.g= .os id a b c)\/(uj.xG v=none/\∀id a b c,v.g≠ .os id a b c):=by
 cases v<;>simp[uj.xG,γD]
theorem PU {p:i7} {lo:Nat} {h:kB} {st:cu} {K:cu->Prop} {v:SV} (t:h.own=false) (f:BS h st.g=some v.g)
  (d:match uj.xG v with
   |some id=>if Nat.ble lo id then(match st.o[id]? with
    |some (.row s l e pu)=>zS id s l st.env λenv=>od id s l 0 (if pu then st.o else st.o.set id (.row s l e true)) λo=>K ⟨env,o⟩
    |_=>False) else K st
   |none=>K st):∃st',kg lo h st.g=st'.g/\K st':=by
 let _:=p;unfold kg;rw[if_neg (by simp[t]),f];rcases @ZQ v with⟨id,w,a,b,c,x⟩|⟨w,x⟩
 ·rw[w] at d;rw[x];simp only at d ⊢;split at d
  ·rename_i q;rw[if_pos q];split at d
   ·rename_i s l e pu m;have D:(λi=>i==id)=pid id:=rfl;cases pu with
    |true=>
     simp only[if_true] at d;obtain⟨j,A,n⟩:=Hz m d;obtain⟨B,u,C,y,r⟩:=sM m n;refine⟨_,?_,r⟩;simp_all[zm,cu.g,fR,bq.g,BW];|false=>
     simp only[χ,if_false] at d;have z:id<st.o.length:=(ζ.1 m).1;have k:(st.o.set id (.row s l e true))[id]?=some (.row s l e true):=by simp_all
     obtain⟨j,A,n⟩:=Hz (o:=st.o.set id (.row s l e true)) k d;obtain⟨B,u,C,y,r⟩:=sM k n;refine⟨_,?_,r⟩;simp_all[zm,cu.g,fR,bq.g,o9,qA,BW]
   simp_all
  grind
 grind
section
variable {p:i7} {lo:Nat}
theorem ZR {h:kB} {st:cu} {K:cu->Prop} (a:uj p lo h st K):∃st',kg lo h st.g=st'.g/\K st':=by
 unfold uj at a;split at a
 ·rename_i f;unfold kg;rw[if_pos f];unfold BV;split at a
  ·rename_i b;simp only[b];split at a
   ·rename_i r;have t:=Di.1 r;rw[<-oh] at t;have B:dK st.g.env h.slot= .sc (.slice none 0 0):=t;rw[B];split at a
    ·rename_i s J;split at a
     ·rename_i w;refine⟨_,?_,a⟩;simp[cu.g,gE,gO,γD,bq.g,cF,w]
     simp_all
    simp_all
   ·rename_i r;split at a
    ·rename_i z;split at a
     ·rename_i m G D d;have n:dK st.g.env h.slot= .os m 0 G (G*D):=by
       show dK (gE st.env) h.slot=_;rw[oh,d];rfl
      rw[n];split at a
      ·rename_i s l e y;refine⟨_,?_,a⟩;simp_all[BU,cu.g,fR,bq.g,qA]
      simp_all
     simp_all
    ·rename_i z;refine⟨st,?_,a⟩;split
     ·rename_i L;have:dK (gE st.env) h.slot= .sc (.slice none 0 0):=L;grind[oh,Di]
     all_goals simp_all
  ·rename_i k b;simp only[b];split at a
   ·rename_i m c j d;have n:dK st.g.env h.slot= .ptr m c j:=by
     show dK (gE st.env) h.slot=_;rw[oh,d];rfl
    rw[n];split at a
    ·rename_i i e F E y;have u:st.g.o[m]?=some (.cells (gL i) e F E):=fR y;simp only[u];split at a
     ·rename_i r;cases C:i[c+k]? with
      |none=>simp_all;|some v=>
       rw[C] at r;simp only[Option.any_some] at r;have M:=Di.1 r;have A:(gL i)[c+k]?=some (.sc (.slice none 0 0)):=by grind[um]
       simp only[A,jY];split at a
       ·rename_i I;rw[if_pos I];split at a
        ·rename_i s J;split at a
         ·rename_i w;refine⟨_,?_,a⟩;have N:gL (i.set (c+k) (.ow st.o.length 0 h.sz))=(gL i).set (c+k) (.os st.o.length 0 0 0):=by
           simp_all[gk,γD]
          simp_all[cu.g,bq.g,gO,cF]
         simp_all
        simp_all
       simp_all
     grind[um,Di]
    simp_all
   simp_all
 ·rename_i f;have f:h.own=false:=by simpa using f
  unfold uj.O2 at a;cases b:h.off with
  |none=>
   rw[b] at a;simp only at a;refine PU (p:=p) (v:=jX st.env h.slot) f ?_ ?_;all_goals grind[BS,cu.g,oh];|some k=>
   rw[b] at a;simp only at a;cases q:jX st.env h.slot with
   |ptr m c j=>
    rw[q] at a;simp only at a;cases y:st.o[m]? with
    |none=>simp_all;|some x=>
     rw[y] at a;cases x with
     |cells i e F E=>
      simp only at a;by_cases H:i.length=j
      ·rw[if_pos H] at a;cases C:i[c+k]? with
       |none=>simp_all;|some v=>
        rw[C] at a;refine PU (p:=p) (v:=v) f ?_ ?_
        ·unfold BS;rw[b];have:dK st.g.env h.slot= .ptr m c j:=by
          show dK (gE st.env) h.slot=_;rw[oh,q];rfl
         have u:st.g.o[m]?=some (.cells (gL i) e F E):=fR y;simp_all[behind,jY,um]
        grind
      simp_all;|_=>exact a.elim
   |_=>rw[q] at a;exact a.elim
theorem HB:∀{hs:List kB} {st:cu} {K:cu->Prop},zT p lo hs st K->∃st',hs.foldl (λs h=>kg lo h s) st.g=st'.g/\K st'
 |[],st,K,h=>⟨st,rfl,h⟩
 |h::hs,st,K,hk=>by
  simp only[zT] at hk;obtain⟨st1,h1,h2⟩:=ZR hk;obtain⟨st2,h3,h4⟩:=HB h2;exact⟨st2,by rw[List.foldl_cons,h1,h3],h4⟩
theorem ZS (a:List Nat) (env:fD):gE (GY a env)=prune a (gE env):=by
 simp[GY,prune,gE,<-oh]
theorem HC (k:Nat) (st:cu):(trimS k st).g=trim k st.g:=by
 unfold trimS trim;have b:st.g.o.length=st.o.length:=by simp[cu.g,om]
 have c:(st.g.env.all λp=>p.2.bY k)=(st.env.all λp=>p.2.bY k):=by
  simp only[cu.g,gE,ζ3];grind[zZ]
 have d:((st.g.o.take k).all λx=>x.bY k)=((st.o.take k).all λx=>x.bY k):=by
  simp only[cu.g,gO,<-List.map_take,ζ3];grind[C9]
 rw[b,c,d];by_cases a:st.o.length<=k;·simp_all
 ·rw[if_neg a,if_neg a];split;·simp[cu.g,gO]
  ·rfl
variable {T:Tab}
theorem PV {v:Int} {n:Nat} {K:Nat->Prop}:∀{j:Nat},j<=n->splitN v n K j->(n - j:Nat)<=v->∃i:Nat,v=i/\K i
 |0,_,h,a=>by
  grind[splitN];|j+1,c,h,a=>by
  simp only[splitN] at h;by_cases b:v=(n - (j+1):Nat);·grind
  ·exact PV (by omega) h.2 (by omega)
theorem PW {v:Int} {n:Nat} {K:Nat->Prop}:∀{j:Nat},splitN v n K j->0<=v
 |0,h=>h.1
 |j+1,h=>PW h.2
theorem ZT {x:Option (Nat×Nat×Nat)} {st:cu} {K:cu->Prop} (h:splitK x st K):∃st',st'.g=st.g/\K st':=by
 unfold splitK at h;split at h;·grind
 ·rename_i p a n;split at h
  ·rename_i c e q r b;split at h
   ·rename_i k v o;obtain⟨i,rfl,f⟩:=PV (Nat.le_refl _) h (by have:=PW h;omega);refine⟨_,?_,f⟩;have l:gL (c.set a (.il k i))=gL c:=by
     rw[gk,gk,List.map_set];apply γ9;grind[γD]
    simp only[cu.g,qA,bq.g,l,cu.mk.injEq,St.mk.injEq,true_and];apply γ9;intro j;rw[List.getElem?_set];split
    ·rename_i d;subst d;have m:=(ζ.1 b).1;rw[if_pos (by grind[om]),G9,b];rfl
    ·rfl
   simp_all
  simp_all
theorem PX:∀{e a:fD},xH e a->gE e=gE a
 |[],[],_=>rfl
 |[],_::_,h=>by grind[xH];|_::_,[],h=>by grind[xH];|(k,v)::e,(d,c)::a,h=>by
  simp only[xH] at h;split at h
  ·rename_i b;subst b;have:=PX h.2;simp only[gE,π] at this ⊢;rw[this,show v.g=c.g from h.1]
  simp_all
theorem xN:∀{o o':bZ},kH o o'->gO o=gO o'
 |[],[],_=>rfl
 |[],_::_,h=>by grind[kH];|_::_,[],h=>by grind[kH];|x::o,y::o',h=>by
  simp only[kH] at h;have:=xN h.2;simp only[gO,π] at this ⊢;rw[this,show x.g=y.g from h.1]
theorem Dk {s t:cu} (h:zU s t):s.g=t.g:=by
 simp only[cu.g,PX h.1,xN h.2]
theorem ait (env:fD) (args:List Operand):args.map (eG (gE env))=gL (args.map (jK env)):=by
 simp_all[gk,zY]
theorem vQ (hC:pQ T.K p.C) (hI:∀f F,p.it f=some F->T.fn f=some F):∀{c:IR} {Λ:Nat->cC} {st:cu} {Q:Out->cu->Prop},wpS p lo c Λ st Q->VW T zL lo c st.g λout s=>∃ss,s=ss.g/\Q out ss:=by
 intro c;induction c with
 |skip=>intro Λ st Q h;exact VW.skip ⟨st,rfl,h⟩;|exit id=>intro Λ st Q h;exact VW.exit ⟨st,rfl,h⟩;|ret=>intro Λ st Q h;exact VW.ret ⟨st,rfl,h⟩;|goto l=>intro Λ st Q h;exact VW.goto ⟨st,rfl,h⟩;|oW x a b iha ihb=>
  intro Λ st Q h;simp only[wpS] at h;have hx:eG st.g.env x=(jK st.env x).g:=zY _ _;split at h
  ·rename_i he;rw[he] at hx;exact VW.oW hx (by rw[if_pos rfl];exact iha h)
  ·rename_i he;rw[he] at hx;exact VW.oW hx (by rw[if_neg (by simp)];exact ihb h)
  ·rename_i c he;rw[he] at hx;have hset:∀v:SV,(SV.sb c).g=v.g->(cu.mk (C5 st.env x v) st.o).g=st.g:=λv hv=>by
    cases x with
    |tmp t=>
     have:jX st.env t= .sb c:=he;simp only[cu.g,C5];rw[Hw (by rw[this];exact hv)];|_=>rfl
   refine VW.oW hx ?_;cases c with
   |true=>
    have:=iha (h.1 rfl);rw[hset (.bl true) rfl] at this;rw[if_pos rfl];exact this;|false=>
    have:=ihb (h.2 rfl);rw[hset (.bl false) rfl] at this;rw[if_neg (by simp)];exact this
  ·exact h.elim;|turns l b ih=>
  intro Λ st Q h;cases l with
  |none=>
   simp only[wpS] at h;refine VW.Ze ((ih h).mono ?_);rintro out s ⟨ss,rfl,h2⟩;cases out with
   |norm=>exact⟨by simp,ss,rfl,h2⟩;|exit id=>exact⟨by simp,ss,rfl,h2⟩;|ret=>exact⟨by simp,ss,rfl,h2⟩;|goto l=>exact h2.elim
  |some l=>
   simp only[wpS] at h;split at h
   ·rename_i X shape next J m inner _;obtain⟨⟨h0,hx⟩,hstep⟩:=h;refine VW.Zf (λk s=>∃x,s=(shape x).g/\J x/\m x=k) ?_ (m (next st)) _ ⟨next st,Dk h0,hx,rfl⟩;rintro k s ⟨x,rfl,hj,rfl⟩;refine(ih (hstep x hj)).mono ?_;rintro out s ⟨ss,rfl,h2⟩;cases out with
    |goto l'=>
     obtain⟨rfl,h3,h4,h5⟩:=h2;refine .inl ⟨rfl,_,h5,_,?_,h4,rfl⟩;have h6:=Dk h3;rw[<-h6,HC,show(shape x).o.length=(shape x).g.o.length from by simp[cu.g,om]];|norm=>exact .inr ⟨by simp,ss,rfl,h2⟩;|exit id=>exact .inr ⟨by simp,ss,rfl,h2⟩;|ret=>exact .inr ⟨by simp,ss,rfl,h2⟩
   ·exact h.elim
 |region id draw k ops kC live pre post=>
  intro Λ st Q h;simp only[wpS] at h;obtain⟨st0,h0,h⟩:=ZT h;obtain⟨st1,h1,h2⟩:=HB h;obtain⟨st2,h3,h4⟩:=ZP hC h2;obtain⟨G0,h5,h6⟩:=HB h4;refine VW.region ?_;rw[<-h0,h1,h3];refine⟨G0,?_,h6⟩;rw[<-h5];simp only[cu.g,ZS];|tL g caps d a b _ _=>intro Λ st Q h;exact h.elim;|seq a b iha ihb=>
  intro Λ st Q h;simp only[wpS] at h;refine VW.seq ((iha h).mono ?_);rintro out s ⟨ss,rfl,h2⟩;cases out with
  |norm=>rw[if_pos rfl];exact ihb h2;|exit id=>rw[if_neg (by simp)];exact⟨ss,rfl,h2⟩;|ret=>rw[if_neg (by simp)];exact⟨ss,rfl,h2⟩;|goto l=>rw[if_neg (by simp)];exact⟨ss,rfl,h2⟩
 |cond x a b iha ihb=>
  intro Λ st Q h;simp only[wpS] at h;have hx:eG st.g.env x=(jK st.env x).g:=zY _ _;have hdr:(cu.mk (xI x st.env) st.o).g=⟨pI x st.g.env,st.g.o⟩:=by
   have:∀(t:Nat) (env:fD),(zV t env).map (λp=>(p.1,p.2.g))=rj t (env.map λp=>(p.1,p.2.g)):=by
    intro t env;induction env with
    |nil=>rfl;|cons p env ih=>
     simp only[zV,rj,π];cases δs p.1 t with
     |true=>simpa using ih;|false=>simpa using ih
   cases x with
   |tmp t=>simp only[cu.g,gE,xI,pI];rw[this];|_=>rfl
  split at h
  ·rename_i he;rw[he] at hx;exact VW.cond hx (by rw[if_pos rfl,<-hdr];exact iha h)
  ·rename_i he;rw[he] at hx;exact VW.cond hx (by rw[if_neg (by simp),<-hdr];exact ihb h)
  ·rename_i c he;rw[he] at hx;refine VW.cond hx ?_;cases c with
   |true=>rw[if_pos rfl,<-hdr];exact iha (h.1 rfl);|false=>rw[if_neg (by simp),<-hdr];exact ihb (h.2 rfl)
  ·exact h.elim;|block id b ih=>
  intro Λ st Q h;simp only[wpS] at h;exact VW.block ((ih h).mono λout s ⟨ss,e,h2⟩=>⟨ss,e,h2⟩);|loop b ih=>
  intro Λ st Q h;simp only[wpS] at h;split at h
  ·rename_i n ZU;clear ZU;induction n generalizing st with
   |zero=>exact h.elim;|succ n ihn=>
    simp only[GZ] at h;refine VW.loop ((ih h).mono ?_);rintro out s ⟨ss,rfl,h2⟩;cases out with
    |norm=>
     rw[if_pos rfl];have:=ihn h2;rwa [HC,show st.o.length=st.g.o.length from by simp[cu.g,om]] at this;|exit id=>rw[if_neg (by simp)];exact⟨ss,rfl,h2⟩;|ret=>rw[if_neg (by simp)];exact⟨ss,rfl,h2⟩;|goto l=>rw[if_neg (by simp)];exact⟨ss,rfl,h2⟩
  ·exact h.elim
  ·rename_i X shape next J m inner _;obtain⟨⟨h0,hx⟩,hstep⟩:=h;refine VW.Zd (λk s=>∃x,s=(shape x).g/\J x/\m x=k) ?_ (m (next st)) _ ⟨next st,Dk h0,hx,rfl⟩;rintro k s ⟨x,rfl,hj,rfl⟩;refine(ih (hstep x hj)).mono ?_;rintro out s ⟨ss,rfl,h2⟩;cases out with
   |norm=>
    rw[if_pos rfl];obtain⟨h3,h4,h5⟩:=h2;refine⟨_,h5,_,?_,h4,rfl⟩;have h6:=Dk h3;rw[<-h6,HC,show(shape x).o.length=(shape x).g.o.length from by simp[cu.g,om]];|exit id=>rw[if_neg (by simp)];exact⟨ss,rfl,h2⟩;|ret=>rw[if_neg (by simp)];exact⟨ss,rfl,h2⟩;|goto l=>rw[if_neg (by simp)];exact⟨ss,rfl,h2⟩
theorem PY {st:cu}:∀{a:List ng} {K:List SV->Prop},og.goK st a K->∃l,a.mapM (rf st.g)=some (gL l)/\K l
 |[],K,h=>⟨[],by simp[gL],h⟩
 |r::a,K,h=>by
  simp only[og.goK] at h;have b:∃v,rf st.g r=some v.g/\og.goK st a λl=>K (v::l):=by
   unfold og.O3 at h;unfold rf;split at h
   ·rename_i c;rw[c];exact⟨_,by grind[cu.g,oh],h⟩
   grind[Ph,cu.g,oh]
  obtain⟨v,i,d⟩:=b;obtain⟨l,f,e⟩:=PY d;exact⟨v::l,by simp_all[gL],e⟩
theorem xO {st:cu} {b:List ng} {K:SV->Prop} (h:og st b K):∃r,nV st.g b=some r.g/\K r:=by
 unfold og at h;obtain⟨l,c,a⟩:=PY h;unfold nV;rw[c];match l,a with
 |[],a=>exact⟨_,rfl,a⟩;|[v],a=>exact⟨v,rfl,a⟩;|v::w::l,a=>exact⟨_,rfl,a⟩
theorem vR:∀(i:Nat) (args:List SV),gE (nu i args)=ix i (gL args)
 |_,[]=>rfl
 |i,v::a=>by
  have:=vR (i+1) a;grind[gE,nu,gL,ix]
theorem HD {Λ:Nat->cC} {P:Program} (hT:kG P T) (hC:pQ T.K p.C) (hI:∀f F,p.it f=some F->T.fn f=some F) {f:FuncId} {F:fz} (hF:T.fn f=some F) {args:List SV} {r:AV} (hK:T.K f (gL args) [] false=none) (hlen:args.length=F.params)
  {Q:SV->Prop} (hQ:∀v,Q v->v.g=r) (h:uk p Λ F args Q):gX P f=true/\kF P f (gL args) [] r []:=by
 unfold uk at h;have hw:=vQ hC hI h;have hst:(cu.mk (nu 0 args) []).g=⟨ix 0 (gL args),[]⟩:=by simp[cu.g,vR,gO]
 rw[hst] at hw;obtain⟨h1,h2,_⟩:=CU hT hF (o:=[]) (own:=false) hK (by rw[jY];exact hlen) (v:=r) (o':=[]) (hw.mono λout s hs=>by
  obtain⟨ss,rfl,hq⟩:=hs;cases out with
  |exit id=>exact hq.elim;|goto l=>exact hq.elim;|norm=>
   obtain⟨r0,h1,h2⟩:=xO hq;obtain⟨v,h3,h4⟩:=He h2;refine⟨.inl rfl,?_⟩;rw[h1];show finish false 0 r0.g ss.g.o=_;have:freeze ss.g.o 6 r0.g=some v.g:=h3;simp[finish,this,hQ _ h4];|ret=>
   obtain⟨r0,h1,h2⟩:=xO hq;obtain⟨v,h3,h4⟩:=He h2;refine⟨.inr rfl,?_⟩;rw[h1];show finish false 0 r0.g ss.g.o=_;have:freeze ss.g.o 6 r0.g=some v.g:=h3;simp[finish,this,hQ _ h4]);exact⟨h1,h2⟩
end
structure qB (α:Type) where
 put:α->SV
 dec:SV->Option α
 ok:∀v a,dec v=some a->v.g=(put a).g
 inj:∀a b,(put a).g=(put b).g->a=b
structure qC (α:Type) where
 put:α->List SV
 dec:List SV->Option α
 ok:∀v a,dec v=some a->gL v=gL (put a)
 inj:∀a b,gL (put a)=gL (put b)->a=b
def qC.one {d:Type} (c:qB d):qC d where
 put a:=[c.put a];dec
  |[v]=>c.dec v
  |_=>none;ok v a h:=by
  match v,h with
  |[v],h=>simp only[gL,c.ok v a h]
 inj a b h:=by
  simp only[gL,Γ,and_true] at h;exact c.inj a b h
def qC.cons {f g:Type} (c:qB f) (d:qC g):qC (f×g) where
 put a:=c.put a.1::d.put a.2;dec
  |v::e=>match c.dec v,d.dec e with
   |some a,some b=>some (a,b)
   |_,_=>none
  |[]=>none;ok v a h:=by
  match v,h with
  |v::e,h=>
   simp only at h;split at h
   ·rename_i x y j i;simp only[γ] at h;subst h;simp only[gL,c.ok v x j,d.ok e y i]
   ·cases h
 inj a b h:=by
  simp only[gL,Γ] at h;exact Prod.ext (c.inj _ _ h.1) (d.inj _ _ h.2)
def qC.nil:qC Unit where
 put _:=[];dec
  |[]=>some ()
  |_=>none;ok v a h:=by
  grind
 inj a b h:=rfl
structure bM where
 f:FuncId
 α:Type
 A:qC α
 dom:α->Prop
 res:α->SV
def Holds (P:Program) (c:bM):Prop:=∀a,c.dom a->gX P c.f=true/\kF P c.f (gL (c.A.put a)) [] (c.res a).G []
def pR (f:FuncId):List bM->Option bM
 |[]=>none
 |c::r=>bif δs c.f f then some c else pR f r
def vS (L:List bM) (f:FuncId) (args:List SV) (K:SV->Prop):Prop:=
 match pR f L with
 |some c=>ja (c.A.dec args) λa=>c.dom a/\C4 (c.res a) K
 |none=>False
structure nz where
 K:FuncId->List AV->Store->Option (AV×Store)
 C:FuncId->List SV->bZ->(SV->bZ->Prop)->Prop
def nz.none:nz:=⟨λ_ _ _=> .none,λ_ _ _ _=>False⟩
noncomputable def sN (L:List bM) (W:nz):dh:=λf args o own=>
 if own then W.K f args o
 else match o with
  |[]=>match pR f L with
   |some c=>(ans (λa=>gL (c.A.put a)) c.dom (λa=>(c.res a).G) args).map λv=>(v,[])
   |none=> .none
  |_=> .none
noncomputable def qD (a:FuncId->Option fz) (L:List bM) (W:nz):Tab:=⟨a,sN L W⟩
structure qE (P:Program) (W:nz):Prop where
 K:∀f args o r o',W.K f args o=some (r,o')->gX P f=true/\kF P f args o r o'
 C:∀(call:dh),(∀f args o,call f args o true=W.K f args o)->∀f args o K,W.C f args o K->∃(r:SV) (o':bZ),iO call f (gL args) (gO o)=some (r.g,gO o')/\K r o'
theorem qE.none (P:Program):qE P nz.none where
 K:=λ_ _ _ _ _ h=>by cases h
 C:=λ_ _ _ _ _ _ h=>h.elim
theorem PZ:∀{L:List bM} {f:FuncId} {c:bM},pR f L=some c->c.f=f/\c∈L
 |[],_,_,h=>by cases h;|d::L,f,c,h=>by
  simp only[pR] at h;cases a:δs d.f f with
  |true=>
   simp_all;|false=>
   rw[a] at h;simp only[cond_false] at h;obtain⟨b,e⟩:=PZ h;simp_all
theorem HE:∀{v:SV} {K:SV->Prop},C4 v K->∃w:SV,w.g=v.G/\K w
 | .ite c a b,K,h=>by
  cases c with
  |true=>exact HE (v:=a) (h.1 rfl);|false=>exact HE (v:=b) (h.2 rfl)
 | .ud,_,h| .sc _,_,h| .il _ _,_,h| .si _ _,_,h| .bl _,_,h| .sb _,_,h| .agg _,_,h| .bI _,_,h| .row _ _,_,h| .ep _ _ _ _,_,h| .ptr _ _ _,_,h| .ap _ _ _ _ _ _,_,h| .rp _ _ _ _ _,_,h| .ow _ _ _,_,h| .os _ _ _ _ _,_,h| .oc _ _ _ _ _,_,h| .mp _,_,h| .fn _ _ _,_,h| .ia _ _,_,h=>⟨_,rfl,h⟩
theorem Ag:∀{w v:SV},v.sL w->v.g=w.G
 | .ite c a b,v,h=>by
  cases c with
  |true=>exact Ag (w:=a) (h.1 rfl);|false=>exact Ag (w:=b) (h.2 rfl)
 | .ud,_,h| .sc _,_,h| .il _ _,_,h| .si _ _,_,h| .bl _,_,h| .sb _,_,h| .agg _,_,h| .bI _,_,h| .row _ _,_,h| .ep _ _ _ _,_,h| .ptr _ _ _,_,h| .ap _ _ _ _ _ _,_,h| .rp _ _ _ _ _,_,h| .ow _ _ _,_,h| .os _ _ _ _ _,_,h| .oc _ _ _ _ _,_,h| .mp _,_,h| .fn _ _ _,_,h| .ia _ _,_,h=>h
variable {P:Program} {L:List bM} {W:nz} {fn:FuncId->Option fz}
theorem vT (j:qE P W) (k:∀c∈L,Holds P c) (n:kG P ⟨fn,λ_ _ _ _=>none⟩):kG P (qD fn L W) where
 fn:=n.fn;K:=λg e o b r q h=>by
  simp only[qD,sN] at h;cases b with
  |true=>
   simp only[if_true] at h;obtain⟨p,d⟩:=j.K _ _ _ _ _ h;simp_all;|false=>
   simp only[χ,if_false] at h;split at h
   ·split at h
    ·rename_i c l;obtain⟨rfl,f⟩:=PZ l;obtain⟨v,m,d⟩:=ε.1 h;simp only[Prod.mk.injEq] at d;obtain⟨rfl,rfl⟩:=d;obtain⟨a,rfl,i,rfl⟩:=Zh m;obtain⟨t,s⟩:=k c f a i;simp_all
    ·cases h
   ·cases h
theorem vU (hW:qE P W):pQ (qD fn L W).K ⟨vS L,W.C⟩ where
 pure:=λf args K h=>by
  simp only[vS] at h;split at h
  ·rename_i c hc;obtain⟨a,h1,h2,h3⟩:=jq h;obtain⟨r,h4,h5⟩:=HE h3;refine⟨r,?_,h5⟩;have:=c.A.ok _ _ h1;simp only[qD,sN,χ,if_false,hc,this];rw[Zg (enc:=λa=>gL (c.A.put a)) c.A.inj h2,h4];rfl
  ·exact h.elim
 own:=λf args o K h=>hW.C _ (λf args o=>by simp[qD,sN]) f args o K h
theorem HF {f:FuncId} {args:List AV} (h:pR f L=none):(qD fn L W).K f args [] false=none:=by
 simp[qD,sN,h]
def oo (L:List bM) (W:nz) (a:TypeId->Option bp) (c:List Nat×Bool->Option (bp×bp)) (b:FuncId->Option fz):i7:=⟨⟨vS L,W.C⟩,a,c,λ_=>none,b,λ_=>false⟩
theorem holds_of (c:bM) {F:fz} {ty:TypeId->Option bp} {mt:List Nat×Bool->Option (bp×bp)} {Λ:c.α->Nat->cC} (h0:kG P ⟨fn,λ_ _ _ _=>none⟩) (hW:qE P W) (hL:∀c∈L,Holds P c)
  (hF:fn c.f=some F) (hfr:pR c.f L=none) (hlen:∀a,(c.A.put a).length=F.params)
  (h:∀a,c.dom a->uk (oo L W ty mt fn) (Λ a) F (c.A.put a) λv=>v.sL (c.res a)):Holds P c:=by
 intro a hd;exact HD (p:=oo L W ty mt fn) (Λ:=Λ a) (vT hW hL h0) (vU hW) (λ_ _ h=>h) hF (HF hfr) (hlen a) (λ_ h=>Ag h) (h a hd)
def HG (L:List bM) (W:nz) (a:TypeId->Option bp) (c:List Nat×Bool->Option (bp×bp)) (b:FuncId->Option fz) (d:FuncId->Bool):i7:=⟨⟨vS L,W.C⟩,a,c,λ_=>none,b,d⟩
theorem ZV (c:bM) {F:fz} {ty:TypeId->Option bp} {mt:List Nat×Bool->Option (bp×bp)} {ro:FuncId->Bool} {Λ:c.α->Nat->cC} (h0:kG P ⟨fn,λ_ _ _ _=>none⟩) (hW:qE P W) (hL:∀c∈L,Holds P c)
  (hF:fn c.f=some F) (hfr:pR c.f L=none) (hlen:∀a,(c.A.put a).length=F.params)
  (h:∀a,c.dom a->uk (HG L W ty mt fn ro) (Λ a) F (c.A.put a) λv=>v.sL (c.res a)):Holds P c:=by
 intro a hd;exact HD (p:=HG L W ty mt fn ro) (Λ:=Λ a) (vT hW hL h0) (vU hW) (λ_ _ h=>h) hF (HF hfr) (hlen a) (λ_ h=>Ag h) (h a hd)
def eZ (k:IntKind):qB Int where
 put n:=.si k n;dec v:=v.int k;ok v a h:=by rw[iP h];rfl
 inj a b h:=by grind[γD]
def P0:qB Bool where
 put b:=.sb b;dec v:=v.boo;ok v a h:=by rw[vC h];rfl
 inj a b h:=by grind[γD]
theorem sO:(s:bp)->(x y:s.T)->dy s x=dy s y->(e:s.flat=true:=by rfl)->x=y
 | .i k,x,y,h,_=>by grind[dy];| .b,x,y,h,_=>by grind[dy];| .ff,⟨o,B,r,f,j,q⟩,⟨p,l,g,u,A,z⟩,h,_=>by
  simp_all[dy,iv];| .off,⟨b,⟨o,B,r,f,j,q⟩,v⟩,⟨c,⟨p,l,g,u,A,z⟩,w⟩,h,_=>by
  simp_all[dy,iv];| .need,⟨a,b⟩,⟨c,d⟩,h,_=>by
  simp_all[dy,iv];| .key,⟨b,⟨o,B,r,f,j,q⟩⟩,⟨c,⟨p,l,g,u,A,z⟩⟩,h,_=>by
  simp_all[dy,iv];| .sit,⟨m,⟨o,B,r,f,j,q⟩,⟨K,F,G,N,L,P⟩⟩,⟨n,⟨p,l,g,u,A,z⟩,⟨O,J,M,I,H,E⟩⟩,h,_=>by
  simp_all[dy,iv];| .bD _,_,_,_,e=>by grind[bp.flat];| .pair s t,(a,b),(c,d),h,e=>by
  simp only[bp.flat,θ] at e;simp only[dy] at h;obtain⟨D,C⟩:=εI h (by grind[GK]);rw[sO s a c D e.1,sO t b d C e.2]
theorem HH {d i:Type} {n:Nat} {f:d->List i} (a:∀x,(f x).length=n) (c:∀x y,f x=f y->x=y):∀{l m:List d},l.length=m.length->l.flatMap f=m.flatMap f->l=m
 |[],[],_,_=>rfl
 |[],_::_,h,_=>by simp at h;|_::_,[],h,_=>by simp at h;|x::l,y::m,b,h=>by
  simp only[δZ] at h;obtain⟨e,g⟩:=εI h (by rw[a,a]);simp only[γF,ζs] at b;rw[c x y e,HH a c b g]
theorem xQ:(s:bp)->(x y:s.T)->(h:dP s x=dP s y)->x=y
 | .bD s,x,y,h=>by
  simp only[dP,Γ,AV.sl.injEq,and_true] at h;exact HH (lU s) (xQ s) h.1 h.2;| .pair s t,(a,b),(c,d),h=>by
  simp only[dP] at h;obtain⟨e,f⟩:=εI h (by grind[lU]);rw[xQ s a c e,xQ t b d f];| .i k,x,y,h=>sO (.i k) x y (uq h)
 | .b,x,y,h=>sO .b x y (uq h)
 | .ff,x,y,h=>sO .ff x y (uq h)
 | .off,x,y,h=>sO .off x y (uq h)
 | .need,x,y,h=>sO .need x y (uq h)
 | .key,x,y,h=>sO .key x y (uq h)
 | .sit,x,y,h=>sO .sit x y (uq h)
theorem lA (s:bp) {l m:List s.T} (a:l.length=m.length) (h:cF s l=cF s m):l=m:=
 HH (lU s) (xQ s) a h
def dY (s:bp):qB s.T where
 put x:=.agg (encS s x);dec
  | .agg c=>jW s c
  |_=>none;ok v a h:=by
  grind[γD,gk,nY,ub]
 inj a b h:=by
  grind[γD,gk,ub,xQ]
theorem pe {s:bp} {v:SV} {l:List s.T} (h:jJ s v=some l):v.g=(SV.row s l).g:=by
 cases v<;>simp only[jJ,reduceCtorEq] at h;grind[Ae,γD,cF]
def dL (s:bp):qB (List s.T) where
 put l:=.row s l;dec:=jJ s;ok v a h:=pe h;inj a b h:=by
  grind[γD,lA]
end Go.Vi
