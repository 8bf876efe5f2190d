/-
  The symbolic run: its operations, and what must hold for a piece of code to come to a post. Plain definitions: no proof stands here.
  Conditions: none.
-/
import Derived.Test.YtjcmncmajmoiiaaGreatEX04
set_option maxRecDepth 100000
set_option maxHeartbeats 4000000
set_option linter.all false
open And renaming intro->γj
open BitVec renaming ofInt->γu
open Bool renaming and_eq_true->ζ,and_true->δZ,false_eq_true->ω,or_eq_true->δu,true_eq_false->ζM
open Function renaming comp_def->δj
open Go.Vi.AV renaming sc->δl,ren->δH
open Go.Vi.AV.sc renaming injEq->γ4
open Go.Vi.SV renaming g->γI
open List renaming replicate->ε,map_map->δr,mem_map->γf,length_cons->γz,length->γp,drop_drop->γW,getElem?_eq_getElem->ξ,take->γe,take_of_length_le->γl,map_cons->θ,take_append_drop->Ψ,cons_append->γE,modify_succ_cons->ζD,getElem?_eq_some_iff->ι,map_append->γd,flatMap_nil->ζx,nil_append->δk,drop_zero->δQ,map_nil->γo,take_succ_cons->εc,range->χ,range'->ζt,range'_succ->εz,range_eq_range'->δN,flatMap_cons->δ7,all_map->ζS,map->γk,ext_getElem?->δg,append_inj->εI
open List.cons renaming injEq->τ
open Nat renaming beq->δD,add_assoc->ε0,mul_le_mul_right->γN,add_mul->δ2,add_right_cancel_iff->ζm,le_refl->φ
open Option renaming map_eq_some_iff->δ,map_some->μ,isSome_some->ζN,isSome_none->ζb
open Option.some renaming injEq->γ
namespace Go.Vi
abbrev fw:=List (Nat×SV)
abbrev bX:=List bq
structure cq where
 env:fw
 o:bX
def jK:fw->Nat->SV
 |[],_=> .ud
 |p::r,s=>bif δD p.1 s then p.2 else jK r s
def vk (env:fw) (a:Option Nat) (v:SV):fw:=
 match a with
 |none=>env
 |some d=>(d,v)::env
def SV.oU:Value->SV
 | .int k n=> .il k n
 | .bool b=> .bl b
 |v=> .sc v
def SV.uK:Value->SV
 | .agg a=>if a.toList.all (·.oneCell') then .agg (a.toList.map .oU) else .ud
 | .tuple _=> .ud
 | .int k n=> .il k n
 | .bool b=> .bl b
 |v=> .sc v
def jm (env:fw):Operand->SV
 | .tmp t=>jK env t
 | .const v=> .uK v
 | .global _=> .ud
 | .func f=> .fn (.func f) [] []
def SV.cellsOf:SV->List SV
 | .agg a=>a
 |v=>[v]
def SV.one:SV->Bool
 | .agg _| .bH _| .ud| .ite _ _ _=>false
 | .sc v=>v.oneCell'
 |_=>true
def xg (l:List SV):Bool:=l.all (·.one)
mutual
def SV.pure:SV->Bool
 | .sc _| .il .. | .si .. | .bl _| .sb _| .row .. =>true
 |_=>false
def zn:List SV->Bool
 |[]=>true
 |c::a=>c.pure&&zn a
end
mutual
def SV.ca (k:Nat):SV->Bool
 | .ud| .sc _| .il .. | .si .. | .bl _| .sb _| .row .. | .ep .. =>true
 | .agg cs| .bH cs=>su k cs
 | .ptr id .. | .ap id .. | .rp id .. | .ow id .. | .os id .. | .oc id .. | .mp id=>decide (id<k)
 | .fn _ a b=>su k a&&su k b
 | .ia _ _| .ite _ _ _=>true
def su (k:Nat):List SV->Bool
 |[]=>true
 |c::cs=>c.ca k&&su k cs
end
def bq.ca (k:Nat):bq->Bool
 | .cells b _ _ a=>a||su k b
 | .oQ _ _ _ t=>su k t
 |_=>true
mutual
def SV.kY:SV->Bool
 | .ud| .sc _| .il .. | .si .. | .bl _| .sb _=>true
 | .agg a| .bH a=>CG a
 |_=>false
def CG:List SV->Bool
 |[]=>true
 |c::a=>c.kY&&CG a
end
def bY (k:IntKind) (n:Int):Prop:=
 match k with
 | .i64=> -9223372036854775808<=n/\n<=9223372036854775807
 |k=>k.wrap n=n
def vl (k:IntKind) (n:Int) (K:Int->Prop):Prop:=
 match k with
 | .u32=>K (n % 4294967296)
 | .u64=>K (n % 18446744073709551616)
 |k=>bY k n/\K n
structure OD where
 pure:FuncId->List SV->(SV->Prop)->Prop
 own:FuncId->List SV->bX->(SV->bX->Prop)->Prop
structure iN where
 C:OD
 ty:TypeId->Option bn
 mt:List Nat×Bool->Option (bn×bn)
 sp:Nat->Option (Nat×Nat×Nat):=λ_=>none
 it:FuncId->Option fp:=λ_=>none
 ro:FuncId->Bool:=λ_=>false
def sw (cs:List SV) (a:Nat):Option Nat->Option SV
 |none=>cs[a]?
 |some n=>if a+n<=cs.length then some (.agg ((cs.drop a).take n)) else none
def tN (cs:List SV) (a:Nat):List SV->List SV
 |[]=>cs
 |v::b=>tN (cs.set a v) (a+1) b
def iO {b:Type} (x:Option b) (K:b->Prop):Prop:=match x with|some a=>K a|none=>False
def vm {b:Type} (f:SV->(b->Prop)->Prop):List SV->(List b->Prop)->Prop
 |[],K=>K []
 |v::c,K=>f v λa=>vm f c λd=>K (a::d)
def rq (o:bX):Nat->SV->(SV->Prop)->Prop
 |_,.ud,K=>K .ud
 |_,.sc v,K=>match v with
  | .slice none 0 0=>K (.row (.i .i64) [])
  |v=>K (.sc v)
 |_,.il k n,K=>K (.il k n)
 |_,.si k n,K=>K (.si k n)
 |_,.bl b,K=>K (.bl b)
 |_,.sb b,K=>K (.sb b)
 |_,.row s l,K=>K (.row s l)
 |_,.ia t cs,K=>K (.ia t cs)
 |d+1,.agg cs,K=>vm (rq o d) cs λcs'=>K (.agg cs')
 |d+1,.bH cs,K=>vm (rq o d) cs λcs'=>K (.bH cs')
 |d+1,.fn f a b,K=>vm (rq o d) a λa'=>vm (rq o d) b λb'=>K (.fn f a' b')
 |_+1,.ow id n sz,K=>match o[id]? with
  |some (.row s l _ _)=>if sz=s.sz then n=l.length/\K (.row s l) else False
  |_=>False
 |_+1,.os id off len n sz,K=>match o[id]? with
  |some (.row s l _ _)=>if sz=s.sz then n=l.length/\off+len<=n/\K (.row s ((l.drop off).take len)) else False
  |_=>False
 |_,_,_=>False
def mQ (o:bX) (a:SV) (n:Option Nat) (K:SV->Prop):Prop:=
 match a with
 | .ptr h b d=>match o[h]? with
  |some (.cells c _ _ _)=>if c.length=d then iO (sw c b n) K else False
  |_=>False
 | .ap h e g f d i=>match o[h]? with
  |some (.cells c _ _ _)=>if c.length=d/\e+g*f<=d then i<f/\zo ((c.drop e).take (g*f)) g i n K else False
  |_=>False
 | .ep s l i b=>i<l.length/\iO (sw (encS s (bj l i s.dflt)) b n) K
 | .rp h i b m g=>match o[h]? with
  |some (.row s l _ _)=>if g=s.sz then m=l.length/\i<l.length/\iO (sw (encS s (bj l i s.dflt)) b n) K else False
  |_=>False
 |_=>False
where
 zo (c:List SV) (g i:Nat) (n:Option Nat) (K:SV->Prop):Prop:=
  match n,g with
  |none,1=>match ints c with
   |some l=>K (.si .i64 (bj l i 0))
   |none=>match rowsOff c with
    |some l=>K (.row .off (bj l i []))
    |none=>False
  |_,_=>False;rowsOff:List SV->Option (List (List Off))
  |[]=>some []
  | .row .off l::c=>(rowsOff c).map (l::·)
  |_=>none
def mkK (bB:Nat) (x:bq) (o:bX) (K:bX->Prop):Prop:=
 match o[bB]? with
 |some .dead=>K (o.set bB x)
 |_=>False
def sx (a:List (Nat×Nat×SV)) (cs:List SV):Option (List SV):=
 match a with
 |[]=>some cs
 |(b,n,v)::c=>
  if v.cellsOf.length=n/\xg v.cellsOf=true/\b+n<=cs.length then sx c (tN cs b v.cellsOf) else none
def tO (s:bn):Nat->List SV->Option (List s.T)
 |0,[]=>some []
 |n+1,a=>match jJ s (a.take s.sz),tO s n (a.drop s.sz) with
  |some x,some l=>some (x::l)
  |_,_=>none
 |_,_=>none
def vn (o:bX) (s:bn) (x:SV) (K:List s.T->Prop):Prop:=
 match x with
 | .row a l=>iO (iI a s l) K
 | .ow d n e=>match o[d]? with
  |some (.row a l _ _)=>if e=a.sz then n=l.length/\iO (iI a s l) K else False
  |_=>False
 | .os d c b n e=>match o[d]? with
  |some (.row a l _ _)=>if e=a.sz then n=l.length/\c+b<=n/\iO (iI a s ((l.drop c).take b)) K else False
  |_=>False
 | .sc (.slice none 0 0)=>K []
 |_=>False
def OE (o:bX):SV->Option (List SV)
 | .ow j 1 a=>match o[j]? with
  |some (.oQ s [] _ t)=>if s.sz=a then some t else none
  |_=>none
 |_=>none
def SV.OG:SV->Bool
 | .ow .. =>true
 |_=>false
def zp:SV->Option Int
 | .si _ n=>some n
 | .il _ n=>some n
 |_=>none
def isNil:SV->Bool
 | .sc (.slice none 0 0)=>true
 |_=>false
def eQ (e:BinOp) (x y:SV) (K:SV->Prop):Prop:=
 match x,y with
 | .il k a,.il d b=>match gQ e (.int k a) (.int d b) with
  |some (.int k n)=>K (.il k n)
  |some (.bool c)=>K (.bl c)
  |_=>False
 | .si k a,.si d b=>go k a d b
 | .il k a,.si d b=>go k a d b
 | .si k a,.il d b=>go k a d b
 | .sc (.string a),.sc (.string b)=>match e with
  | .eql=>K (.sb (a.toList==b.toList))
  | .neq=>K (.sb (!(a.toList==b.toList)))
  |_=>False
 |_,_=>False
where
 go (k:IntKind) (a:Int) (d:IntKind) (b:Int):Prop:=
  match e with
  | .shl=>0<=b/\b<=k.bits/\vl k (a*2^b.toNat) λn=>K (.si k n)
  | .shr=>0<=b/\b<=k.bits/\K (.si k (a / 2^b.toNat))
  | .add=>if k=d then vl k (a+b) λn=>K (.si k n) else False
  | .sub=>if k=d then vl k (a - b) λn=>K (.si k n) else False
  | .mul=>if k=d then vl k (a*b) λn=>K (.si k n) else False
  | .quo=>if k=d then b≠0/\bY k (a.tdiv b)/\K (.si k (a.tdiv b)) else False
  | .rem=>if k=d then b≠0/\K (.si k (a.tmod b)) else False
  | .and=>if k=d then K (.si k (ry k a b)) else False
  | .or=>if k=d then K (.si k (nZ k a b)) else False
  | .xor=>if k=d then K (.si k (GU k a b)) else False
  | .andNot=>if k=d then K (.si k (rA k a b)) else False
  | .eql=>if k=d then K (.sb (decide (a=b))) else False
  | .neq=>if k=d then K (.sb (decide (a≠b))) else False
  | .lss=>if k=d then K (.sb (decide (a<b))) else False
  | .leq=>if k=d then K (.sb (decide (a<=b))) else False
  | .gtr=>if k=d then K (.sb (decide (b<a))) else False
  | .geq=>if k=d then K (.sb (decide (b<=a))) else False;ry (k:IntKind) (a b:Int):Int:=eO k (γu k.bits a &&&γu k.bits b).toNat;nZ (k:IntKind) (a b:Int):Int:=eO k (γu k.bits a |||γu k.bits b).toNat;GU (k:IntKind) (a b:Int):Int:=eO k (γu k.bits a ^^^γu k.bits b).toNat;rA (k:IntKind) (a b:Int):Int:=eO k (γu k.bits a &&&~~~(γu k.bits b)).toNat
def GV:SV->SV->Option Bool
 | .si k a,y=>(y.int k).map λb=>decide (a=b)
 | .il k a,y=>(y.int k).map λb=>decide (a=b)
 | .sb a,y=>y.boo.map λb=>a==b
 | .bl a,y=>y.boo.map λb=>a==b
 |_,_=>none
def tP:List SV->List SV->Option Bool
 |[],[]=>some true
 |x::d,y::c=>match GV x y,tP d c with
  |some a,some b=>some (a&&b)
  |_,_=>none
 |_,_=>none
def lC:List Nat->List SV->Bool
 |[],[]=>true
 |0::a,.si _ _::b=>lC a b
 |0::a,.il _ _::b=>lC a b
 |1::a,.sb _::b=>lC a b
 |1::a,.bl _::b=>lC a b
 |_,_=>false
def j5 (a sv:bn) (x:a.T) (es:List (a.T×sv.T)):Option sv.T:=(es.find? λp=>decide (p.1=x)).map (·.2)
def nB (a sv:bn) (x:a.T) (v:sv.T):List (a.T×sv.T)->List (a.T×sv.T)
 |[]=>[(x,v)]
 |p::r=>if p.1=x then(x,v)::r else p::nB a sv x v r
def vo (a:Bool):SV->Bool
 | .agg _=>a
 |_=>!a
def bn.keyed:bn->Bool
 | .key| .sit| .i _=>true
 |_=>false
def oa (d:Nat):Option SV->(Nat->Prop)->Prop
 |none,K=>K d
 |some (.il _ n),K=>if 0<=n then K n.toNat else False
 |some (.si _ n),K=>0<=n/\K n.toNat
 |_,_=>False
def tQ:List Int->Nat->Int->Nat->List Int
 |[],_,_,_=>[]
 |a::l,i,v,j=>(if i=j then v else a)::tQ l i v (j+1)
def CH:SV->(SV->Prop)->Prop
 | .ite c a b,K=>(c=true->CH a K)/\(c=false->CH b K)
 |v,K=>K v
def SV.G:SV->AV
 | .ite c a b=>match c with
  |true=>a.G
  |false=>b.G
 |v=>v.g
def eK (p:iN) (op:cz) (ρ:Operand->SV) (o:bX) (bB:Nat) (K:SV->bX->Prop):Prop:=
 match op with
 | .uL x=>K (ρ x) o
 | .pick c a b=>match ρ c with
  | .bl true=>K (ρ a) o
  | .bl false=>K (ρ b) o
  | .sb c=>(c=true->K (ρ a) o)/\(c=false->K (ρ b) o)
  |_=>False
 | .alloc z e pu=>mkK bB (.cells (z.map .oU) e z.length pu) o λo'=>K (.ptr bB 0 z.length) o'
 | .box e x=>if xg (ρ x).cellsOf then mkK bB (.cells (ρ x).cellsOf e (ρ x).cellsOf.length false) o λo'=>K (.ptr bB 0 (ρ x).cellsOf.length) o' else False
 | .build z parts=>iO (sx (parts.map λq=>(q.1,q.2.1,ρ q.2.2)) (z.map .oU)) λcs=>K (.agg cs) o
 | .pA z len parts e sz=>match p.ty e,sx (parts.map λq=>(q.1,sz,ρ q.2)) ((ε len (z.map SV.oU)).flatten) with
  |some s,some cs=>if s.sz=sz then(if cs.any SV.OG then(if cs.length=len*sz then mkK bB (.oQ s [] e cs) o λo'=>K (.ow bB len sz) o' else False) else iO (tO s len (cs.map SV.qn)) λl=>mkK bB (.row s l e true) o λo'=>K (.ow bB len sz) o') else False
  |_,_=>False
 | .s8 z len parts e sz=>match p.ty e,sx (parts.map λq=>(q.1,sz,ρ q.2)) ((ε len (z.map SV.oU)).flatten) with
  |some s,some cs=>if s.sz=sz then iO (tO s len (cs.map SV.qn)) λl=>K (.row s l) o else False
  |_,_=>False
 | .load n a=>mQ o (ρ a) n λv=>K v o
 | .store n a x=>match ρ a with
  | .ptr id off tot=>match o[id]? with
   |some (.cells cs e sz pu)=>
    if cs.length=tot/\(ρ x).cellsOf.length=n/\xg (ρ x).cellsOf=true/\off+n<=cs.length/\(pu=false\/zn (ρ x).cellsOf=true) then K .ud (o.set id (.cells (tN cs off (if pu then(ρ x).cellsOf.map SV.qn else(ρ x).cellsOf)) e sz pu)) else False
   |_=>False
  | .rp id i off m sz=>match o[id]? with
   |some (.row s l e pu)=>
    if sz=s.sz/\(ρ x).cellsOf.length=n/\off+n<=s.sz then m=l.length/\i<l.length/\iO (jJ s (tN (encS s (bj l i s.dflt)) off (if pu then(ρ x).cellsOf.map SV.qn else(ρ x).cellsOf))) λv=>K .ud (o.set id (.row s (l.set i v) e pu)) else False
   |_=>False
  | .ap id base sz len tot i=>match o[id]? with
   |some (.cells cs e sz' pu)=>match n,sz,(ρ x).int .i64 with
    |1,1,some v=>match ints ((cs.drop base).take len) with
     |some l=>if cs.length=tot/\base+len<=tot then i<len/\K .ud (o.set id (.cells (tN cs base ((tQ l i v 0).map (SV.si .i64))) e sz' pu)) else False
     |none=>False
    |_,_,_=>False
   |_=>False
  |_=>False
 | .uM x=>match ρ x with
  | .ptr a b c=>K (.ptr a b c) o
  | .rp a b c d e=>K (.rp a b c d e) o
  | .ep s l i f=>K (.ep s l i f) o
  |_=>False
 | .bin op x y=>eQ op (ρ x) (ρ y) λv=>K v o
 | .beq neg x y=>match(ρ x).boo,(ρ y).boo with
  |some a,some b=>K (.sb (if neg then !(a==b) else a==b)) o
  |_,_=>False
 | .rY neg ks x y=>match ρ x,ρ y with
  | .agg a,.agg b=>if lC ks a&&lC ks b then iO (tP a b) λr=>K (.sb (if neg then !r else r)) o else False
  |_,_=>False
 | .un op x=>match op,ρ x with
  | .not,.sb b=>K (.sb !b) o
  | .not,.bl b=>K (.bl !b) o
  | .neg,.si k n=>bY k (-n)/\K (.si k (-n)) o
  | .neg,.il k n=>K (.il k (eO k (0 - n))) o
  |_,_=>False
 | .conv k x=>match ρ x with
  | .il _ n=>K (.il k (eO k n)) o
  | .si .i64 n=>bY k n/\K (.si k n) o
  | .si _ n=>vl k n λm=>K (.si k m) o
  |_=>False
 | .uN off x=>match ρ x with
  | .ptr id b tot=>K (.ptr id (b+off) tot) o
  | .ep s l i b=>K (.ep s l i (b+off)) o
  | .rp id i b m sz=>K (.rp id i (b+off) m sz) o
  |_=>False
 | .field off n x=>match ρ x with
  | .agg cs=>iO (sw cs off n) λv=>K v o
  |_=>False
 | .uO len sz x i=>match ρ i with
  | .il _ n=>if 0<=n/\n<len then(match ρ x with
   | .ptr id b tot=>K (.ptr id (b+n.toNat*sz) tot) o
   | .ep s l j b=>K (.ep s l j (b+n.toNat*sz)) o
   | .rp id j b m sz'=>K (.rp id j (b+n.toNat*sz) m sz') o
   |_=>False) else False
  | .si _ n=>match ρ x with
   | .ptr id b tot=>0<=n/\n<len/\K (.ap id b sz len tot n.toNat) o
   |_=>False
  |_=>False
 | .rZ sz x i=>match zp (ρ i) with
  |some n=>match ρ x with
   | .row s l=>if sz=s.sz then 0<=n/\n<l.length/\K (.ep s l n.toNat 0) o else False
   | .ow id m sz'=>match o[id]? with
    |some (.row s l _ _)=>if sz=s.sz/\sz'=s.sz then m=l.length/\0<=n/\n<l.length/\K (.rp id n.toNat 0 m sz) o else False
    |_=>False
   | .os id off len m sz'=>match o[id]? with
    |some (.row s l _ _)=>if sz=s.sz/\sz'=s.sz then m=l.length/\0<=n/\n<len/\off+len<=m/\K (.rp id (off+n.toNat) 0 m sz) o else False
    |_=>False
   | .oc id off len m sz'=>match o[id]? with
    |some (.row s l _ _)=>if sz=s.sz/\sz'=s.sz then m=l.length/\0<=n/\n<len/\off+len<=m/\K (.rp id (off+n.toNat) 0 m sz) o else False
    |_=>False
   |_=>False
  |none=>False
 | .idx len sz n x i=>match ρ i,ρ x with
  | .il _ k,.agg cs=>if 0<=k/\k<len then iO (sw cs (k.toNat*sz) n) λv=>K v o else False
  | .si _ k,.agg cs=>match n,sz,ints cs with
   |none,1,some l=>if l.length=len then 0<=k/\k<len/\K (.si .i64 (bj l k.toNat 0)) o else False
   |_,_,_=>False
  |_,_=>False
 | .qf z e sz bytes l c pu=>match zp (ρ l),zp (ρ c),p.ty e with
  |some n,some m,some s=>if s.sz=sz then iO (jJ s (if pu then(z.map SV.oU).map SV.qn else z.map .oU)) λx=>0<=n/\n<=m/\m*bytes<=140737488355328/\m<=1000000000000/\
    mkK bB (.row s (ε n.toNat x) e pu) o λo'=>K (.ow bB n.toNat sz) o' else False
  |_,_,_=>False
 | .slice sz x lo hi=>match ρ x with
  | .row s l=>if sz=s.sz then oa 0 (lo.map ρ) λa=>oa l.length (hi.map ρ) λb=>a<=b/\b<=l.length/\K (.row s ((l.drop a).take (b - a))) o else False
  | .ow id m sz'=>match o[id]? with
   |some (.row s l _ _)=>if sz=s.sz/\sz'=s.sz then m=l.length/\oa 0 (lo.map ρ) λa=>oa m (hi.map ρ) λb=>a<=b/\b<=m/\K (.os id a (b - a) m sz) o else False
   |_=>False
  | .os id off len m sz'=>match o[id]? with
   |some (.row s l _ _)=>if sz=s.sz/\sz'=s.sz then m=l.length/\oa 0 (lo.map ρ) λa=>oa len (hi.map ρ) λb=>a<=b/\b<=len/\K (.os id (off+a) (b - a) m sz) o else False
   |_=>False
  |_=>False
 | .slice3 sz x lo hi mx=>match ρ x with
  | .row s l=>if sz=s.sz then oa 0 (lo.map ρ) λa=>oa l.length (some (ρ hi)) λb=>oa l.length (some (ρ mx)) λm=>a<=b/\b<=m/\m<=l.length/\K (.row s ((l.drop a).take (b - a))) o else False
  | .ow id n sz'=>match o[id]? with
   |some (.row s l _ _)=>if sz=s.sz/\sz'=s.sz then n=l.length/\oa 0 (lo.map ρ) λa=>oa n (some (ρ hi)) λb=>oa n (some (ρ mx)) λm=>a<=b/\b<=m/\m<=n/\K (.oc id a (b - a) n sz) o else False
   |_=>False
  |_=>False
 | .append e sz bytes s x pu=>match p.ty e,OE o (ρ x) with
  |some t,some tl=>match ρ s,ρ x with
   | .ow id n sz',.ow _ _ YU=>match o[id]? with
    |some (.row t' l e' GX)=>if e'=e/\t'.sz=sz/\sz'=sz/\YU=sz/\t.sz=sz/\GX=false/\tl.length=sz/\xg tl=true then n=l.length/\(l.length+1)*bytes<=140737488355328/\l.length+1<=1000000000000/\
      K (.ow id (l.length+1) sz) (o.set id (.oQ t' l e tl)) else False
    |_=>False
   |_,_=>False
  |some t,none=>if t.sz=sz then vn o t (ρ x) λnew=>match ρ s with
    | .sc (.slice none 0 0)=>(new.length=0->K (.sc yU) o)/\(new.length≠0->new.length*bytes<=140737488355328/\new.length<=1000000000000/\mkK bB (.row t new e pu) o λo'=>K (.ow bB new.length sz) o')
    | .ow id n sz'=>match o[id]? with
     |some (.row t' l e' GX)=>if e'=e/\t'.sz=sz/\sz'=sz then n=l.length/\(l.length+new.length)*bytes<=140737488355328/\l.length+new.length<=1000000000000/\
       iO (iI t' t l) λl'=>K (.ow id (l'++new).length sz) (o.set id (.row t (l'++new) e GX)) else False
     |_=>False
    | .row t' l=>new.length=0/\K (.row t' l) o
    |_=>False
   else False
  |none,_=>False
 | .len k x=>match k,ρ x with
  |0,.row _ l=>K (.si .i64 l.length) o
  |0,.ow _ n _=>K (.si .i64 n) o
  |0,.os _ _ len _ _=>K (.si .i64 len) o
  |0,.oc _ _ len _ _=>K (.si .i64 len) o
  |0,.sc (.slice none 0 0)=>K (.il .i64 0) o
  |1,.sc (.string s)=>K (.si .i64 s.size) o
  |2,.mp id=>match o[id]? with
   |some (.map _ _ _ es _ _)=>K (.si .i64 es.length) o
   |_=>False
  |_,_=>False
 | .uQ n=>K (.il .i64 n) o
 | .mm mx x y=>match ρ x,ρ y with
  | .il k a,.il k' b=>if k=k' then K (.il k (if mx then(if b>a then b else a) else(if b<a then b else a))) o else False
  | .si k a,y=>iO (y.int k) λb=>K (.si k (if mx then max a b else min a b)) o
  | .il k a,y=>iO (y.int k) λb=>K (.si k (if mx then max a b else min a b)) o
  |_,_=>False
 | .call f args own=>zq p f (args.map ρ) o own K
 | .jI f args own=>match ρ f with
  | .fn (.func g) first captured=>zq p g (first++args.map ρ++captured) o own K
  |_=>False
 | .extract x i=>match ρ x with
  | .bH vs=>iO vs[i]? λv=>K v o
  |_=>False
 | .s9 f first captured=>K (.fn f (first.map ρ) (captured.map ρ)) o
 | .uR t x=>match ρ x with
  | .agg cs=>if zn cs=true then K (.ia t cs) o else False
  |_=>False
 | .oH tab x args=>match ρ x with
  | .ia t cs=>match uT tab t with
   |some f=>zq p f (.agg cs::args.map ρ) o false K
   |none=>False
  |_=>False
 | .qg kt pu=>match p.mt kt with
  |some (sk,sv)=>mkK bB (.map sk sv kt.2 [] kt pu) o λo'=>K (.mp bB) o'
  |none=>False
 | .lookup z agg ks ka x k ok=>match ρ x with
  | .mp id=>match o[id]? with
   |some (.map sk sv xh es kt _)=>
    if kt=(ks,ka)/\xh=ka/\sk.keyed=true/\sv.xf=true/\agg=false/\(ka=false->sk.sz=1)/\lC ks (ρ k).cellsOf=true/\vo ka (ρ k)=true then
     iO (jJ sk (ρ k).cellsOf) λkv=>iO (jJ sv (z.map .oU)) λzv=>
      let r:=(encS sv ((j5 sk sv kv es).getD zv)).headD .ud;K (if ok then .bH [r,.sb (j5 sk sv kv es).isSome] else r) o
    else False
   |_=>False
  |_=>False
 | .qY ks ka x k v=>match ρ x with
  | .mp id=>match o[id]? with
   |some (.map sk sv xh es kt pu)=>
    if kt=(ks,ka)/\xh=ka/\sk.keyed=true/\sv.xf=true/\(ka=false->sk.sz=1)/\lC ks (ρ k).cellsOf=true/\vo ka (ρ k)=true/\vo false (ρ v)=true then
     iO (jJ sk (ρ k).cellsOf) λkv=>iO (jJ sv (ρ v).cellsOf) λvv=>K .ud (o.set id (.map sk sv xh (nB sk sv kv vv es) kt pu))
    else False
   |_=>False
  |_=>False
 |_=>False
where
 zq (p:iN) (f:FuncId) (args:List SV) (o:bX) (own:Bool) (K:SV->bX->Prop):Prop:=
  if own then p.C.own f args o K
  else vm (rq o 6) args λargs'=>p.C.pure f args' λr=>if(args.flatMap (λv=>fa (o.map bq.g) 6 v.g)).isEmpty||r.kY then K r o else False
def xi:fw->Nat->SV->fw
 |[],_,_=>[]
 |p::r,s,v=>bif δD p.1 s then(p.1,v)::r else p::xi r s v
def GY (env:fw) (g:Option (Option Nat×Bool)) (K:fw->Bool->Prop):Prop:=
 match g with
 |none=>K env true
 |some (none,_)=>False
 |some (some s,b)=>match jK env s with
  | .bl c=>K env (c==b)
  | .sb c=>(c=true->K (xi env s (.bl true)) (true==b))/\(c=false->K (xi env s (.bl false)) (false==b))
  | .bH []=>K env false
  |_=>False
def SV.same (v w:SV):Prop:=v.g=w.g
def SV.rB (v:SV):SV->Prop
 | .ite c a b=>(c=true->v.rB a)/\(c=false->v.rB b)
 |w=>v.same w
def bq.same (x y:bq):Prop:=x.g=y.g
def jo:bX->bX->Prop
 |[],[]=>True
 |x::o,y::a=>x.same y/\jo o a
 |_,_=>False
def OH (p:iN) (a:cz) (o o':bX) (K:Bool->Prop):Prop:=
 match a with
 | .call f _ true=>if p.ro f=true then jo o o'/\K true else K false
 |_=>K false
def xj (p:iN) (base:Nat):List dn->cq->Trace->(cq->Trace->Prop)->Prop
 |[],b,c,K=>K b c
 |i::r,b,c,K=>GY b.env i.guard λa w=>
   if w then eK p i.op (jm a) b.o (base+i.bB) λv d=>OH p i.op b.o d λe=>xj p base r ⟨vk a i.dst v,d⟩ ((i.idx,dP i.op (λx=>(jm a x).g) (b.o.map bq.g) (base+i.bB),if e then[] else wrt i.op (λx=>(jm a x).g) (b.o.map bq.g) (base+i.bB))::c) K
   else xj p base r ⟨vk a i.dst (.bH []),b.o⟩ ((i.idx,[],[])::c) K
def bq.nj:bq->Bool
 | .dead=>true
 |_=>false
def GZ (base:Nat) (o:bX):bX:=if(o.drop base).all (·.nj) then o.take base else o
def G0 (p:iN) (k:Nat) (c:List dn) (b:List (Nat×Nat)) (st:cq) (K:cq->Prop):Prop:=
 xj p st.o.length c ⟨st.env,st.o++ε k .dead⟩ [] λa d=>
  if b.isEmpty||tf (st.o.length+k) d.reverse b then K ⟨a.env,if k=0 then a.o else GZ st.o.length a.o⟩ else False
mutual
def jq (id:Nat) (s:bn) (l:List s.T):SV->(SV->Prop)->Prop
 | .ow j n m,K=>if j=id then(if m=s.sz then n=l.length/\K (.row s l) else False) else K (.ow j n m)
 | .os j h g n m,K=>if j=id then(if m=s.sz then n=l.length/\h+g<=n/\K (.row s ((l.drop h).take g)) else False) else K (.os j h g n m)
 | .oc j h g n m,K=>if j=id then False else K (.oc j h g n m)
 | .rp j i f n m,K=>if j=id then False else K (.rp j i f n m)
 | .ptr j f t,K=>if j=id then False else K (.ptr j f t)
 | .ap j a b c d e,K=>if j=id then False else K (.ap j a b c d e)
 | .agg o,K=>rC id s l o λk=>K (.agg k)
 | .bH o,K=>rC id s l o λk=>K (.bH k)
 | .fn f a b,K=>rC id s l a λp=>rC id s l b λr=>K (.fn f p r)
 |v,K=>K v
def rC (id:Nat) (s:bn) (l:List s.T):List SV->(List SV->Prop)->Prop
 |[],K=>K []
 |c::o,K=>jq id s l c λq=>rC id s l o λk=>K (q::k)
end
def zr (id:Nat) (s:bn) (l:List s.T):fw->(fw->Prop)->Prop
 |[],K=>K []
 |(k,v)::r,K=>jq id s l v λa=>zr id s l r λb=>K ((k,a)::b)
def ob (id:Nat) (s:bn) (l:List s.T):Nat->bX->(bX->Prop)->Prop
 |_,[],K=>K []
 |i,x::r,K=>match x with
  | .cells g e h b=>if b then(if i=id then False else ob id s l (i+1) r λa=>K (.cells g e h b::a)) else rC id s l g λd=>ob id s l (i+1) r λa=>K (.cells d e h b::a)
  | .oQ c f e t=>if i=id then False else rC id s l t λj=>match tO c 1 j with
   |some m=>ob id s l (i+1) r λa=>K (.row c (f++m) e false::a)
   |none=>False
  | .row c f e b=>if i=id then(if b then ob id s l (i+1) r λa=>K (.dead::a) else False) else ob id s l (i+1) r λa=>K (.row c f e b::a)
  |x=>ob id s l (i+1) r λa=>K (x::a)
def tV (p:iN) (lo:Nat) (h:kA) (st:cq) (K:cq->Prop):Prop:=
 if h.own then match h.off with
  |none=>if isNil (jK st.env h.slot) then(match p.ty h.e with
    |some s=>if s.sz=h.sz then K ⟨(h.slot,.ow st.o.length 0 h.sz)::st.env,st.o++[.row s [] h.e h.pu]⟩ else False
    |none=>False) else if h.sz=0 then(match jK st.env h.slot with
     | .ow a _ _=>match st.o[a]? with
      |some (.row s l e true)=>K ⟨st.env,st.o.set a (.row s l e false)⟩
      |_=>False
     |_=>False) else K st
  |some k=>match jK st.env h.slot with
   | .ptr a b c=>match st.o[a]? with
    |some (.cells d e i f)=>if(d[b+k]?).any isNil then(if d.length=c/\f=false then(match p.ty h.e with
      |some s=>if s.sz=h.sz then K ⟨st.env,(st.o.set a (.cells (d.set (b+k) (.ow st.o.length 0 h.sz)) e i f))++[.row s [] h.e h.pu]⟩ else False
      |none=>False) else False) else K st
    |_=>False
   |_=>False
 else match OI h st with
  |some (some a)=>if Nat.ble lo a then(match st.o[a]? with
   |some (.row s l e f)=>zr a s l st.env λg=>ob a s l 0 (if f then st.o else st.o.set a (.row s l e true)) λo=>K ⟨g,o⟩
   |_=>False) else K st
  |some none=>K st
  |none=>False
where
 xk:SV->Option Nat
  | .ow a .. =>some a
  | .os a .. =>some a
  | .oc a .. =>some a
  |_=>none;OI (h:kA) (st:cq):Option (Option Nat):=
  match h.off with
  |none=>some (xk (jK st.env h.slot))
  |some k=>match jK st.env h.slot with
   | .ptr a b c=>match st.o[a]? with
    |some (.cells d _ _ _)=>if d.length=c then(d[b+k]?).map xk else none
    |_=>none
   |_=>none
def zt (p:iN) (lo:Nat):List kA->cq->(cq->Prop)->Prop
 |[],st,K=>K st
 |h::hs,st,K=>tV p lo h st λst'=>zt p lo hs st' K
def G2 (a:List Nat) (env:fw):fw:=a.map λs=>(s,jK env s)
def trimS (k:Nat) (st:cq):cq:=
 if st.o.length<=k then st
 else if(st.env.all λp=>p.2.ca k)&&((st.o.take k).all λx=>x.ca k) then⟨st.env,st.o.take k⟩ else st
def xl:fw->fw->Prop
 |[],[]=>True
 |(k,v)::e,(b,c)::a=>if k=b then v.same c/\xl e a else False
 |_,_=>False
def zu (s t:cq):Prop:=xl s.env t.env/\jo s.o t.o
def iS (s:cq) (k:Nat):Int:=match jK s.env k with
 | .si _ n=>n
 | .il _ n=>n
 |_=>0
def bS (s:cq) (k:Nat):Bool:=match jK s.env k with
 | .sb b=>b
 | .bl b=>b
 |_=>false
def rS (t:bn) (s:cq) (k:Nat):List t.T:=match jK s.env k with
 | .row a l=>match iI a t l with
  |some l=>l
  |none=>[]
 |_=>[]
def oS (t:bn) (s:cq) (id:Nat):List t.T:=match s.o[id]? with
 |some (.row a l _ _)=>match iI a t l with
  |some l=>l
  |none=>[]
 |_=>[]
def CJ (k v b a:bn) (es:List (k.T×v.T)):Option (List (b.T×a.T)):=if h:k=b/\v=a then some (h.1▸h.2▸es) else none
def mS (k v:bn) (s:cq) (id:Nat):List (k.T×v.T):=match s.o[id]? with
 |some (.map b c _ a _ _)=>match CJ b c k v a with
  |some a=>a
  |none=>[]
 |_=>[]
def splitN (v:Int) (n:Nat) (K:Nat->Prop):Nat->Prop
 |0=>0<=v/\v<n
 |j+1=>(v=(n - (j+1):Nat)->K (n - (j+1)))/\splitN v n K j
def splitK (x:Option (Nat×Nat×Nat)) (st:cq) (K:cq->Prop):Prop:=
 match x with
 |none=>K st
 |some (b,a,n)=>match st.o[b]? with
  |some (.cells c e f d)=>match c[a]? with
   |some (.si k v)=>splitN v n (λj=>K ⟨st.env,st.o.set b (.cells (c.set a (.il k j)) e f d)⟩) n
   |_=>False
  |_=>False
inductive cB where
 |pI (n:Nat)
 |look
 |inv (X:Type) (shape:X->cq) (next:cq->X) (J:X->Prop) (m:X->Nat) (inner:X->Nat->cB)
def Look (_:cq):Prop:=False
def vp:IR->Nat
 | .region c .. =>c
 | .seq .skip b=>vp b
 | .seq a _=>vp a
 | .block _ b=>vp b
 | .loop b=>vp b
 | .turns _ b=>vp b
 |_=>0
def G3 (W:cq->(Out->cq->Prop)->Prop) (Q:Out->cq->Prop):Nat->cq->Prop
 |0,_=>False
 |n+1,b=>W b λa s=>match a with
  | .norm=>G3 W Q n (trimS b.o.length s)
  |o=>Q o s
def zw (t:Nat):fw->fw
 |[]=>[]
 |p::r=>bif δD p.1 t then zw t r else p::zw t r
def xm (x:Operand) (env:fw):fw:=
 match x with
 | .tmp t=>zw t env
 |_=>env
def CL (env:fw) (x:Operand) (v:SV):fw:=
 match x with
 | .tmp t=>xi env t v
 |_=>env
def wpS (p:iN) (lo:Nat):IR->(Nat->cB)->cq->(Out->cq->Prop)->Prop
 | .skip,_,st,Q=>Q .norm st
 | .region id draw k ops kB live pre post,_,st,Q=>splitK (p.sp id) st λst0=>zt p lo pre st0 λst1=>G0 p k ops kB st1 λst2=>zt p lo post ⟨G2 live st2.env,st2.o⟩ λG4=>Q .norm G4
 | .seq a b,Λ,st,Q=>wpS p lo a Λ st λout s=>match out with
  | .norm=>wpS p lo b Λ s Q
  |o=>Q o s
 | .cond x a b,Λ,st,Q=>match jm st.env x with
  | .bl true=>wpS p lo a Λ ⟨xm x st.env,st.o⟩ Q
  | .bl false=>wpS p lo b Λ ⟨xm x st.env,st.o⟩ Q
  | .sb c=>(c=true->wpS p lo a Λ ⟨xm x st.env,st.o⟩ Q)/\(c=false->wpS p lo b Λ ⟨xm x st.env,st.o⟩ Q)
  |_=>False
 | .block id b,Λ,st,Q=>wpS p lo b Λ st λout s=>Q (out.inBlock id) s
 | .loop b,Λ,st,Q=>match Λ (vp b) with
  | .pI n=>G3 (wpS p lo b Λ) Q n st
  | .look=>Look st
  | .inv _ shape next J m inner=>(zu st (shape (next st))/\J (next st))/\∀x,J x->wpS p lo b (inner x) (shape x) λout s=>match out with
   | .norm=>zu (trimS (shape x).o.length s) (shape (next (trimS (shape x).o.length s)))/\J (next (trimS (shape x).o.length s))/\m (next (trimS (shape x).o.length s))<m x
   |o=>Q o s
 | .exit id,_,st,Q=>Q (.exit id) st
 | .ret,_,st,Q=>Q .ret st
 | .goto l,_,st,Q=>Q (.goto l) st
 | .oJ x a b,Λ,st,Q=>match jm st.env x with
  | .bl true=>wpS p lo a Λ st Q
  | .bl false=>wpS p lo b Λ st Q
  | .sb c=>(c=true->wpS p lo a Λ ⟨CL st.env x (.bl true),st.o⟩ Q)/\(c=false->wpS p lo b Λ ⟨CL st.env x (.bl false),st.o⟩ Q)
  |_=>False
 | .turns none b,Λ,st,Q=>wpS p lo b Λ st λout s=>match out with
  | .goto _=>False
  |o=>Q o s
 | .turns (some l) b,Λ,st,Q=>match Λ (vp b) with
  | .inv _ shape next J m inner=>(zu st (shape (next st))/\J (next st))/\∀x,J x->wpS p lo b (inner x) (shape x) λout s=>match out with
   | .goto l'=>l'=l/\zu (trimS (shape x).o.length s) (shape (next (trimS (shape x).o.length s)))/\J (next (trimS (shape x).o.length s))/\m (next (trimS (shape x).o.length s))<m x
   |o=>Q o s
  |_=>Look st
 | .tc ..,_,_,_=>False
def nC:Nat->List SV->fw
 |_,[]=>[]
 |i,v::a=>(i,v)::nC (i+1) a
def od (st:cq) (a:List np) (K:SV->Prop):Prop:=
 goK a λl=>match l with
  |[v]=>K v
  |l=>K (.bH l)
where
 goK:List np->(List SV->Prop)->Prop
  |[],K=>K []
  |r::a,K=>OJ r λv=>goK a λl=>K (v::l);OJ (r:np) (K:SV->Prop):Prop:=match r.cell with
  |none=>K (jK st.env r.slot)
  |some n=>mQ st.o (jK st.env r.slot) n K
def sy (p:iN) (Λ:Nat->cB) (F:fp) (args:List SV) (Q:SV->Prop):Prop:=
 wpS p 0 F.body Λ ⟨nC 0 args,[]⟩ λa b=>match a with
  | .exit _=>False
  | .goto _=>False
  |_=>od b F.res λr=>rq b.o 6 r Q
def vq (p:iN) (Λ:Nat->cB) (F:fp) (args:List SV) (o:bX) (Q:SV->bX->Prop):Prop:=
 wpS p o.length F.body Λ ⟨nC 0 args,o⟩ λb a=>match b with
  | .exit _=>False
  | .goto _=>False
  |_=>od a F.res λr=>if r.ca o.length&&a.o.all (λx=>x.ca o.length)&&decide (o.length<=a.o.length) then Q r (a.o.take o.length) else False
def gE (env:fw):jj:=env.map λp=>(p.1,p.2.g)
def gO (o:bX):Store:=o.map bq.g
def cq.g (st:cq):St:=⟨gE st.env,gO st.o⟩
theorem og:∀(env:fw) (s:Nat),dJ (gE env) s=(jK env s).g
 |[],_=>by simp[gE,dJ,jK,γI];|p::r,s=>by
  have:=og r s;grind[gE,dJ,jK]
theorem OL (env:fw) (d:Option Nat) (v:SV):gE (vk env d v)=oG (gE env) d v.g:=by
 cases d<;>simp[vk,oG,gE]
theorem OM (v:Value):(SV.oU v).g= .sc v:=by cases v<;>simp[SV.oU,γI]
theorem G5 (l:List Value):(l.map SV.oU).map γI=l.map .sc:=by simp[OM]
theorem zx (env:fw) (x:Operand):eC (gE env) x=(jm env x).g:=by
 cases x with
 |tmp t=>simp[eC,jm,og];|const v=>
  cases v<;>simp[eC,jm,AV.uK,SV.uK,γI];split<;>simp[γI,gi,OM];|global g=>simp[eC,jm,γI];|func f=>simp[eC,jm,γI,gL]
theorem OO (env:fw):eC (gE env)=λx=>(jm env x).g:=funext λx=>zx env x
theorem CN (v:SV):v.g.cellsOf=gL v.cellsOf:=by
 cases v<;>simp[γI,AV.cellsOf,SV.cellsOf,gL]
theorem YV (v:SV):v.g.one=v.one:=by
 cases v<;>simp[γI,AV.one,SV.one,Value.oneCell']
theorem CO (l:List SV):eF (gL l)=xg l:=by
 induction l<;>grind[gL,eF,xg,YV]
theorem G6:∀(l:List SV),zn l=true->dr (gL l)=true
 |[],_=>by simp[gL,dr];|v::l,h=>by
  simp only[zn,ζ] at h;simp only[gL,dr,G6 l h.2,δZ];have a:=h.1;cases v<;>simp[SV.pure] at a<;>simp[γI,AV.pure,qx]
mutual
theorem zy (k:Nat):∀(v:SV),v.g.ca k=v.ca k
 | .agg cs=>by simp only[γI,AV.ca,SV.ca];exact vr k cs;| .bH cs=>by simp only[γI,AV.ca,SV.ca];exact vr k cs;| .fn _ a b=>by simp only[γI,AV.ca,SV.ca,vr k a,vr k b];| .ud| .sc _| .il .. | .si .. | .bl _| .sb _| .row .. | .ep .. | .ptr .. | .ap .. | .rp .. | .ow .. | .os .. | .oc .. | .mp _| .ia _ _| .ite _ _ _=>by simp[γI,AV.ca,SV.ca]
theorem vr (k:Nat):∀(l:List SV),ec k (gL l)=su k l
 |[]=>by simp[gL,ec,su];|v::l=>by simp only[gL,ec,su,zy k v,vr k l]
end
theorem YW (k:Nat) {b sv:bn} (c:Bool) (es:List (b.T×sv.T)):ec k ((es.map λp=>(oR b c p.1,mP sv p.2)).map (·.2))=true:=
 GQ λa h=>by
  simp only[δr,γf,Function.comp] at h;grind[mP,AV.ca]
theorem CP (k:Nat) (x:bq):x.g.ca k=x.ca k:=by
 cases x with
 |dead=>rfl;|cells n e m d=>simp[bq.g,bP.ca,bq.ca,vr];|row s l e d=>simp[bq.g,bP.ca,bq.ca,OA];|oQ s l e t=>
  have c:∀a b:List AV,ec k (a++b)=(ec k a&&ec k b):=λa b=>by
   induction a<;>grind[ec]
  grind[bq.g,bP.ca,bq.ca,OA,vr];|map i o f j h d=>simp only[bq.g,bP.ca,bq.ca,YW,Bool.or_true]
mutual
theorem OP:∀(v:SV),v.kY=true->v.g.kY=true
 | .agg cs,h=>by simp only[SV.kY] at h;simp only[γI,AV.kY];exact G7 cs h;| .bH cs,h=>by simp only[SV.kY] at h;simp only[γI,AV.kY];exact G7 cs h;| .ud,_| .sc _,_| .il ..,_| .si ..,_| .bl _,_| .sb _,_=>by simp[γI,AV.kY];| .row ..,h| .ep ..,h| .ptr ..,h| .ap ..,h| .rp ..,h| .ow ..,h| .os ..,h| .oc ..,h| .mp _,h| .fn ..,h| .ia _ _,h| .ite _ _ _,h=>by simp[SV.kY] at h
theorem G7:∀(l:List SV),CG l=true->uS (gL l)=true
 |[],_=>by simp[gL,uS];|v::l,h=>by
  simp only[CG,ζ] at h;simp only[gL,uS,OP v h.1,G7 l h.2,δZ]
end
theorem jL (l:List SV):(gL l).length=l.length:=by simp[gi]
theorem tW (l:List SV) (i:Nat):(gL l)[i]?=(l[i]?).map γI:=by simp[gi]
theorem tX (a b:List SV):gL (a++b)=gL a++gL b:=by simp[gi]
theorem CQ {cs:List SV} {a:Nat} {n:Option Nat} {v:SV} (h:sw cs a n=some v):gn (gL cs) a n=some v.g:=by
 cases n with
 |none=>grind[sw,gn,tW];|some m=>
  simp only[sw] at h;split at h
  ·rename_i b;simp only[γ] at h;subst h;simp_all[gn,γI,gi]
  ·cases h
theorem zz:∀(vs cs:List SV) (a:Nat),gL (tN cs a vs)=fZ (gL cs) a (gL vs)
 |[],cs,a=>by simp[tN,gL,fZ];|v::vs,cs,a=>by
  simp only[tN,gL,fZ];rw[zz vs];simp_all[gi]
theorem G8 (cs:List SV):gL (cs.map SV.qn)=(gL cs).map AV.qn:=by
 simp_all[gi,YR]
theorem G9 (pu:Bool) (cs:List SV):gL (if pu then cs.map SV.qn else cs)=eu pu (gL cs):=by
 grind[eu,G8]
theorem YX {c:AV} (h:Plain c.qn):c.one=true/\c.pure=true:=by
 by_cases a:c.qn=c
 ·rw[a] at h;exact⟨h.one,h.pure⟩
 ·unfold AV.qn at a;split at a;·exact⟨rfl,rfl⟩
  simp_all
theorem Ha {pu:Bool} {cs:List AV} (h:∀c∈eu pu cs,Plain c):eF cs=true/\dr cs=true:=by
 have b:∀c∈cs,c.one=true/\c.pure=true:=by
  intro c a;unfold eu at h;split at h;·grind[YX]
  ·exact⟨(h c a).one,(h c a).pure⟩
 grind[eF,CB]
theorem He:∀(vs a b c:List AV) (d:Nat),d+vs.length<=b.length->fZ (a++b++c) (a.length+d) vs=a++fZ b d vs++c
 |[],a,b,c,d,_=>rfl
 |v::vs,a,b,c,d,h=>by
  simp only[γz] at h;simp only[fZ];have e:(a++b++c).set (a.length+d) v=a++b.set d v++c:=by
   grind
  rw[e,ε0,He vs a (b.set d v) c (d+1) (by simp;omega)]
theorem OQ {s:bn} {l:List s.T} {i:Nat} (h:i<l.length):cC s l=cC s (l.take i)++dO s (bj l i s.dflt)++cC s (l.drop (i+1)):=by
 have a:l=l.take i++l[i]::l.drop (i+1):=by simp
 grind[cO,cC]
theorem take_len {a:Type} {l:List a} {i:Nat} (h:i<l.length):(l.take i).length=i:=by simp;omega
theorem YY {s:bn} {l:List s.T} {i a:Nat} {v:s.T} {vs:List AV} (h:i<l.length) (e:a+vs.length<=s.sz) (c:fZ (dO s (bj l i s.dflt)) a vs=dO s v):
  fZ (cC s l) (i*s.sz+a) vs=cC s (l.set i v):=by
 have d:(cC s (l.take i)).length=i*s.sz:=by rw[fu,take_len h]
 rw[OQ h,<-d,He _ _ _ _ _ (by grind[lZ]),c];have b:i<(l.set i v).length:=by simpa using h
 rw[OQ b,cO b];simp[List.take_set_of_le,List.drop_set_of_lt]
theorem OS {s:bn} {l:List s.T} {i b:Nat} {n:Option Nat} {v:SV} (h:i<l.length) (e:sw (encS s (bj l i s.dflt)) b n=some v):gn (cC s l) (i*s.sz+b) n=some v.g:=by
 have a:=CQ e;rw[gi,tM] at a;have c:=YT (s:=s) h;have d:(cC s l).length=i*s.sz+(s.sz+(cC s (l.drop (i+1))).length):=by
  have:=congrArg γp c;grind[lZ]
 cases n with
 |none=>
  simp only[gn] at a ⊢;rw[<-List.getElem?_drop,c,List.getElem?_append_left]<;>grind;|some m=>
  simp only[gn,lZ] at a;split at a
  ·rename_i f;simp only[gn];rw[if_pos (by omega),<-γW,c,List.drop_append_of_le_length (by grind[lZ]),List.take_append_of_le_length (by grind[lZ])];exact a
  ·cases a
theorem i6 {b:Type} {x:Option b} {K:b->Prop} (h:iO x K):∃a,x=some a/\K a:=by
 cases x with
 |none=>exact h.elim;|some a=>exact⟨a,rfl,h⟩
theorem Hf (o:bX) (i:Nat):(gO o)[i]?=(o[i]?).map bq.g:=by simp[gO]
theorem oh (o:bX):(gO o).length=o.length:=by simp[gO]
theorem qy (o:bX) (i:Nat) (x:bq):gO (o.set i x)=(gO o).set i x.g:=by simp[gO]
theorem fK {o:bX} {i:Nat} {x:bq} (h:o[i]?=some x):(gO o)[i]?=some x.g:=by grind[Hf]
theorem OT:∀{cs:List SV} {l:List Int},ints cs=some l->cs.length=l.length/\∀i,i<l.length->(cs[i]?).map γI=some (.sc (.int .i64 (bj l i 0))):=by
 intro cs l h;have a:=Cj h;have c:cs.length=l.length:=by simpa using congrArg γp a
 refine⟨c,λi b=>?_⟩;have:=congrArg (λl=>l[i]?) a;simp only[List.getElem?_map] at this;rw[this,ξ b,cO b];rfl
theorem OU:∀{cs:List SV} {l:List (List Off)},mQ.rowsOff cs=some l->cs.length=l.length/\∀i,i<l.length->cs[i]?=some (.row .off (bj l i []))
 |[],l,h=>by grind[mQ.rowsOff];|c::cs,l,h=>by
  cases c with
  |row s x=>
   cases s<;>simp only[mQ.rowsOff,reduceCtorEq] at h;obtain⟨e,a,rfl⟩:=δ.1 h;obtain⟨b,d⟩:=OU a;grind[bj];|_=>simp[mQ.rowsOff] at h
theorem YZ {cs:List SV} {sz i:Nat} {n:Option Nat} {K:SV->Prop} (h:mQ.zo cs sz i n K) (d:i*sz<cs.length):∃v,gn (gL cs) (i*sz) n=some v.g/\K v:=by
 unfold mQ.zo at h;split at h
 ·rw[Nat.mul_one] at d ⊢;split at h
  ·rename_i l a;obtain⟨b,c⟩:=OT a;grind[gn,tW,γI]
  ·split at h
   ·rename_i l a;obtain⟨b,c⟩:=OU a;grind[gn,tW]
   simp_all
 simp_all
theorem Y0 {cs:List AV} {base a m:Nat} {v:AV} (h:gn ((cs.drop base).take m) a none=some v):gn cs (base+a) none=some v:=by
 grind[gn]
theorem OV {o:bX} {a:SV} {n:Option Nat} {K:SV->Prop} (h:mQ o a n K):∃cs b v,behind (gO o) a.g=some (cs,b)/\gn cs b n=some v.g/\K v:=by
 cases a with
 |ptr x b t=>
  simp only[mQ] at h;split at h
  ·rename_i cs e f z y;split at h
   ·rename_i D;obtain⟨v,k,j⟩:=i6 h;exact⟨gL cs,b,v,by simp_all[behind,γI,fK,bq.g,jL],CQ k,j⟩
   simp_all
  simp_all;|ap x c f d t i=>
  simp only[mQ] at h;split at h
  ·rename_i cs e A z y;split at h
   ·rename_i D;obtain⟨C,p⟩:=h;have w:(i+1)*f<=d*f:=γN _ C;rw[Nat.succ_mul] at w;have F:f*d=d*f:=Nat.mul_comm ..;by_cases E:f=0;·grind[mQ.zo]
    ·have q:i*f<((cs.drop c).take (f*d)).length:=by grind
     obtain⟨v,k,j⟩:=YZ p q;have B:n=none:=by
      grind[mQ.zo]
     subst B;refine⟨gL cs,c+i*f,v,by simp_all[behind,γI,fK,bq.g,jL],?_,j⟩;have:gL ((cs.drop c).take (f*d))=((gL cs).drop c).take (f*d):=by simp[gi]
     grind[Y0]
   simp_all
  simp_all;|ep s l i b=>
  simp only[mQ] at h;obtain⟨u,p⟩:=h;obtain⟨v,k,j⟩:=i6 p;exact⟨cC s l,i*s.sz+b,v,by simp[behind,γI],OS u k,j⟩;|rp x i b m f=>
  simp only[mQ] at h;split at h
  ·rename_i s l e z y;split at h
   ·rename_i r;subst r;obtain⟨w,u,p⟩:=h;obtain⟨v,k,j⟩:=i6 p;exact⟨cC s l,i*s.sz+b,v,by simp_all[behind,γI,fK,bq.g,fu],OS u k,j⟩
   simp_all
  simp_all;|_=>simp only[mQ] at h
theorem OW (o:Store) (d:Nat) {v:Value} (h:v≠ .slice none 0 0):freeze o d (.sc v)=some (.sc v):=by
 grind[freeze]
theorem OX (o:Store) (d:Nat) {a:AV} (h:Plain a):freeze o d a=some a:=by
 rcases h with⟨v,rfl,_,h⟩|⟨n,b,rfl,_⟩<;>grind[OW,freeze]
theorem Hh {f:AV->Option AV}:∀{l:List AV},(∀a∈l,f a=some a)->l.mapM f=some l
 |[],_=>by simp;|a::l,h=>by simp[List.mapM_cons,h a (by simp),Hh (l:=l) λb c=>h b (by simp[c])]
theorem xn {o:Store} {d:Nat} {f:SV->(SV->Prop)->Prop} (c:∀v K,f v K->∃b:SV,freeze o d v.g=some b.g/\K b):
  ∀{l:List SV} {K:List SV->Prop},vm f l K->∃a,(gL l).mapM (freeze o d)=some (gL a)/\K a
 |[],K,h=>⟨[],by simp[gL],h⟩
 |v::l,K,h=>by
  obtain⟨b,j,i⟩:=c v _ h;obtain⟨a,k,e⟩:=xn c i;exact⟨b::a,by simp_all[gL],e⟩
theorem zA {s:bn} {l:List s.T} {b a:Nat}:((cC s l).drop (b*s.sz)).take (a*s.sz)=cC s ((l.drop b).take a):=by
 rw[GR,OC]
theorem Hj {o:bX}:∀{d:Nat} {v:SV} {K:SV->Prop},rq o d v K->∃y,freeze (gO o) d v.g=some y.g/\K y:=by
 intro d;induction d with
 |zero=>
  intro v K h;cases v<;>simp only[rq] at h<;>grind[rq,γI,freeze,cC,OW];|succ d p=>
  intro v K h;cases v<;>simp only[rq] at h;case sc v=>
   grind[γI,freeze,cC]
  case agg B=>
   obtain⟨A,z,r⟩:=xn (λv K m=>p m) h;grind[γI,freeze]
  case bH B=>
   obtain⟨A,z,r⟩:=xn (λv K m=>p m) h;grind[γI,freeze]
  case fn f a b=>
   obtain⟨I,z,r⟩:=xn (λv K m=>p m) h;obtain⟨J,L,H⟩:=xn (λv K m=>p m) r;grind[γI,freeze]
  case ow E n F=>
   split at h
   ·rename_i s l e G w;split at h
    ·rename_i k;obtain⟨rfl,t⟩:=h;subst k;refine⟨_,?_,t⟩;have i:(cC s l).mapM (freeze (gO o) d)=some (cC s l):=Hh λa C=>by
      grind[OX,nA]
     have D:γe (l.length*s.sz) (cC s l)=cC s l:=γl (by grind[fu]);simp_all[γI,freeze,fK,bq.g,fu,qx]
    simp_all
   simp_all
  case os E j c n F=>
   split at h
   ·rename_i s l e G w;split at h
    ·rename_i k;obtain⟨rfl,u,t⟩:=h;subst k;refine⟨_,?_,t⟩;have i:(cC s ((l.drop j).take c)).mapM (freeze (gO o) d)=some (cC s ((l.drop j).take c)):=Hh λa C=>by
      grind[OX,nA]
     have x:(j+c)*s.sz<=l.length*s.sz:=γN _ u;rw[δ2] at x;have q:((l.drop j).take c).length=c:=by simp;omega
     simp only[γI,freeze,fK w,bq.g,fu,x,and_self,if_true,zA,i,qx,q];simp_all
    simp_all
   simp_all
  all_goals grind[γI,freeze]
theorem CS {k:IntKind} {n:Int} (h:bY k n):eO k n=n:=by
 cases k<;>simp only[bY,eO] at h ⊢<;>simp_all
theorem nD {c:Prop} [Decidable c] {A:Prop} (h:if c then A else False):c/\A:=by
 simp_all
theorem agH {b:Int} {k:Nat} (h:b<=k):min b.toNat k=b.toNat:=by omega
theorem Y3 (a b:Int):(a==b)=decide (a=b):=rfl
theorem Y4 (a b:Int):(a !=b)=decide (a≠b):=by
 grind
theorem zB {k:IntKind} {n:Int} {K:Int->Prop} (h:vl k n K):K (eO k n):=by
 have a:k= .u32->eO k n=n % 4294967296:=by
  grind[tu,IntKind.wrap,IntKind.bits,IntKind.signed]
 have b:k= .u64->eO k n=n % 18446744073709551616:=by
  grind[tu,IntKind.wrap,IntKind.bits,IntKind.signed]
 unfold vl at h;grind[CS]
theorem go_sound {e:BinOp} {k i:IntKind} {a b:Int} {K:SV->Prop} (h:eQ.go e K k a i b):∃v f:_,gQ e (.int k a) (.int i b)=some v/\f.g= .sc v/\K f:=by
 cases e<;>simp only[eQ.go] at h;case shl=>
  obtain⟨j,m,l⟩:=h;refine⟨.int k (eO k (a*2^b.toNat)),.si k (eO k (a*2^b.toNat)),?_,rfl,zB l⟩;simp_all[gQ,F3]
 case shr=>
  obtain⟨j,m,n⟩:=h;refine⟨.int k (a / 2^b.toNat),_,?_,rfl,n⟩;have:a.fdiv (2^b.toNat)=a / 2^b.toNat:=Int.fdiv_eq_ediv_of_nonneg _ (by grind);simp_all[gQ,F3]
 case add=>
  obtain⟨d,c⟩:=nD h;subst d;exact⟨.int k (eO k (a+b)),.si k (eO k (a+b)),by simp only[gQ,if_true,lx],rfl,zB c⟩
 case sub=>
  obtain⟨d,c⟩:=nD h;subst d;exact⟨.int k (eO k (a - b)),.si k (eO k (a - b)),by simp only[gQ,if_true,lx],rfl,zB c⟩
 case mul=>
  obtain⟨d,c⟩:=nD h;subst d;exact⟨.int k (eO k (a*b)),.si k (eO k (a*b)),by simp only[gQ,if_true,lx],rfl,zB c⟩
 case quo=>
  obtain⟨d,c⟩:=nD h;subst d;exact⟨.int k (a.tdiv b),_,by simp_all[gQ,lx,CS],rfl,c.2.2⟩
 case rem=>
  obtain⟨d,c⟩:=nD h;subst d;exact⟨.int k (a.tmod b),_,by simp_all[gQ,lx],rfl,c.2⟩
 case and=>
  obtain⟨d,c⟩:=nD h;subst d;exact⟨.int k (eQ.ry k a b),_,by simp only[gQ,if_true,lx,eQ.ry],rfl,c⟩
 case or=>
  obtain⟨d,c⟩:=nD h;subst d;exact⟨.int k (eQ.nZ k a b),_,by simp only[gQ,if_true,lx,eQ.nZ],rfl,c⟩
 case xor=>
  obtain⟨d,c⟩:=nD h;subst d;exact⟨.int k (eQ.GU k a b),_,by simp only[gQ,if_true,lx,eQ.GU],rfl,c⟩
 case andNot=>
  obtain⟨d,c⟩:=nD h;subst d;exact⟨.int k (eQ.rA k a b),_,by simp only[gQ,if_true,lx,eQ.rA],rfl,c⟩
 case eql=>
  obtain⟨d,c⟩:=nD h;subst d;exact⟨.bool (decide (a=b)),_,by simp_all[gQ,lx,Y3],rfl,c⟩
 case neq=>
  obtain⟨d,c⟩:=nD h;subst d;exact⟨.bool (decide (a≠b)),_,by simp_all[gQ,lx,Y4],rfl,c⟩
 case lss=>
  obtain⟨d,c⟩:=nD h;subst d;exact⟨.bool (decide (a<b)),_,by simp only[gQ,if_true,lx],rfl,c⟩
 case leq=>
  obtain⟨d,c⟩:=nD h;subst d;exact⟨.bool (decide (a<=b)),_,by simp only[gQ,if_true,lx],rfl,c⟩
 case gtr=>
  obtain⟨d,c⟩:=nD h;subst d;exact⟨.bool (decide (b<a)),_,by simp only[gQ,if_true,lx],rfl,c⟩
 case geq=>
  obtain⟨d,c⟩:=nD h;subst d;exact⟨.bool (decide (b<=a)),_,by simp only[gQ,if_true,lx],rfl,c⟩
theorem Y5 {j:BinOp} {x y:SV} {K:SV->Prop} (h:eQ j x y K):∃a b v c,x.g= .sc a/\y.g= .sc b/\gQ j a b=some v/\c.g= .sc v/\K c:=by
 unfold eQ at h;split at h
 ·split at h;·rename_i i;exact⟨_,_,_,_,rfl,rfl,i,rfl,h⟩
  ·rename_i i;exact⟨_,_,_,_,rfl,rfl,i,rfl,h⟩
  simp_all
 ·obtain⟨v,c,d,e,f⟩:=go_sound h;exact⟨_,_,v,c,rfl,rfl,d,e,f⟩
 ·obtain⟨v,c,d,e,f⟩:=go_sound h;exact⟨_,_,v,c,rfl,rfl,d,e,f⟩
 ·obtain⟨v,c,d,e,f⟩:=go_sound h;exact⟨_,_,v,c,rfl,rfl,d,e,f⟩
 ·split at h;·exact⟨_,_,_,_,rfl,rfl,by grind[gQ],rfl,h⟩
  ·exact⟨_,_,_,_,rfl,rfl,by grind[gQ],rfl,h⟩
  simp_all
 simp_all
theorem zC {k:IntKind} {a b:Int}:seq1 (.int k a) (.int k b)=some (decide (a=b)):=by
 simp only[seq1,if_true,γ];rfl
theorem Y6 {x y:SV} {r:Bool} (h:GV x y=some r):∃a b,x.g= .sc a/\y.g= .sc b/\seq1 a b=some r:=by
 cases x<;>simp only[GV,reduceCtorEq] at h;all_goals
  obtain⟨b,c,rfl⟩:=δ.1 h;first
   |exact⟨_,_,rfl,iw c,zC⟩;|exact⟨_,_,rfl,vj c,by simp[seq1]⟩
theorem OY:∀{x y:List SV} {r:Bool},tP x y=some r->∃a b,gL x=a.map .sc/\gL y=b.map .sc/\gp a b=some r
 |[],[],r,h=>by simp[tP] at h;subst h;exact⟨[],[],rfl,rfl,rfl⟩;|[],_::_,r,h=>by grind[tP];|_::_,[],r,h=>by grind[tP];|x::l,y::n,r,h=>by
  simp only[tP] at h;split at h
  ·rename_i a b e f;simp only[γ] at h;subst h;obtain⟨u,v,g,j,k⟩:=Y6 e;obtain⟨d,c,i,o,m⟩:=OY f;exact⟨u::d,v::c,by grind[gL],by grind[gL],by grind[gp]⟩
  ·cases h
theorem Hk:∀(l:List Value),r7 (l.map .sc)=some l
 |[]=>rfl
 |v::l=>by simp[r7,Hk l]
theorem tY:∀{a b:List Value},a.map δl=b.map δl->a=b
 |[],[],_=>rfl
 |[],_::_,h=>by simp at h;|_::_,[],h=>by simp at h;|x::a,y::b,h=>by
  simp only[θ,τ,γ4] at h;rw[h.1,tY h.2]
theorem vt:∀{e:List Nat} {x:List SV} {a:List Value},lC e x=true->gL x=a.map .sc->ey e a=true
 |[],[],a,_,h=>by
  cases a with
  |nil=>rfl;|cons a i=>simp[gL] at h
 |[],_::_,a,h,_=>by grind[lC];|_::_,[],a,h,_=>by grind[lC];|k::e,x::j,a,h,f=>by
  cases a with
  |nil=>grind[gL];|cons a i=>
   simp only[gL,θ,τ] at f;obtain⟨c,d⟩:=f;match k,x,h with
   |0,.si k n,h=>simp only[lC] at h;simp only[γI,γ4] at c;subst c;simpa[ey] using vt h d;|0,.il k n,h=>simp only[lC] at h;simp only[γI,γ4] at c;subst c;simpa[ey] using vt h d;|1,.sb b,h=>simp only[lC] at h;simp only[γI,γ4] at c;subst c;simpa[ey] using vt h d;|1,.bl b,h=>simp only[lC] at h;simp only[γI,γ4] at c;subst c;simpa[ey] using vt h d
theorem Y7 {c:List Nat} {a b:List SV} {r:Bool} (d:(lC c a&&lC c b)=true) (h:tP a b=some r):wB c (gL a) (gL b)=some r:=by
 obtain⟨u,v,f,e,g⟩:=OY h;simp only[ζ] at d;rw[f,e];simp only[wB,Hk,vt d.1 f,vt d.2 e,Bool.and_self,if_true,g]
theorem Y8 {s s':bn} {l:List s.T} {a:List s'.T} (h:iI s s' l=some a):s=s'/\HEq l a:=by
 unfold iI at h;grind
theorem zD {s s':bn} {l:List s.T} {l':List s'.T} (h:iI s s' l=some l'):s'=s/\cC s' l'=cC s l/\l'.length=l.length:=by
 grind[Y8]
theorem Hl:∀{a:List (Nat×Nat×SV)} {cs b:List SV},sx a cs=some b->lA (a.map λq=>(q.1,q.2.1,q.2.2.g)) (gL cs)=some (gL b)
 |[],cs,b,h=>by simp[sx] at h;subst h;rfl;|(d,n,v)::r,cs,b,h=>by
  simp only[sx] at h;split at h
  ·rename_i c;obtain⟨i,f,e⟩:=c;have:=Hl h;simp_all[lA,CN,jL,CO,zz]
  ·cases h
theorem CU {s:bn}:∀{n:Nat} {cs:List SV} {l:List s.T},tO s n cs=some l->gL cs=cC s l/\l.length=n
 |0,[],l,h=>by grind[tO,gL,cC];|0,_::_,l,h=>by simp[tO] at h;|n+1,cs,l,h=>by
  simp only[tO] at h;split at h
  ·rename_i x f a b;simp only[γ] at h;subst h;obtain⟨d,c⟩:=CU b;have e:=nY a;refine⟨?_,by simp[c]⟩;rw[gi] at d ⊢;conv=>lhs;rw[<-Ψ s.sz cs]
   grind[cC]
  ·cases h
theorem Y9 {o:bX} {s:bn} {x:SV} {K:List s.T->Prop} (h:vn o s x K):∃l,nn (gO o) s.sz x.g=some (l.length,cC s l)/\K l:=by
 cases x with
 |row q l=>
  simp only[vn] at h;obtain⟨f,c,w⟩:=i6 h;obtain⟨rfl,p,m⟩:=zD c;exact⟨f,by simp_all[γI,nn,fu],w⟩;|ow y n u=>
  simp only[vn] at h;split at h
  ·rename_i q l e A B;split at h
   ·rename_i b;subst b;obtain⟨rfl,k⟩:=h;obtain⟨f,c,i⟩:=i6 k;obtain⟨rfl,p,m⟩:=zD c;refine⟨f,?_,i⟩;have t:γe (l.length*s.sz) (cC s l)=cC s l:=γl (by grind[fu]);simp_all[γI,nn,fK,bq.g,fu]
   simp_all
  simp_all;|os y d a n u=>
  simp only[vn] at h;split at h
  ·rename_i q l e A B;split at h
   ·rename_i b;subst b;obtain⟨rfl,j,k⟩:=h;obtain⟨f,c,i⟩:=i6 k;obtain⟨rfl,p,m⟩:=zD c;refine⟨f,?_,i⟩;have r:(d+a)*s.sz<=l.length*s.sz:=γN _ j;rw[δ2] at r;have z:((l.drop d).take a).length=a:=by simp;omega
    simp_all[γI,nn,fK,bq.g,fu,zA]
   simp_all
  simp_all;|sc v=>
  grind[vn,γI,nn,cC];|_=>simp only[vn] at h
theorem Hm {v:SV} {n:Int} (h:zp v=some n):gZ v.g=some n:=by
 cases v<;>simp[zp] at h<;>simp[γI,gZ,h]
theorem pJ {d:Nat} {x:Option SV} {K:Nat->Prop} (h:oa d x K):∃n,hJ d (x.map γI)=some n/\K n:=by
 unfold oa at h;grind[γI,hJ]
theorem vu {bB:Nat} {x:bq} {o:bX} {K:bX->Prop} (h:mkK bB x o K):∃o',kW bB x.g (gO o)=some (gO o')/\K o':=by
 grind[mkK,kW,fK,bq.g,qy]
theorem Za {s:bn} (e:s.keyed=true) (x y:s.T):gp (dK s x) (dK s y)=some (decide (x=y)):=by
 cases s<;>simp only[bn.keyed,reduceCtorEq] at e;·grind[dK,gp,zC]
 ·obtain⟨b,⟨m,o,a,l,c,i⟩⟩:=x;obtain⟨g,⟨k,h,j,n,d,f⟩⟩:=y;simp_all[dK,iv,gp,zC]
 ·obtain⟨b,⟨m,o,a,l,c,i⟩,⟨C,t,B,A,D,w⟩⟩:=x;obtain⟨g,⟨k,h,j,n,d,f⟩,⟨p,z,r,u,v,q⟩⟩:=y;simp only[dK,iv,gp,zC,γ,δZ];grind
theorem Zb {s:bn} {a:Bool} (d:s.keyed=true) (b:a=false->s.sz=1) (x y:s.T):keq (oR s a x) (oR s a y)=some (decide (x=y)):=by
 cases a with
 |true=>grind[oR,keq,Za];|false=>
  have c:=b rfl;cases s<;>simp only[bn.keyed,reduceCtorEq] at d<;>simp only[bn.sz,reduceCtorEq,Nat.reduceEqDiff] at c;simp_all[oR,dK,keq,zC]
theorem Hn {a sv:bn} {c:Bool} (f:a.keyed=true) (e:c=false->a.sz=1) (x:a.T):∀(es:List (a.T×sv.T)) (i:Nat),
  ∃r,nV (oR a c x) (es.map λp=>(oR a c p.1,mP sv p.2)) i=some r/\(match j5 a sv x es with|some v=>∃j,r=some (i+j,mP sv v)/\(∃p,es[j]?=some p/\p.1=x)/\(∀g<j,∀p,es[g]?=some p->p.1≠x)|none=>r=none/\∀p∈es,p.1≠x)
 |[],i=>⟨none,by simp[nV],by simp[j5]⟩
 |p::es,i=>by
  simp only[θ,nV,Zb f e];by_cases b:p.1=x
  ·refine⟨some (i,mP sv p.2),by simp[b],?_⟩;simp only[j5,List.find?_cons,b,decide_true,μ];exact⟨0,by simp,⟨p,by simp,b⟩,by simp⟩
  ·obtain⟨r,m,k⟩:=Hn f e x es (i+1);have d:¬x=p.1:=λh=>b h.symm;refine⟨r,by simp[d,m],?_⟩;have n:j5 a sv x (p::es)=j5 a sv x es:=by grind[j5]
   rw[n];split at k
   ·obtain⟨j,w,⟨q,t,l⟩,o⟩:=k;refine⟨j+1,by grind,⟨q,by simp_all,l⟩,λg u s y=>?_⟩;grind
   grind
theorem Ho {a sv:bn} {x:a.T} {v:sv.T}:∀{es:List (a.T×sv.T)},(∀p∈es,p.1≠x)->nB a sv x v es=es++[(x,v)]
 |[],_=>rfl
 |p::es,h=>by
  simp only[nB,if_neg (h p (by simp)),γE];rw[Ho λq b=>h q (by simp[b])]
theorem OZ {a sv:bn} {x:a.T} {v:sv.T}:∀{es:List (a.T×sv.T)} {j:Nat},(∃p,es[j]?=some p/\p.1=x)->(∀b<j,∀p,es[b]?=some p->p.1≠x)->nB a sv x v es=es.modify j λ_=>(x,v)
 |[],j,⟨p,h,_⟩,_=>by simp at h;|p::es,0,⟨q,h,d⟩,_=>by
  grind[nB];|p::es,j+1,⟨q,h,d⟩,c=>by
  have g:=c 0 (by omega) p (by simp);simp only[nB,if_neg g,ζD];rw[OZ (j:=j) ⟨q,by simpa using h,d⟩ λb i e f=>c (b+1) (by omega) e (by simp_all)]
theorem O0 {f:List Nat} {d:Bool} {s:bn} {v:SV} {x:s.T} (e:lC f v.cellsOf=true) (o:vo d v=true) (p:s.flat=true) (n:jJ s v.cellsOf=some x):lz f d v.g=some (oR s d x):=by
 have k:=nY n;have c:gL v.cellsOf=(dK s x).map .sc:=by grind[gi,Ci]
 have i:=vt e c;by_cases l:∃h,v= .agg h
 ·obtain⟨h,rfl⟩:=l;simp_all[SV.cellsOf,vo,γI,lz,Hk,oR]
 ·have b:d=false:=by
   simp_all[vo]
  subst b;have j:v.cellsOf=[v]:=by
   cases v<;>first|rfl|simp_all
  rw[j] at c;simp only[gL] at c;cases m:dK s x with
  |nil=>simp_all;|cons a r=>
   rw[m] at c i;simp only[θ,τ] at c;simp_all[lz,oR]
theorem O1 {s:bn} (h:s.xf=true) (x:s.T):((encS s x).headD .ud).g=mP s x:=by
 cases s<;>simp[bn.xf] at h<;>simp[encS,mP,dK,γI]
theorem O2 {s:bn} (h:s.xf=true) (x:s.T):dO s x=[mP s x]:=by
 cases s<;>simp[bn.xf] at h<;>simp[dO,mP,dK]
theorem O3 {s:bn} (h:s.keyed=true):s.flat=true:=by
 cases s<;>simp[bn.keyed] at h<;>rfl
structure pK (call:cV) (C:OD):Prop where
 pure:∀f args K,C.pure f args K->∃r:SV,call f (gL args) [] false=some (r.g,[])/\K r
 own:∀f args o K,C.own f args o K->∃(r:SV) (o':bX),iH call f (gL args) (gO o)=some (r.g,gO o')/\K r o'
section
variable {call:cV} {p:iN} {o:bX} {bB:Nat} {K:SV->bX->Prop}
theorem Hq (j:pK call p.C) {f:FuncId} {args:List SV} {own:Bool} (h:eK.zq p f args o own K):
  ∃(v:SV) (o':bX),gC call f (gL args) (gO o) own=some (v.g,gO o')/\K v o':=by
 unfold eK.zq at h;split at h
 ·rename_i c;obtain⟨r,o',k,e⟩:=j.own _ _ _ _ h;exact⟨r,o',by simp_all[gC],e⟩
 ·rename_i c;have c:own=false:=by simp_all
  subst c;obtain⟨b,k,e⟩:=xn (o:=gO o) (d:=6) (λv K m=>Hj m) h;obtain⟨r,l,i⟩:=j.pure _ _ _ e;split at i
  ·rename_i a;refine⟨r,o,?_,i⟩;simp only[gC,ω,if_false,k,l];rw[if_pos];simp only[δu] at a ⊢;rcases a with a|a
   ·left;rw[gi,List.flatMap_map];exact a
   grind[OP]
  simp_all
theorem CV (ρ:Operand->SV) (l:List Operand):gL (l.map ρ)=l.map λx=>(ρ x).g:=by simp[gi]
theorem Zc {a:List (Nat×Nat×Operand)} {ρ:Operand->SV} {cs b:List SV} (h:sx (a.map λq=>(q.1,q.2.1,ρ q.2.2)) cs=some b):
  lA (a.map λq=>(q.1,q.2.1,(ρ q.2.2).g)) (gL cs)=some (gL b):=by
 have:=Hl h;grind[δj]
theorem Hr {a:List (Nat×Operand)} {sz:Nat} {ρ:Operand->SV} {cs b:List SV} (h:sx (a.map λq=>(q.1,sz,ρ q.2)) cs=some b):
  lA (a.map λq=>(q.1,sz,(ρ q.2).g)) (gL cs)=some (gL b):=by
 have:=Hl h;grind[δj]
theorem Ht (z:List Value):gL (z.map SV.oU)=z.map .sc:=by rw[gi,G5]
theorem Hu (a:Nat) (z:List Value):gL ((ε a (z.map SV.oU)).flatten)=(ε a (z.map δl)).flatten:=by
 rw[gi,List.map_flatten,List.map_replicate,G5]
theorem Zd (s:bn) (x:s.T) (n:Nat):(ε n (dO s x)).flatten=cC s (ε n x):=by
 induction n<;>grind[cC]
theorem zE {ρ:Operand->SV} (l:Option Operand):(l.map ρ).map γI=l.map λx=>(ρ x).g:=by cases l<;>rfl
theorem Ze:∀{l:List Int} {i:Nat} {v:Int},i<l.length->fZ (l.map λn=>δl (iv n)) 0 ((l.set i v).map λn=>δl (iv n))=(l.map λn=>δl (iv n)).set i (.sc (iv v)):=by
 intro l i v e;have d:∀(b a c:List AV),b.length=c.length->fZ (a++c) a.length b=a++b:=by
  intro b;induction b with
  |nil=>grind[fZ];|cons w b f=>
   intro a c h;cases c with
   |nil=>simp at h;|cons y c=>
    simp only[γz,ζm] at h;simp only[fZ];have:(a++y::c).set a.length w=(a++[w])++c:=by
     simp_all
    grind
 have:=d ((l.set i v).map λn=>δl (iv n)) [] (l.map λn=>δl (iv n)) (by simp);simp_all
theorem O4 {b c:Type} (f:b->c) (x:b):∀(l:List b) (j:Nat),(l.modify j λ_=>x).map f=(l.map f).modify j λ_=>f x
 |[],j=>by simp;|a::l,0=>by simp_all;|a::l,j+1=>by simp only[ζD,θ,O4 f x l j]
theorem Zf (v:Value):(δl v).cellsOf=[.sc v]:=rfl
theorem O5:∀{l:List Int} {i j:Nat} {v:Int},tQ l (i+j) v j=l.set i v
 |[],_,_,_=>rfl
 |a::l,0,j,v=>by
  have h:∀(l:List Int) (c:Nat),j<c->tQ l j v c=l:=by
   intro l;induction l with
   |nil=>intro _ _;rfl;|cons b l d=>intro c e;simp only[tQ,if_neg (show ¬j=c by omega),d (c+1) (by omega)]
  simp_all[tQ];|a::l,i+1,j,v=>by
  simp only[tQ,if_neg (show ¬i+1+j=j by omega),List.set_cons_succ];rw[show i+1+j=i+(j+1) from by omega,O5]
theorem Zg {ρ:Operand->SV} {n:Nat} {a x:Operand} (h:eK p (.store n a x) ρ o bB K):
  ∃(v:SV) (o':bX),bJ call (.store n a x) (λx=>(ρ x).g) (gO o) bB=some (v.g,gO o')/\K v o':=by
 simp only[eK] at h;split at h
 ·rename_i W b L B;split at h
  ·rename_i f e Y E z;split at h
   ·rename_i D;obtain⟨V,C,X,P,R⟩:=D;refine⟨.ud,_,?_,h⟩;simp only[bJ,B,γI,fK z,bq.g,CN,jL,CO];rw[if_pos ⟨V,C,X,P,R.imp (λq=>q) λhp=>G6 _ hp⟩,qy,bq.g,zz,G9]
   simp_all
  simp_all
 ·rename_i W i b m Y B;split at h
  ·rename_i s l e E z;split at h
   ·rename_i D;obtain⟨rfl,C,X⟩:=D;obtain⟨rfl,N,P⟩:=h;obtain⟨v,hv,R⟩:=i6 P;refine⟨.ud,_,?_,R⟩;have T:=nY hv;rw[<-gi,zz,G9] at T;have O:gL (encS s (bj l i s.dflt))=dO s (bj l i s.dflt):=by rw[gi,tM]
    rw[O] at T;have y:(i+1)*s.sz<=l.length*s.sz:=γN _ N;rw[Nat.succ_mul] at y;have u:∀c∈eu E (gL (ρ x).cellsOf),Plain c:=by
     intro c hc;obtain⟨j,hj⟩:=List.mem_iff_getElem?.1 hc;have U:=(ι.1 hj).1;rw[tn,jL,C] at U;have a1:(fZ (dO s (bj l i s.dflt)) b (eu E (gL (ρ x).cellsOf)))[b+j]?=some c:=by
      have a0:∀(r f:List AV) (b j:Nat) (c:AV),r[j]?=some c->b+r.length<=f.length->(fZ f b r)[b+j]?=some c:=by
       intro r;induction r with
       |nil=>simp_all;|cons w r ih=>
        intro f b j c h M;simp only[γz] at M;simp only[fZ];cases j with
        |zero=>
         simp only[List.getElem?_cons_zero,γ] at h;subst h;have F:∀(r f:List AV) (Z k:Nat),k<Z->(fZ f Z r)[k]?=f[k]?:=by
          intro r;induction r<;>grind[fZ]
         grind;|succ j=>
         have:=ih (f.set b w) (b+1) j c (by simpa using h) (by simp;omega);grind
      grind[tn,jL,lZ]
     grind[zm]
    obtain⟨G,Q⟩:=Ha u;simp only[bJ,B,γI,fK z,bq.g,CN,fu,jL];rw[if_pos ⟨trivial,C,G,by omega,.inr Q⟩,qy,bq.g,YY N (by grind[tn,jL]) T]
   simp_all
  simp_all
 ·rename_i W d Y t L i B;split at h
  ·rename_i f e a3 E z;split at h
   ·rename_i v H;split at h
    ·rename_i l M;split at h
     ·rename_i D;obtain⟨V,C⟩:=D;rw[show tQ l i v 0=l.set i v from O5 (j:=0)] at h;obtain⟨N,hk⟩:=h;refine⟨.ud,_,?_,hk⟩;have S:(ρ x).cellsOf=[ρ x]:=by
       cases hr:ρ x<;>rw[hr] at H<;>simp[SV.int] at H<;>rfl
      have I:(ρ x).g= .sc (iv v):=iw H;have A:=Cj M;have a2:l.length=t:=by
       have:=congrArg γp A;grind
      have J:gL f=gL (f.take d)++(l.map λn=>δl (iv n))++gL (f.drop (d+t)):=by
       rw[<-A,gi,gi,gi,<-γd,<-γd];congr 1;rw[<-γW,List.append_assoc,Ψ,Ψ]
      have a4:(gL (f.take d)).length=d:=by grind[jL]
      have hq:eu E [δl (iv v)]=[δl (iv v)]:=by unfold eu;split<;>rfl
      simp only[bJ,B,γI,fK z,bq.g,I,Zf,List.length_singleton,jL,hq];rw[if_pos ⟨V,trivial,by simp[eF,AV.one,iv,Value.oneCell'],by omega,.inr (by simp[dr,AV.pure])⟩,qy,bq.g,zz];congr 4;have e1:gL ((l.set i v).map (SV.si .i64))=(l.set i v).map λn=>δl (iv n):=by
       rw[gi,δr];rfl
      rw[e1,J];have hm:=He ((l.set i v).map λn=>δl (iv n)) (gL (f.take d)) (l.map λn=>δl (iv n)) (gL (f.drop (d+t))) 0 (by simp);grind[Ze,fZ]
     simp_all
    simp_all
   simp_all
  simp_all
 simp_all
theorem Zh {ρ:Operand->SV} {e:TypeId} {sz b:Nat} {s x:Operand} {pu:Bool} (h:eK p (.append e sz b s x pu) ρ o bB K):
  ∃(v:SV) (o':bX),bJ call (.append e sz b s x pu) (λx=>(ρ x).g) (gO o) bB=some (v.g,gO o')/\K v o':=by
 simp only[eK] at h;split at h
 ·rename_i t tl U a;split at h
  ·rename_i S n G j m R k M;split at h
   ·rename_i O l Z I H;split at h
    ·rename_i F;obtain⟨rfl,q,rfl,rfl,rfl,rfl,i,w⟩:=F;obtain⟨rfl,C,y,B⟩:=h;rw[M] at a;unfold OE at a;split at a
     ·rename_i j' W Y;injection Y with e1 N e3;subst e1 N e3;split at a
      ·rename_i s2 N L D;split at a
       ·rename_i A;injection a with a;subst a;refine⟨_,_,?_,B⟩;have E:nn (gO o) t.sz (.os j 0 1 (1*t.sz))=some (1,gL L):=by
         simp only[nn,fK D,bq.g,cC,ζx,δk,jL];rw[if_pos ⟨by omega,A,by omega⟩,δQ,γl (by grind[jL])]
        have J:eF (gL L)=true:=by grind[CO]
        simp only[bJ,k,M,γI,qj];simp only[E,J,ζM,if_false,fK H,bq.g,fu,q];rw[if_pos ⟨trivial,trivial,trivial,trivial,C,y,.inl trivial⟩,qy,bq.g];grind
       ·cases a
      ·cases a
     ·cases a
    simp_all
   simp_all
  simp_all
 ·rename_i t U _;split at h
  ·rename_i z;subst z;obtain⟨f,V,d⟩:=Y9 h;have r:eF (cC t f)=true:=CC _ _;have c:dr (cC t f)=true:=qx _ _;simp only[bJ,qj,V,r,ζM,if_false];split at d
   ·rename_i k;rw[k];simp only[γI];by_cases u:f.length=0;·exact⟨_,_,by simp only[u,if_true];rfl,d.1 u⟩
    ·obtain⟨q,i,w⟩:=d.2 u;obtain⟨o',P,Q⟩:=vu w;refine⟨_,o',?_,Q⟩;simp only[bq.g] at P;rw[if_neg u,if_pos ⟨q,i,.inr c⟩,P];rfl
   ·rename_i S n G k;split at d
    ·rename_i O l Z I H;split at d
     ·rename_i F;obtain⟨rfl,q,rfl⟩:=F;obtain⟨rfl,i,w,C⟩:=d;obtain⟨l',y,B⟩:=i6 C;obtain⟨rfl,T,X⟩:=zD y;refine⟨_,_,?_,B⟩;rw[k];simp only[γI,fK H,bq.g,fu];rw[if_pos ⟨trivial,trivial,trivial,trivial,i,w,.inr c⟩,qy,bq.g,OB,T];grind
     simp_all
    simp_all
   ·rename_i O l k;obtain⟨q,i⟩:=d;refine⟨_,_,?_,i⟩;simp_all[γI]
   simp_all
  simp_all
 simp_all
theorem O6 {mx:Bool} {a b:Int}:(if mx then(if b>a then b else a) else(if b<a then b else a))=if mx then max a b else min a b:=by
 grind
theorem Zi (hC:pK call p.C) {op:cz} {ρ:Operand->SV} (h:eK p op ρ o bB K):
  ∃(v:SV) (o':bX),bJ call op (λx=>(ρ x).g) (gO o) bB=some (v.g,gO o')/\K v o':=by
 cases op with
 |uL x=>exact⟨_,_,rfl,h⟩;|pick c a b=>
  simp only[eK] at h;split at h;·rename_i hc;exact⟨_,_,by simp only[bJ,hc,γI],h⟩
  ·rename_i hc;exact⟨_,_,by simp only[bJ,hc,γI],h⟩
  ·rename_i c hc;cases c with
   |true=>exact⟨_,_,by simp only[bJ,hc,γI],h.1 rfl⟩;|false=>exact⟨_,_,by simp only[bJ,hc,γI],h.2 rfl⟩
  ·exact h.elim;|alloc z e pu=>
  obtain⟨o',hm,hk⟩:=vu h;simp only[bq.g,Ht] at hm;exact⟨_,o',by simp only[bJ,hm,μ,γI],hk⟩;|box e x=>
  simp only[eK] at h;split at h
  ·rename_i h1;obtain⟨o',hm,hk⟩:=vu h;simp only[bq.g] at hm;exact⟨_,o',by simp only[bJ,CN,CO,h1,if_true,jL,hm,μ,γI],hk⟩
  ·exact h.elim;|build z parts=>
  simp only[eK] at h;obtain⟨cs,h1,h2⟩:=i6 h;have:=Zc h1;rw[Ht] at this;exact⟨_,_,by simp only[bJ,this,μ,γI],h2⟩;|pA z len parts e sz=>
  simp only[eK] at h;split at h
  ·rename_i s cs hs hf;split at h
   ·rename_i hsz;split at h
    ·rename_i hany;split at h
     ·rename_i hlen;obtain⟨o',hm,hk⟩:=vu h;simp only[bq.g,cC,ζx,δk] at hm;have hfa:=Hr hf;rw[Hu] at hfa;refine⟨_,o',?_,hk⟩;subst hsz;have hp:dr (gL cs)=false:=by
       clear hf hfa hm hlen h;induction cs with
       |nil=>simp at hany;|cons c cs ih=>
        simp only[List.any_cons,δu] at hany;simp only[gL,dr];rcases hany with hc|hc
        ·have h9:c.g.pure=false:=by
          cases c with
          |ow a b d=>simp[γI,AV.pure];|_=>simp[SV.OG] at hc
         rw[h9,Bool.false_and]
        ·have ih2:=ih hc;rw[ih2,Bool.and_false]
      simp only[bJ,hfa,hp,eu,ω,if_false,hm,μ,γI]
     ·exact h.elim
    obtain⟨l,h1,h2⟩:=i6 h;obtain⟨h3,h4⟩:=CU h1;obtain⟨o',hm,hk⟩:=vu h2;simp only[bq.g] at hm;have hfa:=Hr hf;rw[Hu] at hfa;refine⟨_,o',?_,hk⟩;subst hsz;rw[G8] at h3;have hp:dr (gL cs)=true:=(Ha (pu:=true) (cs:=gL cs) λc hc=>nA (s:=s) (l:=l) (by rw[<-h3];exact hc)).2;have hq:eu true (gL cs)=cC s l:=h3;simp only[bJ,hfa,hp,hq,hm,μ,γI]
   ·exact h.elim
  ·exact h.elim;|s8 z len parts e sz=>
  simp only[eK] at h;split at h
  ·rename_i s cs hs hf;split at h
   ·rename_i hsz;obtain⟨l,h1,h2⟩:=i6 h;obtain⟨h3,h4⟩:=CU h1;have hfa:=Hr hf;rw[Hu] at hfa;rw[G8] at h3;have hp:dr (gL cs)=true:=(Ha (pu:=true) (cs:=gL cs) λc hc=>nA (s:=s) (l:=l) (by rw[<-h3];exact hc)).2;have hq:eu true (gL cs)=cC s l:=h3;exact⟨_,_,by simp only[bJ,hfa,hp,hq,if_true,γI,h4],h2⟩
   ·exact h.elim
  ·exact h.elim;|load n a=>
  simp only[eK] at h;obtain⟨cs,off,v,h1,h2,h3⟩:=OV h;exact⟨v,o,by simp only[bJ,h1,h2,μ],h3⟩;|store n a x=>exact Zg h;|uM x=>
  simp only[eK] at h;split at h;·rename_i hx;exact⟨_,_,by simp only[bJ,hx,γI],h⟩
  ·rename_i hx;exact⟨_,_,by simp only[bJ,hx,γI],h⟩
  ·rename_i hx;exact⟨_,_,by simp only[bJ,hx,γI],h⟩
  ·exact h.elim;|bin op x y=>
  simp only[eK] at h;obtain⟨a,b,v,v',h1,h2,h3,h4,h5⟩:=Y5 h;exact⟨v',o,by simp only[bJ,h1,h2,h3,μ,h4],h5⟩;|beq neg x y=>
  simp only[eK] at h;split at h
  ·rename_i a b h1 h2;exact⟨_,_,by simp only[bJ,vj h1,vj h2,γI],h⟩
  ·exact h.elim;|rY neg ks x y=>
  simp only[eK] at h;split at h
  ·rename_i a b h1 h2;split at h
   ·rename_i hk;obtain⟨r,hr,h3⟩:=i6 h;exact⟨_,_,by simp only[bJ,h1,h2,γI,Y7 hk hr,μ],h3⟩
   ·exact h.elim
  ·exact h.elim;|un op x=>
  simp only[eK] at h;split at h;·rename_i hx;exact⟨_,_,by simp only[bJ,hx,γI,td,μ],h⟩
  ·rename_i hx;exact⟨_,_,by simp only[bJ,hx,γI,td,μ],h⟩
  ·rename_i k n hx;refine⟨_,_,?_,h.2⟩;have:(0:Int) - n= -n:=by omega
   simp only[bJ,hx,γI,td,μ,this,CS h.1]
  ·rename_i hx;exact⟨_,_,by simp only[bJ,hx,γI,td,μ],h⟩
  ·exact h.elim;|conv k x=>
  simp only[eK] at h;split at h;·rename_i hx;exact⟨_,_,by simp only[bJ,hx,γI],h⟩
  ·rename_i hx;exact⟨_,_,by simp only[bJ,hx,γI,CS h.1],h.2⟩
  ·rename_i kk n _ hx;exact⟨.si k (eO k n),_,by simp only[bJ,hx,γI],zB h⟩
  ·exact h.elim;|uN off x=>
  simp only[eK] at h;split at h;·rename_i hx;exact⟨_,_,by simp only[bJ,hx,γI,nk,μ],h⟩
  ·rename_i hx;exact⟨_,_,by simp only[bJ,hx,γI,nk,μ,ε0],h⟩
  ·rename_i hx;exact⟨_,_,by simp only[bJ,hx,γI,nk,μ,ε0],h⟩
  ·exact h.elim;|field off n x=>
  simp only[eK] at h;split at h
  ·rename_i cs hx;obtain⟨v,h1,h2⟩:=i6 h;exact⟨_,_,by simp only[bJ,hx,γI,CQ h1,μ],h2⟩
  ·exact h.elim;|uO len sz x i=>
  simp only[eK] at h;split at h
  ·rename_i k n hi;split at h
   ·rename_i hn;split at h;·rename_i hx;exact⟨_,_,by simp only[bJ,hi,hx,γI,gZ,if_pos hn,nk,μ],h⟩
    ·rename_i hx;exact⟨_,_,by simp only[bJ,hi,hx,γI,gZ,if_pos hn,nk,μ,ε0],h⟩
    ·rename_i hx;exact⟨_,_,by simp only[bJ,hi,hx,γI,gZ,if_pos hn,nk,μ,ε0],h⟩
    ·exact h.elim
   ·exact h.elim
  ·rename_i k n hi;split at h;·rename_i hx;exact⟨_,_,by simp only[bJ,hi,hx,γI,gZ,if_pos (γj h.1 h.2.1),nk,μ],h.2.2⟩
   ·exact h.elim
  ·exact h.elim;|rZ sz x i=>
  simp only[eK] at h;split at h
  ·rename_i n hi;have hi:=Hm hi;split at h
   ·rename_i s l hx;split at h
    ·rename_i hsz;subst hsz;obtain⟨h1,h2,h3⟩:=h;refine⟨_,_,?_,h3⟩;simp only[bJ,hi,hx,γI,qh,fu];rw[if_pos ⟨h1,h2,trivial⟩];simp
    ·exact h.elim
   ·rename_i id m sz' hx;split at h
    ·rename_i s l e pu ho;split at h
     ·rename_i hsz;obtain⟨rfl,rfl⟩:=hsz;obtain⟨rfl,h1,h2,h3⟩:=h;refine⟨_,_,?_,h3⟩;simp only[bJ,hi,hx,γI,qh,fK ho,bq.g,fu];rw[pF (Nat.zero_le _),if_pos ⟨trivial,trivial,h1,h2,by omega⟩];simp
     ·exact h.elim
    ·exact h.elim
   ·rename_i id off len m sz' hx;split at h
    ·rename_i s l e pu ho;split at h
     ·rename_i hsz;obtain⟨rfl,rfl⟩:=hsz;obtain⟨rfl,h1,h2,h4,h3⟩:=h;refine⟨_,_,?_,h3⟩;have hm:(off+len)*s.sz<=l.length*s.sz:=γN _ h4;rw[δ2] at hm;simp only[bJ,hi,hx,γI,qh,fK ho,bq.g,fu];rw[pF (by omega),if_pos ⟨trivial,trivial,h1,h2,hm⟩];simp[δ2]
     ·exact h.elim
    ·exact h.elim
   ·rename_i id off len m sz' hx;split at h
    ·rename_i s l e pu ho;split at h
     ·rename_i hsz;obtain⟨rfl,rfl⟩:=hsz;obtain⟨rfl,h1,h2,h4,h3⟩:=h;refine⟨_,_,?_,h3⟩;have hm:(off+len)*s.sz<=l.length*s.sz:=γN _ h4;have hp:=GM s;rw[δ2] at hm;simp only[bJ,hi,hx,γI,qh,fK ho,bq.g,fu];rw[BO (by omega),show off*s.sz+(l.length*s.sz+s.sz) - l.length*s.sz - s.sz=off*s.sz by omega,if_pos ⟨trivial,trivial,h1,h2,hm⟩];simp[δ2]
     ·exact h.elim
    ·exact h.elim
   ·exact h.elim
  ·exact h.elim;|idx len sz n x i=>
  simp only[eK] at h;split at h
  ·rename_i k' k cs hi hx;split at h
   ·rename_i hk;obtain⟨v,h1,h2⟩:=i6 h;exact⟨_,_,by simp only[bJ,hi,hx,γI,gZ,if_pos hk,CQ h1,μ],h2⟩
   ·exact h.elim
  ·rename_i k' k cs hi hx;split at h
   ·rename_i l _ _ hl;split at h
    ·rename_i hll;obtain⟨h1,h2,h3⟩:=h;refine⟨_,_,?_,h3⟩;obtain⟨h4,h5⟩:=OT hl;have h6:=h5 k.toNat (by omega);simp only[bJ,hi,hx,γI,gZ,if_pos (γj h1 h2),Nat.mul_one,gn,tW,h6,μ]
    ·exact h.elim
   ·exact h.elim
  ·exact h.elim;|wA x i=>simp only[eK] at h;|qf z e sz bytes l c pu=>
  simp only[eK] at h;split at h
  ·rename_i n m s hn hm hs;have hn:=Hm hn;have hm:=Hm hm;split at h
   ·rename_i hsz;subst hsz;obtain⟨x,hx,h1,h2,h3,h4,h5⟩:=i6 h;obtain⟨o',hmk,hk⟩:=vu h5;refine⟨_,o',?_,hk⟩;have hd:=nY hx;rw[<-gi,G9,Ht] at hd;simp only[bq.g] at hmk;simp only[bJ,hn,hm];rw[if_pos ⟨h1,h2,h3,h4⟩,hd,Zd,hmk];simp[γI]
   ·exact h.elim
  ·exact h.elim;|slice sz x lo hi=>
  simp only[eK] at h;split at h
  ·rename_i s l hx;split at h
   ·rename_i hsz;subst hsz;obtain⟨a,ha,h1⟩:=pJ h;obtain⟨b,hb,h2,h3,h4⟩:=pJ h1;refine⟨_,_,?_,h4⟩;rw[zE] at ha hb;have hlen:((l.drop a).take (b - a)).length=b - a:=by simp;omega
    simp only[bJ,hx,γI,qk,ha,hb,fu,and_true,if_pos (γj h2 h3),μ,zA,hlen]
   ·exact h.elim
  ·rename_i id m sz' hx;split at h
   ·rename_i s l e pu ho;split at h
    ·rename_i hsz;obtain⟨rfl,rfl⟩:=hsz;obtain⟨rfl,h⟩:=h;obtain⟨a,ha,h1⟩:=pJ h;obtain⟨b,hb,h2,h3,h4⟩:=pJ h1;refine⟨_,_,?_,h4⟩;rw[zE] at ha hb;simp only[bJ,hx,γI,qk,ha,hb,fK ho,bq.g,fu];rw[if_pos ⟨h2,h3,trivial,trivial⟩];simp
    ·exact h.elim
   ·exact h.elim
  ·rename_i id off len m sz' hx;split at h
   ·rename_i s l e pu ho;split at h
    ·rename_i hsz;obtain⟨rfl,rfl⟩:=hsz;obtain⟨rfl,h⟩:=h;obtain⟨a,ha,h1⟩:=pJ h;obtain⟨b,hb,h2,h3,h4⟩:=pJ h1;refine⟨_,_,?_,h4⟩;rw[zE] at ha hb;simp only[bJ,hx,γI,qk,ha,hb,fK ho,bq.g,fu];rw[if_pos ⟨h2,h3,trivial,trivial⟩];simp[δ2]
    ·exact h.elim
   ·exact h.elim
  ·exact h.elim;|slice3 sz x lo hi mx=>
  simp only[eK] at h;split at h
  ·rename_i s l hx;split at h
   ·rename_i hsz;subst hsz;obtain⟨a,ha,h1⟩:=pJ h;obtain⟨b,hb,h2⟩:=pJ h1;obtain⟨m,hm,h3,h4,h5,h6⟩:=pJ h2;refine⟨_,_,?_,h6⟩;rw[zE] at ha;simp only[μ] at hb hm;have hlen:((l.drop a).take (b - a)).length=b - a:=by simp;omega
    simp only[bJ,hx,γI,sd,ha,hb,hm,fu,and_true,if_pos (γj h3 (γj h4 h5)),μ,zA,hlen]
   ·exact h.elim
  ·rename_i id n sz' hx;split at h
   ·rename_i s l e pu ho;split at h
    ·rename_i hsz;obtain⟨rfl,rfl⟩:=hsz;obtain⟨rfl,h⟩:=h;obtain⟨a,ha,h1⟩:=pJ h;obtain⟨b,hb,h2⟩:=pJ h1;obtain⟨m,hm,h3,h4,h5,h6⟩:=pJ h2;refine⟨_,_,?_,h6⟩;rw[zE] at ha;simp only[μ] at hb hm;simp only[bJ,hx,γI,sd,ha,hb,hm,fK ho,bq.g,fu];rw[if_pos ⟨h3,h4,h5,trivial,trivial,by omega,GM _⟩];simp
    ·exact h.elim
   ·exact h.elim
  ·exact h.elim;|uP x lo hi=>simp only[eK] at h;|append e sz bytes s x pu=>exact Zh h;|len k x=>
  simp only[eK] at h;split at h;·rename_i hx;exact⟨_,_,by simp only[bJ,hx,γI,ly,μ],h⟩
  ·rename_i hx;exact⟨_,_,by simp only[bJ,hx,γI,ly,μ],h⟩
  ·rename_i hx;exact⟨_,_,by simp only[bJ,hx,γI,ly,μ],h⟩
  ·rename_i hx;exact⟨_,_,by simp only[bJ,hx,γI,ly,μ],h⟩
  ·rename_i hx;exact⟨_,_,by simp only[bJ,hx,γI,ly,μ];rfl,h⟩
  ·rename_i hx;exact⟨_,_,by simp only[bJ,hx,γI,ly,μ],h⟩
  ·rename_i id hx;split at h
   ·rename_i sk sv ka es kt pu ho;exact⟨_,_,by simp only[bJ,hx,γI,ly,fK ho,bq.g,List.length_map,μ],h⟩
   ·exact h.elim
  ·exact h.elim;|uQ n=>exact⟨_,_,rfl,h⟩;|mm mx x y=>
  simp only[eK] at h;split at h
  ·rename_i hx hy;split at h
   ·rename_i hk;exact⟨_,_,by simp only[bJ,hx,hy,γI,if_pos hk],h⟩
   ·exact h.elim
  ·rename_i k a hx;obtain⟨b,hb,h2⟩:=i6 h;exact⟨_,_,by simp only[bJ,hx,iw hb,γI,if_true,O6],h2⟩
  ·rename_i k a hx _;obtain⟨b,hb,h2⟩:=i6 h;exact⟨_,_,by simp only[bJ,hx,iw hb,γI,if_true,O6],h2⟩
  ·exact h.elim;|call f args own=>
  simp only[eK] at h;obtain⟨v,o',h1,h2⟩:=Hq hC h;rw[CV] at h1;exact⟨v,o',by simp only[bJ,h1],h2⟩;|jI f args own=>
  simp only[eK] at h;split at h
  ·rename_i g first captured hf;obtain⟨v,o',h1,h2⟩:=Hq hC h;rw[tX,tX,CV] at h1;exact⟨v,o',by simp only[bJ,hf,γI,h1],h2⟩
  ·exact h.elim;|extract x i=>
  simp only[eK] at h;split at h
  ·rename_i vs hx;obtain⟨v,h1,h2⟩:=i6 h;exact⟨_,_,by simp only[bJ,hx,γI,tW,h1,μ],h2⟩
  ·exact h.elim;|s9 f first captured=>exact⟨_,_,by simp only[bJ,γI,CV],h⟩;|uR t x=>
  simp only[eK] at h;split at h
  ·rename_i cs hx;split at h
   ·rename_i hp;exact⟨_,_,by simp only[bJ,hx,γI,if_pos (G6 cs hp)],h⟩
   ·exact h.elim
  ·exact h.elim;|oH tab x args=>
  simp only[eK] at h;split at h
  ·rename_i t cs hx;split at h
   ·rename_i f hf;obtain⟨v,o',h1,h2⟩:=Hq hC h;simp only[gL,γI,CV] at h1;exact⟨v,o',by simp only[bJ,hx,γI,hf,h1],h2⟩
   ·exact h.elim
  ·exact h.elim;|qg kt pu=>
  simp only[eK] at h;split at h
  ·rename_i sk sv hs;obtain⟨o',hm,hk⟩:=vu h;simp only[bq.g,γo] at hm;exact⟨_,o',by simp only[bJ,hm,μ,γI],hk⟩
  ·exact h.elim;|lookup z agg ks ka x k ok=>
  simp only[eK] at h;split at h
  ·rename_i id hx;split at h
   ·rename_i sk sv xh es kt pu ho;split at h
    ·rename_i hh;obtain⟨rfl,rfl,h1,h2,rfl,h4,h5,h6⟩:=hh;obtain⟨kv,hkv,h7⟩:=i6 h;obtain⟨zv,hzv,h8⟩:=i6 h7;have hkey:=O0 h5 h6 (O3 h1) hkv;have hz:qZ z false=some (mP sv zv):=by
      have hd:=nY hzv;rw[G5,O2 h2] at hd;cases z with
      |nil=>simp at hd;|cons a r=>
       cases r with
       |nil=>simp only[θ,γo,τ,and_true] at hd;simp[qZ,hd];|cons=>simp at hd
     obtain⟨r,hr,hm⟩:=Hn (sv:=sv) h1 h4 kv es 0;refine⟨_,_,?_,h8⟩;simp only[bJ,hx,γI,hkey,fK ho,bq.g,if_true,hr,hz];cases hf:j5 sk sv kv es with
     |some v=>
      rw[hf] at hm;obtain⟨j,rfl,_⟩:=hm;simp only[Option.getD_some];cases ok<;>simp only[ω,if_false,if_true,γI,gL,O1 h2,ζN,ζb];|none=>
      rw[hf] at hm;obtain⟨rfl,_⟩:=hm;simp only[Option.getD_none];cases ok<;>simp only[ω,if_false,if_true,γI,gL,O1 h2,ζN,ζb]
    ·exact h.elim
   ·exact h.elim
  ·exact h.elim;|qY ks ka x k v=>
  simp only[eK] at h;split at h
  ·rename_i id hx;split at h
   ·rename_i sk sv xh es kt pu ho;split at h
    ·rename_i hh;obtain⟨rfl,rfl,h1,h2,h4,h5,h6,h9⟩:=hh;obtain⟨kv,hkv,h7⟩:=i6 h;obtain⟨vv,hvv,h8⟩:=i6 h7;have hkey:=O0 h5 h6 (O3 h1) hkv;have hv:(ρ v).g=mP sv vv:=by
      have hd:=nY hvv;rw[O2 h2] at hd;have hc:(ρ v).cellsOf=[ρ v]:=by
       revert h9;cases ρ v<;>simp[SV.cellsOf,vo]
      rw[hc] at hd;simpa using hd
     obtain⟨r,hr,hm⟩:=Hn (sv:=sv) h1 h4 kv es 0;refine⟨_,_,?_,h8⟩;have hpure:(mP sv vv).pure=true:=by simp[mP,AV.pure]
     simp only[bJ,hx,γI,hkey,fK ho,bq.g,hv,hpure,hr,qy];rw[if_neg (by simp)];cases hf:j5 sk sv kv es with
     |some w=>
      rw[hf] at hm;obtain⟨j,rfl,h10,h11⟩:=hm;rw[OZ h10 h11];simp only[Nat.zero_add];rw[O4];|none=>
      rw[hf] at hm;obtain⟨rfl,h10⟩:=hm;rw[Ho h10];simp
    ·exact h.elim
   ·exact h.elim
  ·exact h.elim
end
mutual
theorem Hv {o:Store} {k:Nat}:∀{v:AV},v.ca k=true->v.bT o (λi=>decide (k<=i))=some v
 | .os id off len tot,h=>by
  simp only[AV.ca,decide_eq_true_eq] at h;simp only[AV.bT,decide_eq_true_eq,if_neg (Nat.not_le.2 h)];| .ptr id off tot,h=>by
  simp only[AV.ca,decide_eq_true_eq] at h;simp only[AV.bT,decide_eq_true_eq,if_neg (Nat.not_le.2 h)];| .agg cs,h=>by simp only[AV.ca] at h;simp only[AV.bT,xo h,μ];| .bH cs,h=>by simp only[AV.ca] at h;simp only[AV.bT,xo h,μ];| .fn f a b,h=>by
  simp only[AV.ca,ζ] at h;simp only[AV.bT,xo h.1,xo h.2];| .ud,_| .sc _,_| .sl _ _,_| .ep _ _,_| .mp _,_| .iY _ _,_=>by simp only[AV.bT]
theorem xo {o:Store} {k:Nat}:∀{l:List AV},ec k l=true->gR o (λi=>decide (k<=i)) l=some l
 |[],_=>by simp[gR];|c::cs,h=>by
  simp only[ec,ζ] at h;simp only[gR,Hv h.1,xo h.2]
end
theorem O7 {o:Store} {k:Nat}:∀{l:List (Value×AV)},ec k (l.map (·.2))=true->qo o (λi=>decide (k<=i)) l=some l
 |[],_=>by simp[qo];|(q,c)::a,h=>by
  simp only[θ,ec,ζ] at h;simp only[qo,Hv h.1,O7 h.2]
theorem Zj {o:Store} {k:Nat} {x:bP} (h:x.ca k=true):x.bT o (λi=>decide (k<=i))=some x:=by
 cases x with
 |dead=>rfl;|cells b e f a=>
  cases a with
  |true=>simp only[bP.bT,if_true];|false=>simp_all[bP.ca,bP.bT,xo]
 |map d c a=>
  cases a with
  |true=>simp only[bP.bT,if_true];|false=>simp_all[bP.ca,bP.bT,O7]
theorem O8 {o:Store} {k:Nat}:∀{r:Store},(∀x∈r,x.ca k=true)->jk o (λi=>decide (k<=i)) r=some r
 |[],_=>rfl
 |x::r,h=>by
  simp only[jk,Zj (h x (by simp)),O8 (r:=r) λy a=>h y (by simp[a])]
theorem O9 {k:Nat}:∀{o:Store} {i:Nat},(fJ (λj=>decide (k<=j)) i o).take (k - i)=o.take (k - i)
 |[],i=>by simp[fJ];|x::r,i=>by
  simp only[fJ];by_cases a:i<k
  ·rw[show k - i=(k - (i+1))+1 from by omega,εc,εc,O9];grind
  simp_all
theorem agI {k i:Nat} (h:i<k):(χ k).contains i=true:=by simp[h]
theorem Pe {o:Store} {k:Nat}:∀{d:Nat} {vs:List AV},ec k vs=true->cH o d vs (χ k)=χ k:=by
 intro d;induction d with
 |zero=>grind[cH];|succ d e=>
  intro vs h;cases vs with
  |nil=>simp[cH];|cons v vs=>
   simp only[ec,ζ] at h;have i:=h.1;simp only[cH];cases v with
   |agg g=>grind[AV.ca];|bH g=>grind[AV.ca];|fn f a b=>grind[AV.ca];|ptr c _ _=>simp_all[AV.ca];|os c _ _ _=>simp_all[AV.ca];|mp c=>simp_all[AV.ca];|_=>simp only[e h.2]
theorem Pg:∀{n s i p:Nat},s<=i->i<s+n->idxOf (ζt s n) i p=some (p+(i - s))
 |0,s,i,p,a,b=>by omega;|n+1,s,i,p,a,b=>by
  simp only[εz,idxOf];by_cases h:s=i;·subst h;simp
  ·have:(s==i)=false:=by simpa using h
   rw[this];simp only[ω,if_false];rw[Pg (by omega) (by omega)];grind
theorem Hw {k i:Nat} (h:i<k):idxOf (χ k) i=some i:=by
 rw[δN,Pg (by omega) (by omega)];simp
mutual
theorem CW {k:Nat}:∀{v:AV},v.ca k=true->v.ren (λj=>idxOf (χ k) j)=some v
 | .os id off len tot,h=>by simp only[AV.ca,decide_eq_true_eq] at h;simp only[δH,Hw h,μ];| .ptr id off tot,h=>by simp only[AV.ca,decide_eq_true_eq] at h;simp only[δH,Hw h,μ];| .mp id,h=>by simp only[AV.ca,decide_eq_true_eq] at h;simp only[δH,Hw h,μ];| .agg cs,h=>by simp only[AV.ca] at h;simp only[δH,xp h,μ];| .bH cs,h=>by simp only[AV.ca] at h;simp only[δH,xp h,μ];| .fn f a b,h=>by
  simp only[AV.ca,ζ] at h;simp only[δH,xp h.1,xp h.2];| .ud,_| .sc _,_| .sl _ _,_| .ep _ _,_| .iY _ _,_=>by simp only[δH]
theorem xp {k:Nat}:∀{l:List AV},ec k l=true->iG (λj=>idxOf (χ k) j) l=some l
 |[],_=>by simp[iG];|c::cs,h=>by
  simp only[ec,ζ] at h;simp only[iG,CW h.1,xp h.2]
end
theorem Ph {k:Nat}:∀{l:List (Value×AV)},ec k (l.map (·.2))=true->oK (λj=>idxOf (χ k) j) l=some l
 |[],_=>by simp[oK];|(q,c)::a,h=>by
  simp only[θ,ec,ζ] at h;simp only[oK,CW h.1,Ph h.2]
theorem Zk {k:Nat} {x:bP} (h:x.ca k=true):x.ren (λj=>idxOf (χ k) j)=some x:=by
 cases x with
 |dead=>rfl;|cells b e f a=>
  cases a with
  |true=>simp only[bP.ren,if_true];|false=>simp_all[bP.ca,bP.ren,xp]
 |map d c a=>
  cases a with
  |true=>simp only[bP.ren,if_true];|false=>simp_all[bP.ca,bP.ren,Ph]
theorem Hy {k:Nat} {o:Store} (a:∀x∈o.take k,x.ca k=true) (c:k<=o.length):∀{n s:Nat},s+n=k->kX o (χ k) (ζt s n)=some ((o.take k).drop s)
 |0,s,h=>by
  grind[kX];|n+1,s,h=>by
  simp only[εz,kX];have d:s<o.length:=by omega
  have e:o[s]?=some o[s]:=ξ d;rw[e,Hy a c (by omega)];have f:o[s]∈o.take k:=by
   rw[List.mem_take_iff_getElem];grind
  simp only[Zk (a _ f),μ];congr 1;have b:s<(o.take k).length:=by simp;omega
  rw[List.drop_eq_getElem_cons b];simp
theorem nodup_range':∀{n s:Nat},iH.pB (ζt s n)=true
 |0,_=>by simp[iH.pB];|n+1,s=>by
  simp only[εz,iH.pB,nodup_range',δZ,Bool.not_eq_true'];grind
theorem Pj {k:Nat}:∀{a b:List AV},ec k a=true->ec k b=true->ec k (a++b)=true
 |[],b,_,h=>h
 |x::a,b,h,c=>by
  simp only[ec,ζ] at h;simp only[γE,ec,h.1,Pj h.2 c,Bool.and_self]
theorem Hz {k:Nat}:∀{o:Store},(∀x∈o,x.ca k=true)->ec k (o.flatMap lQ.bP.yX)=true
 |[],_=>by simp[ec];|x::o,h=>by
  simp only[δ7];refine Pj ?_ (Hz λy a=>h y (by simp[a]));have b:=h x (by simp);cases x<;>grind[lQ.bP.yX,ec,bP.ca]
theorem Pm {k:Nat} {r:AV} {o:Store} (e:r.ca k=true) (b:∀x∈o,x.ca k=true) (j:k<=o.length):lQ k r o=some (r,o.take k):=by
 unfold lQ;rw[Hv e,O8 b];simp only;have a:(fJ (λi=>decide (k<=i)) 0 o).take k=o.take k:=by simpa using O9 (k:=k) (o:=o) (i:=0)
 have d:∀{o:Store} {i:Nat},(fJ (λi=>decide (k<=i)) i o).length=o.length:=by
  intro o;induction o with
  |nil=>intro i;rfl;|cons x o l=>simp_all[fJ]
 have h:∀x∈o.take k,x.ca k=true:=λx g=>b x (List.mem_of_mem_take g);rw[a,Pe (by grind[ec,Hz])];have f:iH.pB (χ k)=true:=by rw[δN];exact nodup_range'
 rw[if_pos f,CW e];have c:=Hy (k:=k) (o:=fJ (λi=>decide (k<=i)) 0 o) (by simp_all) (by simp_all) (n:=k) (s:=0) (by omega);rw[<-δN,a,δQ] at c;rw[c]
theorem HA:∀{env:fw} {s:Nat} {v:SV},(jK env s).g=v.g->gE (xi env s v)=gE env
 |[],_,_,_=>rfl
 |p::r,s,v,h=>by
  simp only[xi,jK] at h ⊢;cases a:δD p.1 s with
  |true=>
   simp_all[gE];|false=>
   rw[a] at h;simp only[cond_false] at h ⊢;have:=HA h;grind[gE]
theorem Zl {env:fw} {g:Option (Option Nat×Bool)} {K:fw->Bool->Prop} (h:GY env g K):∃a w,gE a=gE env/\mL (gE env) g=some w/\K a w:=by
 unfold GY at h;split at h;·exact⟨_,_,rfl,rfl,h⟩
 ·exact h.elim
 ·rename_i s b;split at h;·grind[mL,og,γI]
  ·rename_i c d;cases c<;>grind[HA,mL,og,γI]
  all_goals grind[mL,og,γI,gL]
section
variable {call:cV} {p:iN}
theorem Pn:∀{a b:bX},jo a b->gO a=gO b
 |[],[],_=>rfl
 |x::a,y::b,h=>by
  obtain⟨c,d⟩:=h;have e:x.g=y.g:=c;simp only[gO,θ,e];congr 1;exact Pn d
def vx:Trace->Trace->Prop
 |[],[]=>True
 |x::a,y::b=>(x.1=y.1/\x.2.1=y.2.1/\∀j∈x.2.2,j∈y.2.2)/\vx a b
 |_,_=>False
theorem vx.look:∀{a b:Trace} {i:Nat},vx a b->(qm a i).1=(qm b i).1/\∀j∈(qm a i).2,j∈(qm b i).2
 |[],[],_,_=>⟨rfl,λj h=>h⟩
 |(k,x)::a,(g,y)::b,i,h=>by
  obtain⟨⟨c,e,d⟩,f⟩:=h;simp only at c e d;subst c;simp only[qm];split;·exact⟨e,d⟩
  ·exact vx.look f
theorem Zm {a b d c:List Nat} (f:∀j∈a,j∈d) (e:∀j∈b,j∈c) (h:wC d c=true):wC a b=true:=by
 grind[wC]
theorem Zn {n:Nat} {a b:Trace} {c:List (Nat×Nat)} (h:vx a b) (d:tf n b c=true):tf n a c=true:=by
 unfold tf at d ⊢;rw[List.all_eq_true] at d ⊢;intro p e;have l:=d p e;obtain⟨g,k⟩:=h.look (i:=p.1);obtain⟨f,j⟩:=h.look (i:=p.2);grind[Zm]
theorem HB (u:pK call p.C) {base:Nat}:∀{d:List dn} {st:cq} {l:Trace} {K:cq->Trace->Prop},xj p base d st l K->
  ∃st' T,gd call base d st.g=some st'.g/\vx (mM call base d st.g) T/\K st' (T.reverse++l)
 |[],st,l,K,h=>⟨st,[],rfl,trivial,h⟩
 |i::r,st,l,K,h=>by
  simp only[xj] at h;obtain⟨a,w,B,s,q⟩:=Zl h;have A:st.g=⟨gE a,gO st.o⟩:=by grind[cq.g]
  rw[<-B] at s;cases w with
  |true=>
   simp only[if_true] at q;obtain⟨v,y,E,c⟩:=Zi u q;have b:hZ call base i st.g=some (cq.g ⟨vk a i.dst v,y⟩):=by
    grind[hZ,OO,yV,cq.g,OL]
   have k:∀W:List Nat,(∀j∈ef call i.op (λx=>(jm a x).g) (gO st.o) (base+i.bB),j∈W)->
     xj p base r ⟨vk a i.dst v,y⟩ ((i.idx,dP i.op (λx=>(jm a x).g) (st.o.map bq.g) (base+i.bB),W)::l) K->
     ∃st' T,gd call base (i::r) st.g=some st'.g/\vx (mM call base (i::r) st.g) T/\K st' (T.reverse++l):=λW G c=>by
    obtain⟨st',T,D,z,F⟩:=HB u c;refine⟨st',(i.idx,dP i.op (λx=>(jm a x).g) (st.o.map bq.g) (base+i.bB),W)::T,by grind[gd],?_,?_⟩
    ·simp only[mM,b];rw[A];simp only[s,OO];exact⟨⟨rfl,rfl,G⟩,z⟩
    simp_all
   unfold OH at c;split at c
   ·rename_i f n t;split at c
    ·obtain⟨H,c⟩:=c;refine k [] (λj m=>?_) c;rw[t] at E m;have e:iH call f (n.map λx=>(jm a x).g) (gO st.o)=some (v.g,gO y):=by simp_all[bJ,gC]
     simp only[ef,e,List.mem_filter,decide_eq_true_eq] at m;grind[Pn]
    ·exact k _ (λj m=>Gy m) c
   ·exact k _ (λj m=>Gy m) c;|false=>
   simp only[ω,if_false] at q;obtain⟨st',T,D,z,F⟩:=HB u q;have b:hZ call base i st.g=some (cq.g ⟨vk a i.dst (.bH []),st.o⟩):=by
    grind[hZ,cq.g,OL,γI,gL]
   refine⟨st',(i.idx,[],[])::T,by grind[gd],?_,?_⟩
   ·simp only[mM,b];rw[A];simp only[s];exact⟨⟨rfl,rfl,λj h=>h⟩,z⟩
   simp_all
theorem Zo (k:Nat):gO (ε k .dead)=gh k:=by simp[gO,gh,bq.g]
theorem Po (a b:bX):gO (a++b)=gO a++gO b:=by simp[gO]
theorem Zp (x:bq):x.g.nj=x.nj:=by cases x<;>rfl
theorem Zq (base:Nat) (o:bX):gO (GZ base o)=q0 base (gO o):=by
 unfold GZ q0;have:((gO o).drop base).all (·.nj)=(o.drop base).all (·.nj):=by
  simp only[gO,<-List.map_drop,ζS];grind[Zp]
 rw[this];cases(o.drop base).all (·.nj);·rfl
 ·simp[gO]
theorem Zr (i:pK call p.C) {k:Nat} {b:List dn} {a:List (Nat×Nat)} {st:cq} {K:cq->Prop} (h:G0 p k b a st K):∃st',pC call k b a st.g=some st'.g/\K st':=by
 unfold G0 at h;obtain⟨st',T,f,j,d⟩:=HB i h;rw[List.append_nil,List.reverse_reverse] at d;have e:(cq.mk st.env (st.o++ε k .dead)).g=⟨st.g.env,st.g.o++gh k⟩:=by simp[cq.g,Po,Zo]
 rw[e] at f j;have c:st.g.o.length=st.o.length:=by simp[cq.g,oh]
 split at d
 ·rename_i l;refine⟨_,?_,d⟩;simp only[pC,c];rw[f];simp only;rw[if_pos (by
   grind[gh,Zn])];grind[cq.g,Zq]
 simp_all
end
theorem CX {v:SV}:isNil v=true↔v.g= .sc (.slice none 0 0):=by
 constructor
 ·intro h;unfold isNil at h;split at h;·rfl
  ·cases h
 ·intro h;cases v<;>simp only[γI,reduceCtorEq,γ4] at h;subst h;rfl
section
variable {o:bX} {id:Nat} {s:bn} {l:List s.T} {e:TypeId}
def pid (id:Nat):Nat->Bool:=λi=>i==id
mutual
theorem Pq (ho:o[id]?=some (.row s l e true)):∀{v:SV} {K:SV->Prop},jq id s l v K->∃v':SV,v.g.bT (gO o) (pid id)=some v'.g/\K v'
 | .ow j n sz,K,h=>by
  simp only[jq] at h;split at h
  ·rename_i hj;subst hj;split at h
   ·rename_i hsz;subst hsz;obtain⟨rfl,hk⟩:=h;refine⟨_,?_,hk⟩;have htk:γe (l.length*s.sz) (cC s l)=cC s l:=γl (by rw[fu];omega);simp only[γI,AV.bT,pid,BEq.rfl,if_true,fK ho,bq.g,fu,Nat.zero_add,φ,and_self,δQ,htk]
   ·exact h.elim
  ·rename_i hj;refine⟨_,?_,h⟩;simp only[γI,AV.bT,pid,beq_iff_eq,if_neg hj];| .os j off len n sz,K,h=>by
  simp only[jq] at h;split at h
  ·rename_i hj;subst hj;split at h
   ·rename_i hsz;subst hsz;obtain⟨rfl,hle,hk⟩:=h;refine⟨_,?_,hk⟩;have hm:(off+len)*s.sz<=l.length*s.sz:=γN _ hle;rw[δ2] at hm;have hll:((l.drop off).take len).length=len:=by simp;omega
    simp only[γI,AV.bT,pid,BEq.rfl,if_true,fK ho,bq.g,fu,hm,and_self,zA,hll]
   ·exact h.elim
  ·rename_i hj;refine⟨_,?_,h⟩;simp only[γI,AV.bT,pid,beq_iff_eq,if_neg hj];| .oc j off len n sz,K,h=>by
  simp only[jq] at h;split at h;·exact h.elim
  ·rename_i hj;exact⟨_,by simp only[γI,AV.bT,pid,beq_iff_eq,if_neg hj],h⟩;| .rp j i f n sz,K,h=>by
  simp only[jq] at h;split at h;·exact h.elim
  ·rename_i hj;exact⟨_,by simp only[γI,AV.bT,pid,beq_iff_eq,if_neg hj],h⟩;| .ptr j f t,K,h=>by
  simp only[jq] at h;split at h;·exact h.elim
  ·rename_i hj;exact⟨_,by simp only[γI,AV.bT,pid,beq_iff_eq,if_neg hj],h⟩;| .ap j a b c d i,K,h=>by
  simp only[jq] at h;split at h;·exact h.elim
  ·rename_i hj;exact⟨_,by simp only[γI,AV.bT,pid,beq_iff_eq,if_neg hj],h⟩;| .agg cs,K,h=>by
  simp only[jq] at h;obtain⟨cs',h1,h2⟩:=vy ho h;exact⟨_,by simp only[γI,AV.bT,h1,μ],h2⟩;| .bH cs,K,h=>by
  simp only[jq] at h;obtain⟨cs',h1,h2⟩:=vy ho h;exact⟨_,by simp only[γI,AV.bT,h1,μ],h2⟩;| .fn f a b,K,h=>by
  simp only[jq] at h;obtain⟨a',h1,h2⟩:=vy ho h;obtain⟨b',h3,h4⟩:=vy ho h2;exact⟨_,by simp only[γI,AV.bT,h1,h3],h4⟩;| .ud,K,h=>⟨.ud,by simp only[γI,AV.bT],by simpa only[jq] using h⟩
 | .sc v,K,h=>⟨.sc v,by simp only[γI,AV.bT],by simpa only[jq] using h⟩
 | .il k n,K,h=>⟨.il k n,by simp only[γI,AV.bT],by simpa only[jq] using h⟩
 | .si k n,K,h=>⟨.si k n,by simp only[γI,AV.bT],by simpa only[jq] using h⟩
 | .bl b,K,h=>⟨.bl b,by simp only[γI,AV.bT],by simpa only[jq] using h⟩
 | .sb b,K,h=>⟨.sb b,by simp only[γI,AV.bT],by simpa only[jq] using h⟩
 | .row s l,K,h=>⟨.row s l,by simp only[γI,AV.bT],by simpa only[jq] using h⟩
 | .ep s l i f,K,h=>⟨.ep s l i f,by simp only[γI,AV.bT],by simpa only[jq] using h⟩
 | .mp i,K,h=>⟨.mp i,by simp only[γI,AV.bT],by simpa only[jq] using h⟩
 | .ia t cs,K,h=>⟨.ia t cs,by simp only[γI,AV.bT],by simpa only[jq] using h⟩
 | .ite c a b,K,h=>⟨.ite c a b,by simp only[γI,AV.bT],by simpa only[jq] using h⟩
theorem vy (ho:o[id]?=some (.row s l e true)):∀{cs:List SV} {K:List SV->Prop},rC id s l cs K->∃cs':List SV,gR (gO o) (pid id) (gL cs)=some (gL cs')/\K cs'
 |[],K,h=>⟨[],by simp[gL,gR],by simpa only[rC] using h⟩
 |c::cs,K,h=>by
  simp only[rC] at h;obtain⟨c',h1,h2⟩:=Pq ho h;obtain⟨cs',h3,h4⟩:=vy ho h2;exact⟨c'::cs',by simp only[gL,gR,h1,h3],h4⟩
end
theorem HC (b:o[id]?=some (.row s l e true)):∀{env:fw} {K:fw->Prop},zr id s l env K->∃a,uU (gO o) (pid id) (gE env)=some (gE a)/\K a
 |[],K,h=>⟨[],rfl,h⟩
 |(k,v)::r,K,h=>by
  simp only[zr] at h;obtain⟨f,d,c⟩:=Pq b h;obtain⟨j,g,i⟩:=HC b c;grind[gE,uU]
theorem CY {o:Store} {q:Nat->Bool}:∀{cs:List AV},(∀a∈cs,Plain a)->gR o q cs=some cs
 |[],_=>by simp[gR];|a::cs,h=>by
  have d:=CY (o:=o) (q:=q) (cs:=cs) λb c=>h b (by simp[c]);rcases h a (by simp) with⟨v,rfl,_⟩|⟨n,e,rfl,_⟩<;>simp only[gR,AV.bT,d]
theorem HD {o:Store} {q:Nat->Bool}:∀{es:List (Value×AV)},(∀a∈es,∃v,a.2= .sc v)->qo o q es=some es
 |[],_=>by simp[qo];|(k,a)::es,h=>by
  obtain⟨v,b⟩:=h (k,a) (by simp);simp only at b;subst b;simp only[qo,AV.bT,HD (es:=es) λa c=>h a (by simp[c])]
theorem sA (j:o[id]?=some (.row s l e true)):∀{i:Nat} {r:bX} {K:bX->Prop},ob id s l i r K->∃r' mid,jk (gO o) (pid id) (gO r)=some mid/\fJ (pid id) i mid=gO r'/\K r'
 |i,[],K,h=>⟨[],[],rfl,rfl,h⟩
 |i,x::r,K,h=>by
  cases x with
  |dead=>
   simp only[ob] at h;obtain⟨r',mid,w,n,f⟩:=sA j h;grind[gO,bq.g,jk,bP.bT,fJ];|cells N p F d=>
   simp only[ob] at h;cases d with
   |true=>
    simp only[if_true] at h;split at h;·exact h.elim
    ·rename_i B;obtain⟨r',mid,w,n,f⟩:=sA j h;refine⟨_,.cells (gL N) p F true::mid,?_,?_,f⟩;all_goals simp_all[gO,bq.g,jk,bP.bT,fJ,pid];|false=>
    simp only[ω,if_false] at h;obtain⟨A,z,k⟩:=vy j h;obtain⟨r',mid,w,n,f⟩:=sA j k;refine⟨_,.cells (gL A) p F false::mid,?_,?_,f⟩;all_goals simp_all[gO,bq.g,jk,bP.bT,fJ]
  |oQ v u p t=>
   simp only[ob] at h;split at h;·exact h.elim
   ·obtain⟨O,z,k⟩:=vy j h;split at k
    ·rename_i m M;obtain⟨L,_⟩:=CU M;obtain⟨r',mid,w,n,f⟩:=sA j k;refine⟨_,(bq.row v (u++m) p false).g::mid,?_,?_,f⟩
     ·simp only[gO,θ,bq.g] at w z ⊢;have G:∀(a b c:List AV),gR (γk bq.g o) (pid id) a=some a->gR (γk bq.g o) (pid id) b=some c->gR (γk bq.g o) (pid id) (a++b)=some (a++c):=λa b c w n=>by
       induction a<;>grind[gR]
      have P:gR (γk bq.g o) (pid id) (cC v u)=some (cC v u):=CY (λa C=>nA C);simp_all[jk,bP.bT,OB]
     ·simp only[bq.g,fJ,n];rfl
    simp_all;|row v u p d=>
   simp only[ob] at h;have y:(bq.row v u p d).g.bT (gO o) (pid id)=some (bq.row v u p d).g:=by
    cases d with
    |true=>simp only[bq.g,bP.bT,if_true];|false=>
     simp only[bq.g,bP.bT,ω,if_false];grind[CY,nA]
   split at h
   ·rename_i B;cases d with
    |false=>simp_all;|true=>
     simp only[if_true] at h;obtain⟨r',mid,w,n,f⟩:=sA j h;refine⟨_,(bq.row v u p true).g::mid,?_,?_,f⟩;all_goals simp_all[gO,jk,bq.g,fJ,pid]
   ·rename_i B;obtain⟨r',mid,w,n,f⟩:=sA j h;refine⟨_,(bq.row v u p d).g::mid,?_,?_,f⟩;·grind[gO,jk]
    ·cases d<;>simp only[bq.g,fJ,n,pid,beq_iff_eq,if_neg B]<;>rfl;|map H D I E J d=>
   simp only[ob] at h;have y:(bq.map H D I E J d).g.bT (gO o) (pid id)=some (bq.map H D I E J d).g:=by
    cases d with
    |true=>simp only[bq.g,bP.bT,if_true];|false=>
     simp only[bq.g,bP.bT,ω,if_false];rw[HD (λa C=>by obtain⟨q,_,rfl⟩:=γf.1 C;exact⟨_,rfl⟩),μ]
   obtain⟨r',mid,w,n,f⟩:=sA j h;grind[gO,jk,bq.g,fJ]
end
theorem Zs {v:SV}:(∃id,tV.xk v=some id/\∃a b c,v.g= .os id a b c)\/(tV.xk v=none/\∀id a b c,v.g≠ .os id a b c):=by
 cases v<;>simp[tV.xk,γI]
theorem Pv {p:iN} {lo:Nat} {h:kA} {st:cq} {K:cq->Prop} {v:SV} (t:h.own=false) (f:BA h st.g=some v.g)
  (d:match tV.xk v with
   |some id=>if Nat.ble lo id then(match st.o[id]? with
    |some (.row s l e pu)=>zr id s l st.env λenv=>ob id s l 0 (if pu then st.o else st.o.set id (.row s l e true)) λo=>K ⟨env,o⟩
    |_=>False) else K st
   |none=>K st):∃st',jX lo h st.g=st'.g/\K st':=by
 let _:=p;unfold jX;rw[if_neg (by simp[t]),f];rcases @Zs v with⟨id,w,a,b,c,x⟩|⟨w,x⟩
 ·rw[w] at d;rw[x];simp only at d ⊢;split at d
  ·rename_i q;rw[if_pos q];split at d
   ·rename_i s l e pu m;have D:(λi=>i==id)=pid id:=rfl;cases pu with
    |true=>
     simp only[if_true] at d;obtain⟨j,A,n⟩:=HC m d;obtain⟨B,u,C,y,r⟩:=sA m n;refine⟨_,?_,r⟩;simp_all[yW,cq.g,fK,bq.g,BF];|false=>
     simp only[ω,if_false] at d;have z:id<st.o.length:=(ι.1 m).1;have k:(st.o.set id (.row s l e true))[id]?=some (.row s l e true):=by simp_all
     obtain⟨j,A,n⟩:=HC (o:=st.o.set id (.row s l e true)) k d;obtain⟨B,u,C,y,r⟩:=sA k n;refine⟨_,?_,r⟩;simp_all[yW,cq.g,fK,bq.g,qx,qy,BF]
   simp_all
  grind
 grind
section
variable {p:iN} {lo:Nat}
theorem Zt {h:kA} {st:cq} {K:cq->Prop} (a:tV p lo h st K):∃st',jX lo h st.g=st'.g/\K st':=by
 unfold tV at a;split at a
 ·rename_i f;unfold jX;rw[if_pos f];unfold BE;split at a
  ·rename_i b;simp only[b];split at a
   ·rename_i r;have t:=CX.1 r;rw[<-og] at t;have B:dJ st.g.env h.slot= .sc (.slice none 0 0):=t;rw[B];split at a
    ·rename_i s J;split at a
     ·rename_i w;refine⟨_,?_,a⟩;simp[cq.g,gE,gO,γI,bq.g,cC,w]
     simp_all
    simp_all
   ·rename_i r;split at a
    ·rename_i z;split at a
     ·rename_i m G D d;have n:dJ st.g.env h.slot= .os m 0 G (G*D):=by
       show dJ (gE st.env) h.slot=_;rw[og,d];rfl
      rw[n];split at a
      ·rename_i s l e y;refine⟨_,?_,a⟩;simp_all[BD,cq.g,fK,bq.g,qy]
      simp_all
     simp_all
    ·rename_i z;refine⟨st,?_,a⟩;split
     ·rename_i L;have:dJ (gE st.env) h.slot= .sc (.slice none 0 0):=L;grind[og,CX]
     all_goals simp_all
  ·rename_i k b;simp only[b];split at a
   ·rename_i m c j d;have n:dJ st.g.env h.slot= .ptr m c j:=by
     show dJ (gE st.env) h.slot=_;rw[og,d];rfl
    rw[n];split at a
    ·rename_i i e F E y;have u:st.g.o[m]?=some (.cells (gL i) e F E):=fK y;simp only[u];split at a
     ·rename_i r;cases C:i[c+k]? with
      |none=>simp_all;|some v=>
       rw[C] at r;simp only[Option.any_some] at r;have M:=CX.1 r;have A:(gL i)[c+k]?=some (.sc (.slice none 0 0)):=by grind[tW]
       simp only[A,jL];split at a
       ·rename_i I;rw[if_pos I];split at a
        ·rename_i s J;split at a
         ·rename_i w;refine⟨_,?_,a⟩;have N:gL (i.set (c+k) (.ow st.o.length 0 h.sz))=(gL i).set (c+k) (.os st.o.length 0 0 0):=by
           simp_all[gi,γI]
          simp_all[cq.g,bq.g,gO,cC]
         simp_all
        simp_all
       simp_all
     grind[tW,CX]
    simp_all
   simp_all
 ·rename_i f;have f:h.own=false:=by simpa using f
  unfold tV.OI at a;cases b:h.off with
  |none=>
   rw[b] at a;simp only at a;refine Pv (p:=p) (v:=jK st.env h.slot) f ?_ ?_;all_goals grind[BA,cq.g,og];|some k=>
   rw[b] at a;simp only at a;cases q:jK st.env h.slot with
   |ptr m c j=>
    rw[q] at a;simp only at a;cases y:st.o[m]? with
    |none=>simp_all;|some x=>
     rw[y] at a;cases x with
     |cells i e F E=>
      simp only at a;by_cases H:i.length=j
      ·rw[if_pos H] at a;cases C:i[c+k]? with
       |none=>simp_all;|some v=>
        rw[C] at a;refine Pv (p:=p) (v:=v) f ?_ ?_
        ·unfold BA;rw[b];have:dJ st.g.env h.slot= .ptr m c j:=by
          show dJ (gE st.env) h.slot=_;rw[og,q];rfl
         have u:st.g.o[m]?=some (.cells (gL i) e F E):=fK y;simp_all[behind,jL,tW]
        grind
      simp_all;|_=>exact a.elim
   |_=>rw[q] at a;exact a.elim
theorem HE:∀{hs:List kA} {st:cq} {K:cq->Prop},zt p lo hs st K->∃st',hs.foldl (λs h=>jX lo h s) st.g=st'.g/\K st'
 |[],st,K,h=>⟨st,rfl,h⟩
 |h::hs,st,K,hk=>by
  simp only[zt] at hk;obtain⟨st1,h1,h2⟩:=Zt hk;obtain⟨st2,h3,h4⟩:=HE h2;exact⟨st2,by rw[List.foldl_cons,h1,h3],h4⟩
theorem Zu (a:List Nat) (env:fw):gE (G2 a env)=prune a (gE env):=by
 simp[G2,prune,gE,<-og]
theorem HF (k:Nat) (st:cq):(trimS k st).g=trim k st.g:=by
 unfold trimS trim;have b:st.g.o.length=st.o.length:=by simp[cq.g,oh]
 have c:(st.g.env.all λp=>p.2.ca k)=(st.env.all λp=>p.2.ca k):=by
  simp only[cq.g,gE,ζS];grind[zy]
 have d:((st.g.o.take k).all λx=>x.ca k)=((st.o.take k).all λx=>x.ca k):=by
  simp only[cq.g,gO,<-List.map_take,ζS];grind[CP]
 rw[b,c,d];by_cases a:st.o.length<=k;·simp_all
 ·rw[if_neg a,if_neg a];split;·simp[cq.g,gO]
  ·rfl
variable {T:Tab}
theorem Px {v:Int} {n:Nat} {K:Nat->Prop}:∀{j:Nat},j<=n->splitN v n K j->(n - j:Nat)<=v->∃i:Nat,v=i/\K i
 |0,_,h,a=>by
  grind[splitN];|j+1,c,h,a=>by
  simp only[splitN] at h;by_cases b:v=(n - (j+1):Nat);·grind
  ·exact Px (by omega) h.2 (by omega)
theorem Py {v:Int} {n:Nat} {K:Nat->Prop}:∀{j:Nat},splitN v n K j->0<=v
 |0,h=>h.1
 |j+1,h=>Py h.2
theorem Zv {x:Option (Nat×Nat×Nat)} {st:cq} {K:cq->Prop} (h:splitK x st K):∃st',st'.g=st.g/\K st':=by
 unfold splitK at h;split at h;·grind
 ·rename_i p a n;split at h
  ·rename_i c e q r b;split at h
   ·rename_i k v o;obtain⟨i,rfl,f⟩:=Px (φ _) h (by have:=Py h;omega);refine⟨_,?_,f⟩;have l:gL (c.set a (.il k i))=gL c:=by
     rw[gi,gi,List.map_set];apply δg;grind[γI]
    simp only[cq.g,qy,bq.g,l,cq.mk.injEq,St.mk.injEq,true_and];apply δg;intro j;rw[List.getElem?_set];split
    ·rename_i d;subst d;have m:=(ι.1 b).1;rw[if_pos (by grind[oh]),Hf,b];rfl
    ·rfl
   simp_all
  simp_all
theorem Pz:∀{e a:fw},xl e a->gE e=gE a
 |[],[],_=>rfl
 |[],_::_,h=>by grind[xl];|_::_,[],h=>by grind[xl];|(k,v)::e,(d,c)::a,h=>by
  simp only[xl] at h;split at h
  ·rename_i b;subst b;have:=Pz h.2;simp only[gE,θ] at this ⊢;rw[this,show v.g=c.g from h.1]
  simp_all
theorem xq:∀{o o':bX},jo o o'->gO o=gO o'
 |[],[],_=>rfl
 |[],_::_,h=>by grind[jo];|_::_,[],h=>by grind[jo];|x::o,y::o',h=>by
  simp only[jo] at h;have:=xq h.2;simp only[gO,θ] at this ⊢;rw[this,show x.g=y.g from h.1]
theorem CZ {s t:cq} (h:zu s t):s.g=t.g:=by
 simp only[cq.g,Pz h.1,xq h.2]
theorem agJ (env:fw) (args:List Operand):args.map (eC (gE env))=gL (args.map (jm env)):=by
 simp_all[gi,zx]
theorem vz (hC:pK T.K p.C) (hI:∀f F,p.it f=some F->T.fn f=some F):∀{c:IR} {Λ:Nat->cB} {st:cq} {Q:Out->cq->Prop},wpS p lo c Λ st Q->VW T zl lo c st.g λout s=>∃ss,s=ss.g/\Q out ss:=by
 intro c;induction c with
 |skip=>intro Λ st Q h;exact VW.skip ⟨st,rfl,h⟩;|exit id=>intro Λ st Q h;exact VW.exit ⟨st,rfl,h⟩;|ret=>intro Λ st Q h;exact VW.ret ⟨st,rfl,h⟩;|goto l=>intro Λ st Q h;exact VW.goto ⟨st,rfl,h⟩;|oJ x a b iha ihb=>
  intro Λ st Q h;simp only[wpS] at h;have hx:eC st.g.env x=(jm st.env x).g:=zx _ _;split at h
  ·rename_i he;rw[he] at hx;exact VW.oJ hx (by rw[if_pos rfl];exact iha h)
  ·rename_i he;rw[he] at hx;exact VW.oJ hx (by rw[if_neg (by simp)];exact ihb h)
  ·rename_i c he;rw[he] at hx;have hset:∀v:SV,(SV.sb c).g=v.g->(cq.mk (CL st.env x v) st.o).g=st.g:=λv hv=>by
    cases x with
    |tmp t=>
     have:jK st.env t= .sb c:=he;simp only[cq.g,CL];rw[HA (by rw[this];exact hv)];|_=>rfl
   refine VW.oJ hx ?_;cases c with
   |true=>
    have:=iha (h.1 rfl);rw[hset (.bl true) rfl] at this;rw[if_pos rfl];exact this;|false=>
    have:=ihb (h.2 rfl);rw[hset (.bl false) rfl] at this;rw[if_neg (by simp)];exact this
  ·exact h.elim;|turns l b ih=>
  intro Λ st Q h;cases l with
  |none=>
   simp only[wpS] at h;refine VW.YL ((ih h).mono ?_);rintro out s ⟨ss,rfl,h2⟩;cases out with
   |norm=>exact⟨by simp,ss,rfl,h2⟩;|exit id=>exact⟨by simp,ss,rfl,h2⟩;|ret=>exact⟨by simp,ss,rfl,h2⟩;|goto l=>exact h2.elim
  |some l=>
   simp only[wpS] at h;split at h
   ·rename_i X shape next J m inner _;obtain⟨⟨h0,hx⟩,hstep⟩:=h;refine VW.YM (λk s=>∃x,s=(shape x).g/\J x/\m x=k) ?_ (m (next st)) _ ⟨next st,CZ h0,hx,rfl⟩;rintro k s ⟨x,rfl,hj,rfl⟩;refine(ih (hstep x hj)).mono ?_;rintro out s ⟨ss,rfl,h2⟩;cases out with
    |goto l'=>
     obtain⟨rfl,h3,h4,h5⟩:=h2;refine .inl ⟨rfl,_,h5,_,?_,h4,rfl⟩;have h6:=CZ h3;rw[<-h6,HF,show(shape x).o.length=(shape x).g.o.length from by simp[cq.g,oh]];|norm=>exact .inr ⟨by simp,ss,rfl,h2⟩;|exit id=>exact .inr ⟨by simp,ss,rfl,h2⟩;|ret=>exact .inr ⟨by simp,ss,rfl,h2⟩
   ·exact h.elim
 |region id draw k ops kB live pre post=>
  intro Λ st Q h;simp only[wpS] at h;obtain⟨st0,h0,h⟩:=Zv h;obtain⟨st1,h1,h2⟩:=HE h;obtain⟨st2,h3,h4⟩:=Zr hC h2;obtain⟨G4,h5,h6⟩:=HE h4;refine VW.region ?_;rw[<-h0,h1,h3];refine⟨G4,?_,h6⟩;rw[<-h5];simp only[cq.g,Zu];|tc g caps d a b _ _=>intro Λ st Q h;exact h.elim;|seq a b iha ihb=>
  intro Λ st Q h;simp only[wpS] at h;refine VW.seq ((iha h).mono ?_);rintro out s ⟨ss,rfl,h2⟩;cases out with
  |norm=>rw[if_pos rfl];exact ihb h2;|exit id=>rw[if_neg (by simp)];exact⟨ss,rfl,h2⟩;|ret=>rw[if_neg (by simp)];exact⟨ss,rfl,h2⟩;|goto l=>rw[if_neg (by simp)];exact⟨ss,rfl,h2⟩
 |cond x a b iha ihb=>
  intro Λ st Q h;simp only[wpS] at h;have hx:eC st.g.env x=(jm st.env x).g:=zx _ _;have hdr:(cq.mk (xm x st.env) st.o).g=⟨pD x st.g.env,st.g.o⟩:=by
   have:∀(t:Nat) (env:fw),(zw t env).map (λp=>(p.1,p.2.g))=rb t (env.map λp=>(p.1,p.2.g)):=by
    intro t env;induction env with
    |nil=>rfl;|cons p env ih=>
     simp only[zw,rb,θ];cases δD p.1 t with
     |true=>simpa using ih;|false=>simpa using ih
   cases x with
   |tmp t=>simp only[cq.g,gE,xm,pD];rw[this];|_=>rfl
  split at h
  ·rename_i he;rw[he] at hx;exact VW.cond hx (by rw[if_pos rfl,<-hdr];exact iha h)
  ·rename_i he;rw[he] at hx;exact VW.cond hx (by rw[if_neg (by simp),<-hdr];exact ihb h)
  ·rename_i c he;rw[he] at hx;refine VW.cond hx ?_;cases c with
   |true=>rw[if_pos rfl,<-hdr];exact iha (h.1 rfl);|false=>rw[if_neg (by simp),<-hdr];exact ihb (h.2 rfl)
  ·exact h.elim;|block id b ih=>
  intro Λ st Q h;simp only[wpS] at h;exact VW.block ((ih h).mono λout s ⟨ss,e,h2⟩=>⟨ss,e,h2⟩);|loop b ih=>
  intro Λ st Q h;simp only[wpS] at h;split at h
  ·rename_i n Zw;clear Zw;induction n generalizing st with
   |zero=>exact h.elim;|succ n ihn=>
    simp only[G3] at h;refine VW.loop ((ih h).mono ?_);rintro out s ⟨ss,rfl,h2⟩;cases out with
    |norm=>
     rw[if_pos rfl];have:=ihn h2;rwa [HF,show st.o.length=st.g.o.length from by simp[cq.g,oh]] at this;|exit id=>rw[if_neg (by simp)];exact⟨ss,rfl,h2⟩;|ret=>rw[if_neg (by simp)];exact⟨ss,rfl,h2⟩;|goto l=>rw[if_neg (by simp)];exact⟨ss,rfl,h2⟩
  ·exact h.elim
  ·rename_i X shape next J m inner _;obtain⟨⟨h0,hx⟩,hstep⟩:=h;refine VW.YK (λk s=>∃x,s=(shape x).g/\J x/\m x=k) ?_ (m (next st)) _ ⟨next st,CZ h0,hx,rfl⟩;rintro k s ⟨x,rfl,hj,rfl⟩;refine(ih (hstep x hj)).mono ?_;rintro out s ⟨ss,rfl,h2⟩;cases out with
   |norm=>
    rw[if_pos rfl];obtain⟨h3,h4,h5⟩:=h2;refine⟨_,h5,_,?_,h4,rfl⟩;have h6:=CZ h3;rw[<-h6,HF,show(shape x).o.length=(shape x).g.o.length from by simp[cq.g,oh]];|exit id=>rw[if_neg (by simp)];exact⟨ss,rfl,h2⟩;|ret=>rw[if_neg (by simp)];exact⟨ss,rfl,h2⟩;|goto l=>rw[if_neg (by simp)];exact⟨ss,rfl,h2⟩
theorem PD {st:cq}:∀{a:List np} {K:List SV->Prop},od.goK st a K->∃l,a.mapM (q8 st.g)=some (gL l)/\K l
 |[],K,h=>⟨[],by simp[gL],h⟩
 |r::a,K,h=>by
  simp only[od.goK] at h;have b:∃v,q8 st.g r=some v.g/\od.goK st a λl=>K (v::l):=by
   unfold od.OJ at h;unfold q8;split at h
   ·rename_i c;rw[c];exact⟨_,by grind[cq.g,og],h⟩
   grind[OV,cq.g,og]
  obtain⟨v,i,d⟩:=b;obtain⟨l,f,e⟩:=PD d;exact⟨v::l,by simp_all[gL],e⟩
theorem xr {st:cq} {b:List np} {K:SV->Prop} (h:od st b K):∃r,nW st.g b=some r.g/\K r:=by
 unfold od at h;obtain⟨l,c,a⟩:=PD h;unfold nW;rw[c];match l,a with
 |[],a=>exact⟨_,rfl,a⟩;|[v],a=>exact⟨v,rfl,a⟩;|v::w::l,a=>exact⟨_,rfl,a⟩
theorem vA:∀(i:Nat) (args:List SV),gE (nC i args)=ic i (gL args)
 |_,[]=>rfl
 |i,v::a=>by
  have:=vA (i+1) a;grind[gE,nC,gL,ic]
theorem C0 {Λ:Nat->cB} {P:Program} (hT:kE P T) (hC:pK T.K p.C) (hI:∀f F,p.it f=some F->T.fn f=some F) {f:FuncId} {F:fp} (hF:T.fn f=some F) {args:List SV} {r:AV} (hK:T.K f (gL args) [] false=none) (hlen:args.length=F.params)
  {Q:SV->Prop} (hQ:∀v,Q v->v.g=r) (h:sy p Λ F args Q):gU P f=true/\lB P f (gL args) [] r []:=by
 unfold sy at h;have hw:=vz hC hI h;have hst:(cq.mk (nC 0 args) []).g=⟨ic 0 (gL args),[]⟩:=by simp[cq.g,vA,gO]
 rw[hst] at hw;obtain⟨h1,h2,_⟩:=Cf hT hF (o:=[]) (own:=false) hK (by rw[jL];exact hlen) (v:=r) (o':=[]) (hw.mono λout s hs=>by
  obtain⟨ss,rfl,hq⟩:=hs;cases out with
  |exit id=>exact hq.elim;|goto l=>exact hq.elim;|norm=>
   obtain⟨r0,h1,h2⟩:=xr hq;obtain⟨v,h3,h4⟩:=Hj h2;refine⟨.inl rfl,?_⟩;rw[h1];show finish false 0 r0.g ss.g.o=_;have:freeze ss.g.o 6 r0.g=some v.g:=h3;simp[finish,this,hQ _ h4];|ret=>
   obtain⟨r0,h1,h2⟩:=xr hq;obtain⟨v,h3,h4⟩:=Hj h2;refine⟨.inr rfl,?_⟩;rw[h1];show finish false 0 r0.g ss.g.o=_;have:freeze ss.g.o 6 r0.g=some v.g:=h3;simp[finish,this,hQ _ h4]);exact⟨h1,h2⟩
end
structure qA (α:Type) where
 put:α->SV
 dec:SV->Option α
 ok:∀v a,dec v=some a->v.g=(put a).g
 inj:∀a b,(put a).g=(put b).g->a=b
structure qB (α:Type) where
 put:α->List SV
 dec:List SV->Option α
 ok:∀v a,dec v=some a->gL v=gL (put a)
 inj:∀a b,gL (put a)=gL (put b)->a=b
def qB.one {d:Type} (c:qA d):qB d where
 put a:=[c.put a];dec
  |[v]=>c.dec v
  |_=>none;ok v a h:=by
  match v,h with
  |[v],h=>simp only[gL,c.ok v a h]
 inj a b h:=by
  simp only[gL,τ,and_true] at h;exact c.inj a b h
def qB.cons {f g:Type} (c:qA f) (d:qB g):qB (f×g) where
 put a:=c.put a.1::d.put a.2;dec
  |v::e=>match c.dec v,d.dec e with
   |some a,some b=>some (a,b)
   |_,_=>none
  |[]=>none;ok v a h:=by
  match v,h with
  |v::e,h=>
   simp only at h;split at h
   ·rename_i x y j i;simp only[γ] at h;subst h;simp only[gL,c.ok v x j,d.ok e y i]
   ·cases h
 inj a b h:=by
  simp only[gL,τ] at h;exact Prod.ext (c.inj _ _ h.1) (d.inj _ _ h.2)
def qB.nil:qB Unit where
 put _:=[];dec
  |[]=>some ()
  |_=>none;ok v a h:=by
  grind
 inj a b h:=rfl
structure bM where
 f:FuncId
 α:Type
 A:qB α
 dom:α->Prop
 res:α->SV
def Holds (P:Program) (c:bM):Prop:=∀a,c.dom a->gU P c.f=true/\lB P c.f (gL (c.A.put a)) [] (c.res a).G []
def oV (f:FuncId):List bM->Option bM
 |[]=>none
 |c::r=>bif δD c.f f then some c else oV f r
def vB (L:List bM) (f:FuncId) (args:List SV) (K:SV->Prop):Prop:=
 match oV f L with
 |some c=>iO (c.A.dec args) λa=>c.dom a/\CH (c.res a) K
 |none=>False
structure mR where
 K:FuncId->List AV->Store->Option (AV×Store)
 C:FuncId->List SV->bX->(SV->bX->Prop)->Prop
def mR.none:mR:=⟨λ_ _ _=> .none,λ_ _ _ _=>False⟩
noncomputable def sB (L:List bM) (W:mR):cV:=λf args o own=>
 if own then W.K f args o
 else match o with
  |[]=>match oV f L with
   |some c=>(ans (λa=>gL (c.A.put a)) c.dom (λa=>(c.res a).G) args).map λv=>(v,[])
   |none=> .none
  |_=> .none
noncomputable def qC (a:FuncId->Option fp) (L:List bM) (W:mR):Tab:=⟨a,sB L W⟩
structure pL (P:Program) (W:mR):Prop where
 K:∀f args o r o',W.K f args o=some (r,o')->gU P f=true/\lB P f args o r o'
 C:∀(call:cV),(∀f args o,call f args o true=W.K f args o)->∀f args o K,W.C f args o K->∃(r:SV) (o':bX),iH call f (gL args) (gO o)=some (r.g,gO o')/\K r o'
theorem pL.none (P:Program):pL P mR.none where
 K:=λ_ _ _ _ _ h=>by cases h
 C:=λ_ _ _ _ _ _ h=>h.elim
theorem PE:∀{L:List bM} {f:FuncId} {c:bM},oV f L=some c->c.f=f/\c∈L
 |[],_,_,h=>by cases h;|d::L,f,c,h=>by
  simp only[oV] at h;cases a:δD d.f f with
  |true=>
   simp_all;|false=>
   rw[a] at h;simp only[cond_false] at h;obtain⟨b,e⟩:=PE h;simp_all
theorem HG:∀{v:SV} {K:SV->Prop},CH v K->∃w:SV,w.g=v.G/\K w
 | .ite c a b,K,h=>by
  cases c with
  |true=>exact HG (v:=a) (h.1 rfl);|false=>exact HG (v:=b) (h.2 rfl)
 | .ud,_,h| .sc _,_,h| .il _ _,_,h| .si _ _,_,h| .bl _,_,h| .sb _,_,h| .agg _,_,h| .bH _,_,h| .row _ _,_,h| .ep _ _ _ _,_,h| .ptr _ _ _,_,h| .ap _ _ _ _ _ _,_,h| .rp _ _ _ _ _,_,h| .ow _ _ _,_,h| .os _ _ _ _ _,_,h| .oc _ _ _ _ _,_,h| .mp _,_,h| .fn _ _ _,_,h| .ia _ _,_,h=>⟨_,rfl,h⟩
theorem xt:∀{w v:SV},v.rB w->v.g=w.G
 | .ite c a b,v,h=>by
  cases c with
  |true=>exact xt (w:=a) (h.1 rfl);|false=>exact xt (w:=b) (h.2 rfl)
 | .ud,_,h| .sc _,_,h| .il _ _,_,h| .si _ _,_,h| .bl _,_,h| .sb _,_,h| .agg _,_,h| .bH _,_,h| .row _ _,_,h| .ep _ _ _ _,_,h| .ptr _ _ _,_,h| .ap _ _ _ _ _ _,_,h| .rp _ _ _ _ _,_,h| .ow _ _ _,_,h| .os _ _ _ _ _,_,h| .oc _ _ _ _ _,_,h| .mp _,_,h| .fn _ _ _,_,h| .ia _ _,_,h=>h
variable {P:Program} {L:List bM} {W:mR} {fn:FuncId->Option fp}
theorem tZ (j:pL P W) (k:∀c∈L,Holds P c) (n:kE P ⟨fn,λ_ _ _ _=>none⟩):kE P (qC fn L W) where
 fn:=n.fn;K:=λg e o b r q h=>by
  simp only[qC,sB] at h;cases b with
  |true=>
   simp only[if_true] at h;obtain⟨p,d⟩:=j.K _ _ _ _ _ h;simp_all;|false=>
   simp only[ω,if_false] at h;split at h
   ·split at h
    ·rename_i c l;obtain⟨rfl,f⟩:=PE l;obtain⟨v,m,d⟩:=δ.1 h;simp only[Prod.mk.injEq] at d;obtain⟨rfl,rfl⟩:=d;obtain⟨a,rfl,i,rfl⟩:=YP m;obtain⟨t,s⟩:=k c f a i;simp_all
    ·cases h
   ·cases h
theorem t6 (hW:pL P W):pK (qC fn L W).K ⟨vB L,W.C⟩ where
 pure:=λf args K h=>by
  simp only[vB] at h;split at h
  ·rename_i c hc;obtain⟨a,h1,h2,h3⟩:=i6 h;obtain⟨r,h4,h5⟩:=HG h3;refine⟨r,?_,h5⟩;have:=c.A.ok _ _ h1;simp only[qC,sB,ω,if_false,hc,this];rw[YN (enc:=λa=>gL (c.A.put a)) c.A.inj h2,h4];rfl
  ·exact h.elim
 own:=λf args o K h=>hW.C _ (λf args o=>by simp[qC,sB]) f args o K h
theorem C2 {f:FuncId} {args:List AV} (h:oV f L=none):(qC fn L W).K f args [] false=none:=by
 simp[qC,sB,h]
def l8 (L:List bM) (W:mR) (a:TypeId->Option bn) (c:List Nat×Bool->Option (bn×bn)) (b:FuncId->Option fp):iN:=⟨⟨vB L,W.C⟩,a,c,λ_=>none,b,λ_=>false⟩
theorem holds_of (c:bM) {F:fp} {ty:TypeId->Option bn} {mt:List Nat×Bool->Option (bn×bn)} {Λ:c.α->Nat->cB} (h0:kE P ⟨fn,λ_ _ _ _=>none⟩) (hW:pL P W) (hL:∀c∈L,Holds P c)
  (hF:fn c.f=some F) (hfr:oV c.f L=none) (hlen:∀a,(c.A.put a).length=F.params)
  (h:∀a,c.dom a->sy (l8 L W ty mt fn) (Λ a) F (c.A.put a) λv=>v.rB (c.res a)):Holds P c:=by
 intro a hd;exact C0 (p:=l8 L W ty mt fn) (Λ:=Λ a) (tZ hW hL h0) (t6 hW) (λ_ _ h=>h) hF (C2 hfr) (hlen a) (λ_ h=>xt h) (h a hd)
def HH (L:List bM) (W:mR) (a:TypeId->Option bn) (c:List Nat×Bool->Option (bn×bn)) (b:FuncId->Option fp) (d:FuncId->Bool):iN:=⟨⟨vB L,W.C⟩,a,c,λ_=>none,b,d⟩
theorem Zx (c:bM) {F:fp} {ty:TypeId->Option bn} {mt:List Nat×Bool->Option (bn×bn)} {ro:FuncId->Bool} {Λ:c.α->Nat->cB} (h0:kE P ⟨fn,λ_ _ _ _=>none⟩) (hW:pL P W) (hL:∀c∈L,Holds P c)
  (hF:fn c.f=some F) (hfr:oV c.f L=none) (hlen:∀a,(c.A.put a).length=F.params)
  (h:∀a,c.dom a->sy (HH L W ty mt fn ro) (Λ a) F (c.A.put a) λv=>v.rB (c.res a)):Holds P c:=by
 intro a hd;exact C0 (p:=HH L W ty mt fn ro) (Λ:=Λ a) (tZ hW hL h0) (t6 hW) (λ_ _ h=>h) hF (C2 hfr) (hlen a) (λ_ h=>xt h) (h a hd)
def dU (k:IntKind):qA Int where
 put n:=.si k n;dec v:=v.int k;ok v a h:=by rw[iw h];rfl
 inj a b h:=by grind[γI]
def PG:qA Bool where
 put b:=.sb b;dec v:=v.boo;ok v a h:=by rw[vj h];rfl
 inj a b h:=by grind[γI]
theorem rD:(s:bn)->(x y:s.T)->dK s x=dK s y->(e:s.flat=true:=by rfl)->x=y
 | .i k,x,y,h,_=>by grind[dK];| .b,x,y,h,_=>by grind[dK];| .eD,⟨o,B,r,f,j,q⟩,⟨p,l,g,u,A,z⟩,h,_=>by
  simp_all[dK,iv];| .off,⟨b,⟨o,B,r,f,j,q⟩,v⟩,⟨c,⟨p,l,g,u,A,z⟩,w⟩,h,_=>by
  simp_all[dK,iv];| .need,⟨a,b⟩,⟨c,d⟩,h,_=>by
  simp_all[dK,iv];| .key,⟨b,⟨o,B,r,f,j,q⟩⟩,⟨c,⟨p,l,g,u,A,z⟩⟩,h,_=>by
  simp_all[dK,iv];| .sit,⟨m,⟨o,B,r,f,j,q⟩,⟨K,F,G,N,L,P⟩⟩,⟨n,⟨p,l,g,u,A,z⟩,⟨O,J,M,I,H,E⟩⟩,h,_=>by
  simp_all[dK,iv];| .bK _,_,_,_,e=>by grind[bn.flat];| .pair s t,(a,b),(c,d),h,e=>by
  simp only[bn.flat,ζ] at e;simp only[dK] at h;obtain⟨D,C⟩:=εI h (by grind[GN]);rw[rD s a c D e.1,rD t b d C e.2]
theorem HI {d i:Type} {n:Nat} {f:d->List i} (a:∀x,(f x).length=n) (c:∀x y,f x=f y->x=y):∀{l m:List d},l.length=m.length->l.flatMap f=m.flatMap f->l=m
 |[],[],_,_=>rfl
 |[],_::_,h,_=>by simp at h;|_::_,[],h,_=>by simp at h;|x::l,y::m,b,h=>by
  simp only[δ7] at h;obtain⟨e,g⟩:=εI h (by rw[a,a]);simp only[γz,ζm] at b;rw[c x y e,HI a c b g]
theorem xu:(s:bn)->(x y:s.T)->(h:dO s x=dO s y)->x=y
 | .bK s,x,y,h=>by
  simp only[dO,τ,AV.sl.injEq,and_true] at h;exact HI (lZ s) (xu s) h.1 h.2;| .pair s t,(a,b),(c,d),h=>by
  simp only[dO] at h;obtain⟨e,f⟩:=εI h (by grind[lZ]);rw[xu s a c e,xu t b d f];| .i k,x,y,h=>rD (.i k) x y (tY h)
 | .b,x,y,h=>rD .b x y (tY h)
 | .eD,x,y,h=>rD .eD x y (tY h)
 | .off,x,y,h=>rD .off x y (tY h)
 | .need,x,y,h=>rD .need x y (tY h)
 | .key,x,y,h=>rD .key x y (tY h)
 | .sit,x,y,h=>rD .sit x y (tY h)
theorem l9 (s:bn) {l m:List s.T} (a:l.length=m.length) (h:cC s l=cC s m):l=m:=
 HI (lZ s) (xu s) a h
def eG (s:bn):qA s.T where
 put x:=.agg (encS s x);dec
  | .agg c=>jJ s c
  |_=>none;ok v a h:=by
  grind[γI,gi,nY,tM]
 inj a b h:=by
  grind[γI,gi,tM,xu]
theorem j7 {s:bn} {v:SV} {l:List s.T} (h:gu s v=some l):v.g=(SV.row s l).g:=by
 cases v<;>simp only[gu,reduceCtorEq] at h;grind[zD,γI,cC]
def dY (s:bn):qA (List s.T) where
 put l:=.row s l;dec:=gu s;ok v a h:=j7 h;inj a b h:=by
  grind[γI,l9]
end Go.Vi
