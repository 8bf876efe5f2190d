/-
  The symbolic run: its operations, and what must hold for a piece of code to come to a post. Plain definitions: no proof stands here.
  Conditions: none.
-/
import Derived.Test.YtlphnffeeefcdaaGreatWD04
set_option maxRecDepth 100000
set_option maxHeartbeats 4000000
set_option linter.all false
open BitVec renaming ofInt->γr
open Bool renaming and_eq_true->ζ,and_true->γ8,false_eq_true->χ,or_eq_true->δK,true_eq_false->ζE
open Function renaming comp_def->δn
open Go.Vi.AV renaming sc->δd,ren->δz
open Go.Vi.AV.sc renaming injEq->γ9
open Go.Vi.SV renaming g->γE
open List renaming replicate->δ,map_map->δg,mem_map->γa,length_cons->γB,length->γf,drop_drop->δi,getElem?_eq_getElem->ν,take->ω,take_of_length_le->γn,map_cons->ξ,take_append_drop->γH,cons_append->γy,modify_succ_cons->ζs,getElem?_eq_some_iff->θ,map_append->γb,flatMap_nil->ζn,nil_append->δp,drop_zero->δ8,take_succ_cons->δ3,range->ψ,range'->ζh,range'_succ->εp,range_eq_range'->δC,flatMap_cons->δW,all_map->ζM,map->γc,ext_getElem?->δc,append_inj->εy
open List.cons renaming injEq->Δ
open Nat renaming beq->δu,add_assoc->ζD,mul_le_mul_right->γG,add_mul->εa,add_right_cancel_iff->ζb
open Option renaming map_eq_some_iff->ε,map_some->γl,isSome_some->ζF,isSome_none->εZ
open Option.some renaming injEq->γ
namespace Go.Vi
abbrev fj:=List (Nat×SV)
abbrev bZ:=List bq
structure cq where
 env:fj
 o:bZ
def jL:fj->Nat->SV
 |[],_=> .ud
 |p::r,s=>bif δu p.1 s then p.2 else jL r s
def uY (env:fj) (a:Option Nat) (v:SV):fj:=
 match a with
 |none=>env
 |some d=>(d,v)::env
def SV.oK:Value->SV
 | .int k n=> .il k n
 | .bool b=> .bl b
 |v=> .sc v
def SV.uA:Value->SV
 | .agg a=>if a.toList.all (·.oneCell') then .agg (a.toList.map .oK) else .ud
 | .tuple _=> .ud
 | .int k n=> .il k n
 | .bool b=> .bl b
 |v=> .sc v
def jw (env:fj):Operand->SV
 | .tmp t=>jL env t
 | .const v=> .uA v
 | .global _=> .ud
 | .func f=> .fn (.func f) [] []
def SV.cellsOf:SV->List SV
 | .agg a=>a
 |v=>[v]
def SV.one:SV->Bool
 | .agg _| .bJ _| .ud| .ite _ _ _=>false
 | .sc v=>v.oneCell'
 |_=>true
def xd (l:List SV):Bool:=l.all (·.one)
mutual
def SV.pure:SV->Bool
 | .sc _| .il .. | .si .. | .bl _| .sb _| .row .. =>true
 |_=>false
def zg:List SV->Bool
 |[]=>true
 |c::a=>c.pure&&zg a
end
mutual
def SV.cj (k:Nat):SV->Bool
 | .ud| .sc _| .il .. | .si .. | .bl _| .sb _| .row .. | .ep .. =>true
 | .agg e| .bJ e=>rU k e
 | .ptr d .. | .ap d .. | .rp d .. | .ow d .. | .os d .. | .oc d .. | .mp d=>decide (d<k)
 | .fn _ a b=>rU k a&&rU k b
 | .ia _ _| .ite _ _ _=>true
def rU (k:Nat):List SV->Bool
 |[]=>true
 |c::e=>c.cj k&&rU k e
end
def bq.cj (k:Nat):bq->Bool
 | .cells b _ _ a=>a||rU k b
 | .oH _ _ _ t=>rU k t
 |_=>true
mutual
def SV.kO:SV->Bool
 | .ud| .sc _| .il .. | .si .. | .bl _| .sb _=>true
 | .agg a| .bJ a=>B6 a
 |_=>false
def B6:List SV->Bool
 |[]=>true
 |c::a=>c.kO&&B6 a
end
def cn (k:IntKind) (n:Int):Prop:=
 match k with
 | .i64=> -9223372036854775808<=n/\n<=9223372036854775807
 |k=>k.wrap n=n
def uZ (k:IntKind) (n:Int) (K:Int->Prop):Prop:=
 match k with
 | .u32=>K (n % 4294967296)
 | .u64=>K (n % 18446744073709551616)
 |k=>cn k n/\K n
structure Oa where
 pure:FuncId->List SV->(SV->Prop)->Prop
 own:FuncId->List SV->bZ->(SV->bZ->Prop)->Prop
structure iR where
 C:Oa
 ty:TypeId->Option bp
 mt:List Nat×Bool->Option (bp×bp)
 sp:Nat->Option (Nat×Nat×Nat):=λ_=>none
 it:FuncId->Option eZ:=λ_=>none
 ro:FuncId->Bool:=λ_=>false
def rV (cs:List SV) (a:Nat):Option Nat->Option SV
 |none=>cs[a]?
 |some n=>if a+n<=cs.length then some (.agg ((cs.drop a).take n)) else none
def tu (cs:List SV) (a:Nat):List SV->List SV
 |[]=>cs
 |v::b=>tu (cs.set a v) (a+1) b
def iT {b:Type} (x:Option b) (K:b->Prop):Prop:=match x with|some a=>K a|none=>False
def u7 {b:Type} (f:SV->(b->Prop)->Prop):List SV->(List b->Prop)->Prop
 |[],K=>K []
 |v::c,K=>f v λa=>u7 f c λd=>K (a::d)
def q9 (o:bZ):Nat->SV->(SV->Prop)->Prop
 |_,.ud,K=>K .ud
 |_,.sc v,K=>match v with
  | .slice none 0 0=>K (.row (.i .i64) [])
  |v=>K (.sc v)
 |_,.il k n,K=>K (.il k n)
 |_,.si k n,K=>K (.si k n)
 |_,.bl b,K=>K (.bl b)
 |_,.sb b,K=>K (.sb b)
 |_,.row s l,K=>K (.row s l)
 |_,.ia t cs,K=>K (.ia t cs)
 |d+1,.agg cs,K=>u7 (q9 o d) cs λcs'=>K (.agg cs')
 |d+1,.bJ cs,K=>u7 (q9 o d) cs λcs'=>K (.bJ cs')
 |d+1,.fn f a b,K=>u7 (q9 o d) a λa'=>u7 (q9 o d) b λb'=>K (.fn f a' b')
 |_+1,.ow id n sz,K=>match o[id]? with
  |some (.row s l _ _)=>if sz=s.sz then n=l.length/\K (.row s l) else False
  |_=>False
 |_+1,.os id off len n sz,K=>match o[id]? with
  |some (.row s l _ _)=>if sz=s.sz then n=l.length/\off+len<=n/\K (.row s ((l.drop off).take len)) else False
  |_=>False
 |_,_,_=>False
def mq (o:bZ) (a:SV) (n:Option Nat) (K:SV->Prop):Prop:=
 match a with
 | .ptr h b d=>match o[h]? with
  |some (.cells c _ _ _)=>if c.length=d then iT (rV c b n) K else False
  |_=>False
 | .ap h e g f d i=>match o[h]? with
  |some (.cells c _ _ _)=>if c.length=d/\e+g*f<=d then i<f/\zh ((c.drop e).take (g*f)) g i n K else False
  |_=>False
 | .ep s l i b=>i<l.length/\iT (rV (encS s (bj l i s.dflt)) b n) K
 | .rp h i b m g=>match o[h]? with
  |some (.row s l _ _)=>if g=s.sz then m=l.length/\i<l.length/\iT (rV (encS s (bj l i s.dflt)) b n) K else False
  |_=>False
 |_=>False
where
 zh (c:List SV) (g i:Nat) (n:Option Nat) (K:SV->Prop):Prop:=
  match n,g with
  |none,1=>match ints c with
   |some l=>K (.si .i64 (bj l i 0))
   |none=>match rowsOff c with
    |some l=>K (.row .off (bj l i []))
    |none=>False
  |_,_=>False;rowsOff:List SV->Option (List (List Off))
  |[]=>some []
  | .row .off l::c=>(rowsOff c).map (l::·)
  |_=>none
def mkK (bE:Nat) (x:bq) (o:bZ) (K:bZ->Prop):Prop:=
 match o[bE]? with
 |some .dead=>K (o.set bE x)
 |_=>False
def rW (a:List (Nat×Nat×SV)) (cs:List SV):Option (List SV):=
 match a with
 |[]=>some cs
 |(b,n,v)::c=>
  if v.cellsOf.length=n/\xd v.cellsOf=true/\b+n<=cs.length then rW c (tu cs b v.cellsOf) else none
def tB (s:bp):Nat->List SV->Option (List s.T)
 |0,[]=>some []
 |n+1,a=>match jK s (a.take s.sz),tB s n (a.drop s.sz) with
  |some x,some l=>some (x::l)
  |_,_=>none
 |_,_=>none
def u9 (o:bZ) (s:bp) (x:SV) (K:List s.T->Prop):Prop:=
 match x with
 | .row a l=>iT (iJ a s l) K
 | .ow d n e=>match o[d]? with
  |some (.row a l _ _)=>if e=a.sz then n=l.length/\iT (iJ a s l) K else False
  |_=>False
 | .os d c b n e=>match o[d]? with
  |some (.row a l _ _)=>if e=a.sz then n=l.length/\c+b<=n/\iT (iJ a s ((l.drop c).take b)) K else False
  |_=>False
 | .sc (.slice none 0 0)=>K []
 |_=>False
def Ob (o:bZ):SV->Option (List SV)
 | .ow j 1 a=>match o[j]? with
  |some (.oH s [] _ t)=>if s.sz=a then some t else none
  |_=>none
 |_=>none
def SV.Oc:SV->Bool
 | .ow .. =>true
 |_=>false
def zi:SV->Option Int
 | .si _ n=>some n
 | .il _ n=>some n
 |_=>none
def isNil:SV->Bool
 | .sc (.slice none 0 0)=>true
 |_=>false
def gY (e:BinOp) (x y:SV) (K:SV->Prop):Prop:=
 match x,y with
 | .il k a,.il d b=>match gV e (.int k a) (.int d b) with
  |some (.int k n)=>K (.il k n)
  |some (.bool c)=>K (.bl c)
  |_=>False
 | .si k a,.si d b=>go k a d b
 | .il k a,.si d b=>go k a d b
 | .si k a,.il d b=>go k a d b
 | .sc (.string a),.sc (.string b)=>match e with
  | .eql=>K (.sb (a.toList==b.toList))
  | .neq=>K (.sb (!(a.toList==b.toList)))
  |_=>False
 |_,_=>False
where
 go (k:IntKind) (a:Int) (d:IntKind) (b:Int):Prop:=
  match e with
  | .shl=>0<=b/\b<=k.bits/\uZ k (a*2^b.toNat) λn=>K (.si k n)
  | .shr=>0<=b/\b<=k.bits/\K (.si k (a / 2^b.toNat))
  | .add=>if k=d then uZ k (a+b) λn=>K (.si k n) else False
  | .sub=>if k=d then uZ k (a - b) λn=>K (.si k n) else False
  | .mul=>if k=d then uZ k (a*b) λn=>K (.si k n) else False
  | .quo=>if k=d then b≠0/\cn k (a.tdiv b)/\K (.si k (a.tdiv b)) else False
  | .rem=>if k=d then b≠0/\K (.si k (a.tmod b)) else False
  | .and=>if k=d then K (.si k (vd k a b)) else False
  | .or=>if k=d then K (.si k (nK k a b)) else False
  | .xor=>if k=d then K (.si k (Gn k a b)) else False
  | .andNot=>if k=d then K (.si k (B7 k a b)) else False
  | .eql=>if k=d then K (.sb (decide (a=b))) else False
  | .neq=>if k=d then K (.sb (decide (a≠b))) else False
  | .lss=>if k=d then K (.sb (decide (a<b))) else False
  | .leq=>if k=d then K (.sb (decide (a<=b))) else False
  | .gtr=>if k=d then K (.sb (decide (b<a))) else False
  | .geq=>if k=d then K (.sb (decide (b<=a))) else False;vd (k:IntKind) (a b:Int):Int:=eV k (γr k.bits a &&&γr k.bits b).toNat;nK (k:IntKind) (a b:Int):Int:=eV k (γr k.bits a |||γr k.bits b).toNat;Gn (k:IntKind) (a b:Int):Int:=eV k (γr k.bits a ^^^γr k.bits b).toNat;B7 (k:IntKind) (a b:Int):Int:=eV k (γr k.bits a &&&~~~(γr k.bits b)).toNat
def Gp:SV->SV->Option Bool
 | .si k a,y=>(y.int k).map λb=>decide (a=b)
 | .il k a,y=>(y.int k).map λb=>decide (a=b)
 | .sb a,y=>y.boo.map λb=>a==b
 | .bl a,y=>y.boo.map λb=>a==b
 |_,_=>none
def tC:List SV->List SV->Option Bool
 |[],[]=>some true
 |x::d,y::c=>match Gp x y,tC d c with
  |some a,some b=>some (a&&b)
  |_,_=>none
 |_,_=>none
def lj:List Nat->List SV->Bool
 |[],[]=>true
 |0::a,.si _ _::b=>lj a b
 |0::a,.il _ _::b=>lj a b
 |1::a,.sb _::b=>lj a b
 |1::a,.bl _::b=>lj a b
 |_,_=>false
def nL (a sv:bp) (x:a.T) (es:List (a.T×sv.T)):Option sv.T:=(es.find? λp=>decide (p.1=x)).map (·.2)
def rX (a sv:bp) (x:a.T) (v:sv.T):List (a.T×sv.T)->List (a.T×sv.T)
 |[]=>[(x,v)]
 |p::r=>if p.1=x then(x,v)::r else p::rX a sv x v r
def ve (a:Bool):SV->Bool
 | .agg _=>a
 |_=>!a
def bp.keyed:bp->Bool
 | .key| .sit| .i _=>true
 |_=>false
def nM (d:Nat):Option SV->(Nat->Prop)->Prop
 |none,K=>K d
 |some (.il _ n),K=>if 0<=n then K n.toNat else False
 |some (.si _ n),K=>0<=n/\K n.toNat
 |_,_=>False
def tG:List Int->Nat->Int->Nat->List Int
 |[],_,_,_=>[]
 |a::l,i,v,j=>(if i=j then v else a)::tG l i v (j+1)
def B8:SV->(SV->Prop)->Prop
 | .ite c a b,K=>(c=true->B8 a K)/\(c=false->B8 b K)
 |v,K=>K v
def SV.G:SV->AV
 | .ite c a b=>match c with
  |true=>a.G
  |false=>b.G
 |v=>v.g
def eO (p:iR) (op:cJ) (ρ:Operand->SV) (o:bZ) (bE:Nat) (K:SV->bZ->Prop):Prop:=
 match op with
 | .uB x=>K (ρ x) o
 | .pick c a b=>match ρ c with
  | .bl true=>K (ρ a) o
  | .bl false=>K (ρ b) o
  | .sb c=>(c=true->K (ρ a) o)/\(c=false->K (ρ b) o)
  |_=>False
 | .alloc z e pu=>mkK bE (.cells (z.map .oK) e z.length pu) o λo'=>K (.ptr bE 0 z.length) o'
 | .box e x=>if xd (ρ x).cellsOf then mkK bE (.cells (ρ x).cellsOf e (ρ x).cellsOf.length false) o λo'=>K (.ptr bE 0 (ρ x).cellsOf.length) o' else False
 | .build z parts=>iT (rW (parts.map λq=>(q.1,q.2.1,ρ q.2.2)) (z.map .oK)) λcs=>K (.agg cs) o
 | .o9 z len parts e sz=>match p.ty e,rW (parts.map λq=>(q.1,sz,ρ q.2)) ((δ len (z.map SV.oK)).flatten) with
  |some s,some cs=>if s.sz=sz then(if cs.any SV.Oc then(if cs.length=len*sz then mkK bE (.oH s [] e cs) o λo'=>K (.ow bE len sz) o' else False) else iT (tB s len (cs.map SV.qn)) λl=>mkK bE (.row s l e true) o λo'=>K (.ow bE len sz) o') else False
  |_,_=>False
 | .sU z len parts e sz=>match p.ty e,rW (parts.map λq=>(q.1,sz,ρ q.2)) ((δ len (z.map SV.oK)).flatten) with
  |some s,some cs=>if s.sz=sz then iT (tB s len (cs.map SV.qn)) λl=>K (.row s l) o else False
  |_,_=>False
 | .load n a=>mq o (ρ a) n λv=>K v o
 | .store n a x=>match ρ a with
  | .ptr id off tot=>match o[id]? with
   |some (.cells cs e sz pu)=>
    if cs.length=tot/\(ρ x).cellsOf.length=n/\xd (ρ x).cellsOf=true/\off+n<=cs.length/\(pu=false\/zg (ρ x).cellsOf=true) then K .ud (o.set id (.cells (tu cs off (if pu then(ρ x).cellsOf.map SV.qn else(ρ x).cellsOf)) e sz pu)) else False
   |_=>False
  | .rp id i off m sz=>match o[id]? with
   |some (.row s l e pu)=>
    if sz=s.sz/\(ρ x).cellsOf.length=n/\off+n<=s.sz then m=l.length/\i<l.length/\iT (jK s (tu (encS s (bj l i s.dflt)) off (if pu then(ρ x).cellsOf.map SV.qn else(ρ x).cellsOf))) λv=>K .ud (o.set id (.row s (l.set i v) e pu)) else False
   |_=>False
  | .ap id base sz len tot i=>match o[id]? with
   |some (.cells cs e sz' pu)=>match n,sz,(ρ x).int .i64 with
    |1,1,some v=>match ints ((cs.drop base).take len) with
     |some l=>if cs.length=tot/\base+len<=tot then i<len/\K .ud (o.set id (.cells (tu cs base ((tG l i v 0).map (SV.si .i64))) e sz' pu)) else False
     |none=>False
    |_,_,_=>False
   |_=>False
  |_=>False
 | .uC x=>match ρ x with
  | .ptr a b c=>K (.ptr a b c) o
  | .rp a b c d e=>K (.rp a b c d e) o
  | .ep s l i f=>K (.ep s l i f) o
  |_=>False
 | .bin op x y=>gY op (ρ x) (ρ y) λv=>K v o
 | .beq neg x y=>match(ρ x).boo,(ρ y).boo with
  |some a,some b=>K (.sb (if neg then !(a==b) else a==b)) o
  |_,_=>False
 | .rK neg ks x y=>match ρ x,ρ y with
  | .agg a,.agg b=>if lj ks a&&lj ks b then iT (tC a b) λr=>K (.sb (if neg then !r else r)) o else False
  |_,_=>False
 | .un op x=>match op,ρ x with
  | .not,.sb b=>K (.sb !b) o
  | .not,.bl b=>K (.bl !b) o
  | .neg,.si k n=>cn k (-n)/\K (.si k (-n)) o
  | .neg,.il k n=>K (.il k (eV k (0 - n))) o
  |_,_=>False
 | .conv k x=>match ρ x with
  | .il _ n=>K (.il k (eV k n)) o
  | .si .i64 n=>cn k n/\K (.si k n) o
  | .si _ n=>uZ k n λm=>K (.si k m) o
  |_=>False
 | .uD off x=>match ρ x with
  | .ptr id b tot=>K (.ptr id (b+off) tot) o
  | .ep s l i b=>K (.ep s l i (b+off)) o
  | .rp id i b m sz=>K (.rp id i (b+off) m sz) o
  |_=>False
 | .field off n x=>match ρ x with
  | .agg cs=>iT (rV cs off n) λv=>K v o
  |_=>False
 | .uE len sz x i=>match ρ i with
  | .il _ n=>if 0<=n/\n<len then(match ρ x with
   | .ptr id b tot=>K (.ptr id (b+n.toNat*sz) tot) o
   | .ep s l j b=>K (.ep s l j (b+n.toNat*sz)) o
   | .rp id j b m sz'=>K (.rp id j (b+n.toNat*sz) m sz') o
   |_=>False) else False
  | .si _ n=>match ρ x with
   | .ptr id b tot=>0<=n/\n<len/\K (.ap id b sz len tot n.toNat) o
   |_=>False
  |_=>False
 | .rL sz x i=>match zi (ρ i) with
  |some n=>match ρ x with
   | .row s l=>if sz=s.sz then 0<=n/\n<l.length/\K (.ep s l n.toNat 0) o else False
   | .ow id m sz'=>match o[id]? with
    |some (.row s l _ _)=>if sz=s.sz/\sz'=s.sz then m=l.length/\0<=n/\n<l.length/\K (.rp id n.toNat 0 m sz) o else False
    |_=>False
   | .os id off len m sz'=>match o[id]? with
    |some (.row s l _ _)=>if sz=s.sz/\sz'=s.sz then m=l.length/\0<=n/\n<len/\off+len<=m/\K (.rp id (off+n.toNat) 0 m sz) o else False
    |_=>False
   | .oc id off len m sz'=>match o[id]? with
    |some (.row s l _ _)=>if sz=s.sz/\sz'=s.sz then m=l.length/\0<=n/\n<len/\off+len<=m/\K (.rp id (off+n.toNat) 0 m sz) o else False
    |_=>False
   |_=>False
  |none=>False
 | .idx len sz n x i=>match ρ i,ρ x with
  | .il _ k,.agg cs=>if 0<=k/\k<len then iT (rV cs (k.toNat*sz) n) λv=>K v o else False
  | .si _ k,.agg cs=>match n,sz,ints cs with
   |none,1,some l=>if l.length=len then 0<=k/\k<len/\K (.si .i64 (bj l k.toNat 0)) o else False
   |_,_,_=>False
  |_,_=>False
 | .pW z e sz bytes l c pu=>match zi (ρ l),zi (ρ c),p.ty e with
  |some n,some m,some s=>if s.sz=sz then iT (jK s (if pu then(z.map SV.oK).map SV.qn else z.map .oK)) λx=>0<=n/\n<=m/\m*bytes<=140737488355328/\m<=1000000000000/\
    mkK bE (.row s (δ n.toNat x) e pu) o λo'=>K (.ow bE n.toNat sz) o' else False
  |_,_,_=>False
 | .slice sz x lo hi=>match ρ x with
  | .row s l=>if sz=s.sz then nM 0 (lo.map ρ) λa=>nM l.length (hi.map ρ) λb=>a<=b/\b<=l.length/\K (.row s ((l.drop a).take (b - a))) o else False
  | .ow id m sz'=>match o[id]? with
   |some (.row s l _ _)=>if sz=s.sz/\sz'=s.sz then m=l.length/\nM 0 (lo.map ρ) λa=>nM m (hi.map ρ) λb=>a<=b/\b<=m/\K (.os id a (b - a) m sz) o else False
   |_=>False
  | .os id off len m sz'=>match o[id]? with
   |some (.row s l _ _)=>if sz=s.sz/\sz'=s.sz then m=l.length/\nM 0 (lo.map ρ) λa=>nM len (hi.map ρ) λb=>a<=b/\b<=len/\K (.os id (off+a) (b - a) m sz) o else False
   |_=>False
  |_=>False
 | .slice3 sz x lo hi mx=>match ρ x with
  | .row s l=>if sz=s.sz then nM 0 (lo.map ρ) λa=>nM l.length (some (ρ hi)) λb=>nM l.length (some (ρ mx)) λm=>a<=b/\b<=m/\m<=l.length/\K (.row s ((l.drop a).take (b - a))) o else False
  | .ow id n sz'=>match o[id]? with
   |some (.row s l _ _)=>if sz=s.sz/\sz'=s.sz then n=l.length/\nM 0 (lo.map ρ) λa=>nM n (some (ρ hi)) λb=>nM n (some (ρ mx)) λm=>a<=b/\b<=m/\m<=n/\K (.oc id a (b - a) n sz) o else False
   |_=>False
  |_=>False
 | .append e sz bytes s x pu=>match p.ty e,Ob o (ρ x) with
  |some t,some tl=>match ρ s,ρ x with
   | .ow id n sz',.ow _ _ Yh=>match o[id]? with
    |some (.row t' l e' Gq)=>if e'=e/\t'.sz=sz/\sz'=sz/\Yh=sz/\t.sz=sz/\Gq=false/\tl.length=sz/\xd tl=true then n=l.length/\(l.length+1)*bytes<=140737488355328/\l.length+1<=1000000000000/\
      K (.ow id (l.length+1) sz) (o.set id (.oH t' l e tl)) else False
    |_=>False
   |_,_=>False
  |some t,none=>if t.sz=sz then u9 o t (ρ x) λnew=>match ρ s with
    | .sc (.slice none 0 0)=>(new.length=0->K (.sc yN) o)/\(new.length≠0->new.length*bytes<=140737488355328/\new.length<=1000000000000/\mkK bE (.row t new e pu) o λo'=>K (.ow bE new.length sz) o')
    | .ow id n sz'=>match o[id]? with
     |some (.row t' l e' Gq)=>if e'=e/\t'.sz=sz/\sz'=sz then n=l.length/\(l.length+new.length)*bytes<=140737488355328/\l.length+new.length<=1000000000000/\
       iT (iJ t' t l) λl'=>K (.ow id (l'++new).length sz) (o.set id (.row t (l'++new) e Gq)) else False
     |_=>False
    | .row t' l=>new.length=0/\K (.row t' l) o
    |_=>False
   else False
  |none,_=>False
 | .len k x=>match k,ρ x with
  |0,.row _ l=>K (.si .i64 l.length) o
  |0,.ow _ n _=>K (.si .i64 n) o
  |0,.os _ _ len _ _=>K (.si .i64 len) o
  |0,.oc _ _ len _ _=>K (.si .i64 len) o
  |0,.sc (.slice none 0 0)=>K (.il .i64 0) o
  |1,.sc (.string s)=>K (.si .i64 s.size) o
  |2,.mp id=>match o[id]? with
   |some (.map _ _ _ es _ _)=>K (.si .i64 es.length) o
   |_=>False
  |_,_=>False
 | .uG n=>K (.il .i64 n) o
 | .mm mx x y=>match ρ x,ρ y with
  | .il k a,.il k' b=>if k=k' then K (.il k (if mx then(if b>a then b else a) else(if b<a then b else a))) o else False
  | .si k a,y=>iT (y.int k) λb=>K (.si k (if mx then max a b else min a b)) o
  | .il k a,y=>iT (y.int k) λb=>K (.si k (if mx then max a b else min a b)) o
  |_,_=>False
 | .call f args own=>zj p f (args.map ρ) o own K
 | .jI f args own=>match ρ f with
  | .fn (.func g) first captured=>zj p g (first++args.map ρ++captured) o own K
  |_=>False
 | .extract x i=>match ρ x with
  | .bJ vs=>iT vs[i]? λv=>K v o
  |_=>False
 | .sV f first captured=>K (.fn f (first.map ρ) (captured.map ρ)) o
 | .uH t x=>match ρ x with
  | .agg cs=>if zg cs=true then K (.ia t cs) o else False
  |_=>False
 | .ot tab x args=>match ρ x with
  | .ia t cs=>match uJ tab t with
   |some f=>zj p f (.agg cs::args.map ρ) o false K
   |none=>False
  |_=>False
 | .pX kt pu=>match p.mt kt with
  |some (sk,sv)=>mkK bE (.map sk sv kt.2 [] kt pu) o λo'=>K (.mp bE) o'
  |none=>False
 | .lookup z agg ks ka x k ok=>match ρ x with
  | .mp id=>match o[id]? with
   |some (.map sk sv xe es kt _)=>
    if kt=(ks,ka)/\xe=ka/\sk.keyed=true/\sv.wZ=true/\agg=false/\(ka=false->sk.sz=1)/\lj ks (ρ k).cellsOf=true/\ve ka (ρ k)=true then
     iT (jK sk (ρ k).cellsOf) λkv=>iT (jK sv (z.map .oK)) λzv=>
      let r:=(encS sv ((nL sk sv kv es).getD zv)).headD .ud;K (if ok then .bJ [r,.sb (nL sk sv kv es).isSome] else r) o
    else False
   |_=>False
  |_=>False
 | .qN ks ka x k v=>match ρ x with
  | .mp id=>match o[id]? with
   |some (.map sk sv xe es kt pu)=>
    if kt=(ks,ka)/\xe=ka/\sk.keyed=true/\sv.wZ=true/\(ka=false->sk.sz=1)/\lj ks (ρ k).cellsOf=true/\ve ka (ρ k)=true/\ve false (ρ v)=true then
     iT (jK sk (ρ k).cellsOf) λkv=>iT (jK sv (ρ v).cellsOf) λvv=>K .ud (o.set id (.map sk sv xe (rX sk sv kv vv es) kt pu))
    else False
   |_=>False
  |_=>False
 |_=>False
where
 zj (p:iR) (f:FuncId) (args:List SV) (o:bZ) (own:Bool) (K:SV->bZ->Prop):Prop:=
  if own then p.C.own f args o K
  else u7 (q9 o 6) args λargs'=>p.C.pure f args' λr=>if(args.flatMap (λv=>fe (o.map bq.g) 6 v.g)).isEmpty||r.kO then K r o else False
def xf:fj->Nat->SV->fj
 |[],_,_=>[]
 |p::r,s,v=>bif δu p.1 s then(p.1,v)::r else p::xf r s v
def Gs (env:fj) (g:Option (Option Nat×Bool)) (K:fj->Bool->Prop):Prop:=
 match g with
 |none=>K env true
 |some (none,_)=>False
 |some (some s,b)=>match jL env s with
  | .bl c=>K env (c==b)
  | .sb c=>(c=true->K (xf env s (.bl true)) (true==b))/\(c=false->K (xf env s (.bl false)) (false==b))
  | .bJ []=>K env false
  |_=>False
def SV.same (v w:SV):Prop:=v.g=w.g
def SV.qk (v:SV):SV->Prop
 | .ite c a b=>(c=true->v.qk a)/\(c=false->v.qk b)
 |w=>v.same w
def bq.same (x y:bq):Prop:=x.g=y.g
def jY:bZ->bZ->Prop
 |[],[]=>True
 |x::o,y::a=>x.same y/\jY o a
 |_,_=>False
def Oe (p:iR) (a:cJ) (o o':bZ) (K:Bool->Prop):Prop:=
 match a with
 | .call f _ true=>if p.ro f=true then jY o o'/\K true else K false
 |_=>K false
def xg (p:iR) (base:Nat):List dy->cq->Trace->(cq->Trace->Prop)->Prop
 |[],b,c,K=>K b c
 |i::r,b,c,K=>Gs b.env i.guard λa w=>
   if w then eO p i.op (jw a) b.o (base+i.bE) λv d=>Oe p i.op b.o d λe=>xg p base r ⟨uY a i.dst v,d⟩ ((i.idx,dU i.op (λx=>(jw a x).g) (b.o.map bq.g) (base+i.bE),if e then[] else wrt i.op (λx=>(jw a x).g) (b.o.map bq.g) (base+i.bE))::c) K
   else xg p base r ⟨uY a i.dst (.bJ []),b.o⟩ ((i.idx,[],[])::c) K
def bq.mK:bq->Bool
 | .dead=>true
 |_=>false
def Gt (base:Nat) (o:bZ):bZ:=if(o.drop base).all (·.mK) then o.take base else o
def Gu (p:iR) (k:Nat) (c:List dy) (b:List (Nat×Nat)) (st:cq) (K:cq->Prop):Prop:=
 xg p st.o.length c ⟨st.env,st.o++δ k .dead⟩ [] λa d=>
  if b.isEmpty||sX (st.o.length+k) d.reverse b then K ⟨a.env,if k=0 then a.o else Gt st.o.length a.o⟩ else False
mutual
def jy (id:Nat) (s:bp) (l:List s.T):SV->(SV->Prop)->Prop
 | .ow j n m,K=>if j=id then(if m=s.sz then n=l.length/\K (.row s l) else False) else K (.ow j n m)
 | .os j h g n m,K=>if j=id then(if m=s.sz then n=l.length/\h+g<=n/\K (.row s ((l.drop h).take g)) else False) else K (.os j h g n m)
 | .oc j h g n m,K=>if j=id then False else K (.oc j h g n m)
 | .rp j i f n m,K=>if j=id then False else K (.rp j i f n m)
 | .ptr j f t,K=>if j=id then False else K (.ptr j f t)
 | .ap j a b c d e,K=>if j=id then False else K (.ap j a b c d e)
 | .agg o,K=>ra id s l o λk=>K (.agg k)
 | .bJ o,K=>ra id s l o λk=>K (.bJ k)
 | .fn f a b,K=>ra id s l a λp=>ra id s l b λr=>K (.fn f p r)
 |v,K=>K v
def ra (id:Nat) (s:bp) (l:List s.T):List SV->(List SV->Prop)->Prop
 |[],K=>K []
 |c::o,K=>jy id s l c λq=>ra id s l o λk=>K (q::k)
end
def zk (id:Nat) (s:bp) (l:List s.T):fj->(fj->Prop)->Prop
 |[],K=>K []
 |(k,v)::r,K=>jy id s l v λa=>zk id s l r λb=>K ((k,a)::b)
def nN (id:Nat) (s:bp) (l:List s.T):Nat->bZ->(bZ->Prop)->Prop
 |_,[],K=>K []
 |i,x::r,K=>match x with
  | .cells g e h b=>if b then(if i=id then False else nN id s l (i+1) r λa=>K (.cells g e h b::a)) else ra id s l g λd=>nN id s l (i+1) r λa=>K (.cells d e h b::a)
  | .oH c f e t=>if i=id then False else ra id s l t λj=>match tB c 1 j with
   |some m=>nN id s l (i+1) r λa=>K (.row c (f++m) e false::a)
   |none=>False
  | .row c f e b=>if i=id then(if b then nN id s l (i+1) r λa=>K (.dead::a) else False) else nN id s l (i+1) r λa=>K (.row c f e b::a)
  |x=>nN id s l (i+1) r λa=>K (x::a)
def tH (p:iR) (lo:Nat) (h:ky) (st:cq) (K:cq->Prop):Prop:=
 if h.own then match h.off with
  |none=>if isNil (jL st.env h.slot) then(match p.ty h.e with
    |some s=>if s.sz=h.sz then K ⟨(h.slot,.ow st.o.length 0 h.sz)::st.env,st.o++[.row s [] h.e h.pu]⟩ else False
    |none=>False) else if h.sz=0 then(match jL st.env h.slot with
     | .ow a _ _=>match st.o[a]? with
      |some (.row s l e true)=>K ⟨st.env,st.o.set a (.row s l e false)⟩
      |_=>False
     |_=>False) else K st
  |some k=>match jL st.env h.slot with
   | .ptr a b c=>match st.o[a]? with
    |some (.cells d e i f)=>if(d[b+k]?).any isNil then(if d.length=c/\f=false then(match p.ty h.e with
      |some s=>if s.sz=h.sz then K ⟨st.env,(st.o.set a (.cells (d.set (b+k) (.ow st.o.length 0 h.sz)) e i f))++[.row s [] h.e h.pu]⟩ else False
      |none=>False) else False) else K st
    |_=>False
   |_=>False
 else match Og h st with
  |some (some a)=>if Nat.ble lo a then(match st.o[a]? with
   |some (.row s l e f)=>zk a s l st.env λg=>nN a s l 0 (if f then st.o else st.o.set a (.row s l e true)) λo=>K ⟨g,o⟩
   |_=>False) else K st
  |some none=>K st
  |none=>False
where
 xh:SV->Option Nat
  | .ow a .. =>some a
  | .os a .. =>some a
  | .oc a .. =>some a
  |_=>none;Og (h:ky) (st:cq):Option (Option Nat):=
  match h.off with
  |none=>some (xh (jL st.env h.slot))
  |some k=>match jL st.env h.slot with
   | .ptr a b c=>match st.o[a]? with
    |some (.cells d _ _ _)=>if d.length=c then(d[b+k]?).map xh else none
    |_=>none
   |_=>none
def zl (p:iR) (lo:Nat):List ky->cq->(cq->Prop)->Prop
 |[],st,K=>K st
 |h::hs,st,K=>tH p lo h st λst'=>zl p lo hs st' K
def Gv (a:List Nat) (env:fj):fj:=a.map λs=>(s,jL env s)
def trimS (k:Nat) (st:cq):cq:=
 if st.o.length<=k then st
 else if(st.env.all λp=>p.2.cj k)&&((st.o.take k).all λx=>x.cj k) then⟨st.env,st.o.take k⟩ else st
def xi:fj->fj->Prop
 |[],[]=>True
 |(k,v)::e,(b,c)::a=>if k=b then v.same c/\xi e a else False
 |_,_=>False
def zm (s t:cq):Prop:=xi s.env t.env/\jY s.o t.o
def iS (s:cq) (k:Nat):Int:=match jL s.env k with
 | .si _ n=>n
 | .il _ n=>n
 |_=>0
def bS (s:cq) (k:Nat):Bool:=match jL s.env k with
 | .sb b=>b
 | .bl b=>b
 |_=>false
def rS (t:bp) (s:cq) (k:Nat):List t.T:=match jL s.env k with
 | .row a l=>match iJ a t l with
  |some l=>l
  |none=>[]
 |_=>[]
def oS (t:bp) (s:cq) (id:Nat):List t.T:=match s.o[id]? with
 |some (.row a l _ _)=>match iJ a t l with
  |some l=>l
  |none=>[]
 |_=>[]
def splitN (v:Int) (n:Nat) (K:Nat->Prop):Nat->Prop
 |0=>0<=v/\v<n
 |j+1=>(v=(n - (j+1):Nat)->K (n - (j+1)))/\splitN v n K j
def splitK (x:Option (Nat×Nat×Nat)) (st:cq) (K:cq->Prop):Prop:=
 match x with
 |none=>K st
 |some (b,a,n)=>match st.o[b]? with
  |some (.cells c e f d)=>match c[a]? with
   |some (.si k v)=>splitN v n (λj=>K ⟨st.env,st.o.set b (.cells (c.set a (.il k j)) e f d)⟩) n
   |_=>False
  |_=>False
inductive cC where
 |rb (n:Nat)
 |look
 |inv (X:Type) (shape:X->cq) (next:cq->X) (J:X->Prop) (m:X->Nat) (inner:X->Nat->cC)
def Look (_:cq):Prop:=False
def vf:IR->Nat
 | .region c .. =>c
 | .seq .skip b=>vf b
 | .seq a _=>vf a
 | .block _ b=>vf b
 | .loop b=>vf b
 | .turns _ b=>vf b
 |_=>0
def Gw (W:cq->(Out->cq->Prop)->Prop) (Q:Out->cq->Prop):Nat->cq->Prop
 |0,_=>False
 |n+1,b=>W b λa s=>match a with
  | .norm=>Gw W Q n (trimS b.o.length s)
  |o=>Q o s
def zn (t:Nat):fj->fj
 |[]=>[]
 |p::r=>bif δu p.1 t then zn t r else p::zn t r
def xj (x:Operand) (env:fj):fj:=
 match x with
 | .tmp t=>zn t env
 |_=>env
def B9 (env:fj) (x:Operand) (v:SV):fj:=
 match x with
 | .tmp t=>xf env t v
 |_=>env
def wpS (p:iR) (lo:Nat):IR->(Nat->cC)->cq->(Out->cq->Prop)->Prop
 | .skip,_,st,Q=>Q .norm st
 | .region id draw k ops jJ live pre post,_,st,Q=>splitK (p.sp id) st λst0=>zl p lo pre st0 λst1=>Gu p k ops jJ st1 λst2=>zl p lo post ⟨Gv live st2.env,st2.o⟩ λGx=>Q .norm Gx
 | .seq a b,Λ,st,Q=>wpS p lo a Λ st λout s=>match out with
  | .norm=>wpS p lo b Λ s Q
  |o=>Q o s
 | .cond x a b,Λ,st,Q=>match jw st.env x with
  | .bl true=>wpS p lo a Λ ⟨xj x st.env,st.o⟩ Q
  | .bl false=>wpS p lo b Λ ⟨xj x st.env,st.o⟩ Q
  | .sb c=>(c=true->wpS p lo a Λ ⟨xj x st.env,st.o⟩ Q)/\(c=false->wpS p lo b Λ ⟨xj x st.env,st.o⟩ Q)
  |_=>False
 | .block id b,Λ,st,Q=>wpS p lo b Λ st λout s=>Q (out.inBlock id) s
 | .loop b,Λ,st,Q=>match Λ (vf b) with
  | .rb n=>Gw (wpS p lo b Λ) Q n st
  | .look=>Look st
  | .inv _ shape next J m inner=>(zm st (shape (next st))/\J (next st))/\∀x,J x->wpS p lo b (inner x) (shape x) λout s=>match out with
   | .norm=>zm (trimS (shape x).o.length s) (shape (next (trimS (shape x).o.length s)))/\J (next (trimS (shape x).o.length s))/\m (next (trimS (shape x).o.length s))<m x
   |o=>Q o s
 | .exit id,_,st,Q=>Q (.exit id) st
 | .ret,_,st,Q=>Q .ret st
 | .goto l,_,st,Q=>Q (.goto l) st
 | .ou x a b,Λ,st,Q=>match jw st.env x with
  | .bl true=>wpS p lo a Λ st Q
  | .bl false=>wpS p lo b Λ st Q
  | .sb c=>(c=true->wpS p lo a Λ ⟨B9 st.env x (.bl true),st.o⟩ Q)/\(c=false->wpS p lo b Λ ⟨B9 st.env x (.bl false),st.o⟩ Q)
  |_=>False
 | .turns none b,Λ,st,Q=>wpS p lo b Λ st λout s=>match out with
  | .goto _=>False
  |o=>Q o s
 | .turns (some l) b,Λ,st,Q=>match Λ (vf b) with
  | .inv _ shape next J m inner=>(zm st (shape (next st))/\J (next st))/\∀x,J x->wpS p lo b (inner x) (shape x) λout s=>match out with
   | .goto l'=>l'=l/\zm (trimS (shape x).o.length s) (shape (next (trimS (shape x).o.length s)))/\J (next (trimS (shape x).o.length s))/\m (next (trimS (shape x).o.length s))<m x
   |o=>Q o s
  |_=>Look st
 | .sW ..,_,_,_=>False
def mU:Nat->List SV->fj
 |_,[]=>[]
 |i,v::a=>(i,v)::mU (i+1) a
def nO (st:cq) (a:List mM) (K:SV->Prop):Prop:=
 goK a λl=>match l with
  |[v]=>K v
  |l=>K (.bJ l)
where
 goK:List mM->(List SV->Prop)->Prop
  |[],K=>K []
  |r::a,K=>Oh r λv=>goK a λl=>K (v::l);Oh (r:mM) (K:SV->Prop):Prop:=match r.cell with
  |none=>K (jL st.env r.slot)
  |some n=>mq st.o (jL st.env r.slot) n K
def py (p:iR) (Λ:Nat->cC) (F:eZ) (args:List SV) (Q:SV->Prop):Prop:=
 wpS p 0 F.body Λ ⟨mU 0 args,[]⟩ λa b=>match a with
  | .exit _=>False
  | .goto _=>False
  |_=>nO b F.res λr=>q9 b.o 6 r Q
def zo (p:iR) (Λ:Nat->cC) (F:eZ) (args:List SV) (o:bZ) (Q:SV->bZ->Prop):Prop:=
 wpS p o.length F.body Λ ⟨mU 0 args,o⟩ λb a=>match b with
  | .exit _=>False
  | .goto _=>False
  |_=>nO a F.res λr=>if r.cj o.length&&a.o.all (λx=>x.cj o.length)&&decide (o.length<=a.o.length) then Q r (a.o.take o.length) else False
def gE (env:fj):js:=env.map λp=>(p.1,p.2.g)
def gO (o:bZ):Store:=o.map bq.g
def cq.g (st:cq):St:=⟨gE st.env,gO st.o⟩
theorem nP:∀(env:fj) (s:Nat),dL (gE env) s=(jL env s).g
 |[],_=>by simp[gE,dL,jL,γE];|p::r,s=>by
  have:=nP r s;grind[gE,dL,jL]
theorem Oi (env:fj) (d:Option Nat) (v:SV):gE (uY env d v)=oq (gE env) d v.g:=by
 cases d<;>simp[uY,oq,gE]
theorem Oj (v:Value):(SV.oK v).g= .sc v:=by cases v<;>simp[SV.oK,γE]
theorem Gy (l:List Value):(l.map SV.oK).map γE=l.map .sc:=by simp[Oj]
theorem zp (env:fj) (x:Operand):eF (gE env) x=(jw env x).g:=by
 cases x with
 |tmp t=>simp[eF,jw,nP];|const v=>
  cases v<;>simp[eF,jw,AV.uA,SV.uA,γE];split<;>simp[γE,fU,Oj];|global g=>simp[eF,jw,γE];|func f=>simp[eF,jw,γE,gL]
theorem Ol (env:fj):eF (gE env)=λx=>(jw env x).g:=funext λx=>zp env x
theorem Cb (v:SV):v.g.cellsOf=gL v.cellsOf:=by
 cases v<;>simp[γE,AV.cellsOf,SV.cellsOf,gL]
theorem Yi (v:SV):v.g.one=v.one:=by
 cases v<;>simp[γE,AV.one,SV.one,Value.oneCell']
theorem Cc (l:List SV):eJ (gL l)=xd l:=by
 induction l<;>grind[gL,eJ,xd,Yi]
theorem Gz:∀(l:List SV),zg l=true->dr (gL l)=true
 |[],_=>by simp[gL,dr];|v::l,h=>by
  simp only[zg,ζ] at h;simp only[gL,dr,Gz l h.2,γ8];have a:=h.1;cases v<;>simp[SV.pure] at a<;>simp[γE,AV.pure,oJ]
mutual
theorem zq (k:Nat):∀(v:SV),v.g.cj k=v.cj k
 | .agg c=>by simp only[γE,AV.cj,SV.cj];exact vg k c;| .bJ c=>by simp only[γE,AV.cj,SV.cj];exact vg k c;| .fn _ a b=>by simp only[γE,AV.cj,SV.cj,vg k a,vg k b];| .ud| .sc _| .il .. | .si .. | .bl _| .sb _| .row .. | .ep .. | .ptr .. | .ap .. | .rp .. | .ow .. | .os .. | .oc .. | .mp _| .ia _ _| .ite _ _ _=>by simp[γE,AV.cj,SV.cj]
theorem vg (k:Nat):∀(l:List SV),ei k (gL l)=rU k l
 |[]=>by simp[gL,ei,rU];|v::l=>by simp only[gL,ei,rU,zq k v,vg k l]
end
theorem Yj (k:Nat) {b sv:bp} (c:Bool) (es:List (b.T×sv.T)):ei k ((es.map λp=>(px b c p.1,mQ sv p.2)).map (·.2))=true:=
 Gl λa h=>by
  simp only[δg,γa,Function.comp] at h;grind[mQ,AV.cj]
theorem Cd (k:Nat) (x:bq):x.g.cj k=x.cj k:=by
 cases x with
 |dead=>rfl;|cells n e m d=>simp[bq.g,bR.cj,bq.cj,vg];|row s l e d=>simp[bq.g,bR.cj,bq.cj,N7];|oH s l e t=>
  have c:∀a b:List AV,ei k (a++b)=(ei k a&&ei k b):=λa b=>by
   induction a<;>grind[ei]
  grind[bq.g,bR.cj,bq.cj,N7,vg];|map i o f j h d=>simp only[bq.g,bR.cj,bq.cj,Yj,Bool.or_true]
mutual
theorem Om:∀(v:SV),v.kO=true->v.g.kO=true
 | .agg a,h=>by simp only[SV.kO] at h;simp only[γE,AV.kO];exact GF a h;| .bJ a,h=>by simp only[SV.kO] at h;simp only[γE,AV.kO];exact GF a h;| .ud,_| .sc _,_| .il ..,_| .si ..,_| .bl _,_| .sb _,_=>by simp[γE,AV.kO];| .row ..,h| .ep ..,h| .ptr ..,h| .ap ..,h| .rp ..,h| .ow ..,h| .os ..,h| .oc ..,h| .mp _,h| .fn ..,h| .ia _ _,h| .ite _ _ _,h=>by simp[SV.kO] at h
theorem GF:∀(l:List SV),B6 l=true->uI (gL l)=true
 |[],_=>by simp[gL,uI];|v::l,h=>by
  simp only[B6,ζ] at h;simp only[gL,uI,Om v h.1,GF l h.2,γ8]
end
theorem jM (l:List SV):(gL l).length=l.length:=by simp[fU]
theorem tJ (l:List SV) (i:Nat):(gL l)[i]?=(l[i]?).map γE:=by simp[fU]
theorem vh (a b:List SV):gL (a++b)=gL a++gL b:=by simp[fU]
theorem Ce {cs:List SV} {a:Nat} {n:Option Nat} {v:SV} (h:rV cs a n=some v):gj (gL cs) a n=some v.g:=by
 cases n with
 |none=>grind[rV,gj,tJ];|some m=>
  simp only[rV] at h;split at h
  ·rename_i b;simp only[γ] at h;subst h;simp_all[gj,γE,fU]
  ·cases h
theorem zr:∀(vs cs:List SV) (a:Nat),gL (tu cs a vs)=fQ (gL cs) a (gL vs)
 |[],cs,a=>by simp[tu,gL,fQ];|v::vs,cs,a=>by
  simp only[tu,gL,fQ];rw[zr vs];simp_all[fU]
theorem GG (cs:List SV):gL (cs.map SV.qn)=(gL cs).map AV.qn:=by
 simp_all[fU,Yf]
theorem GH (pu:Bool) (cs:List SV):gL (if pu then cs.map SV.qn else cs)=eC pu (gL cs):=by
 grind[eC,GG]
theorem Yk {c:AV} (h:Plain c.qn):c.one=true/\c.pure=true:=by
 by_cases a:c.qn=c
 ·rw[a] at h;exact⟨h.one,h.pure⟩
 ·unfold AV.qn at a;split at a;·exact⟨rfl,rfl⟩
  simp_all
theorem GI {pu:Bool} {cs:List AV} (h:∀c∈eC pu cs,Plain c):eJ cs=true/\dr cs=true:=by
 have b:∀c∈cs,c.one=true/\c.pure=true:=by
  intro c a;unfold eC at h;split at h;·grind[Yk]
  ·exact⟨(h c a).one,(h c a).pure⟩
 grind[eJ,B2]
theorem GK:∀(vs a b c:List AV) (d:Nat),d+vs.length<=b.length->fQ (a++b++c) (a.length+d) vs=a++fQ b d vs++c
 |[],a,b,c,d,_=>rfl
 |v::vs,a,b,c,d,h=>by
  simp only[γB] at h;simp only[fQ];have e:(a++b++c).set (a.length+d) v=a++b.set d v++c:=by
   grind
  rw[e,ζD,GK vs a (b.set d v) c (d+1) (by simp;omega)]
theorem On {s:bp} {l:List s.T} {i:Nat} (h:i<l.length):cE s l=cE s (l.take i)++dB s (bj l i s.dflt)++cE s (l.drop (i+1)):=by
 have a:l=l.take i++l[i]::l.drop (i+1):=by simp
 grind[cV,cE]
theorem take_len {a:Type} {l:List a} {i:Nat} (h:i<l.length):(l.take i).length=i:=by simp;omega
theorem Yl {s:bp} {l:List s.T} {i a:Nat} {v:s.T} {vs:List AV} (h:i<l.length) (e:a+vs.length<=s.sz) (c:fQ (dB s (bj l i s.dflt)) a vs=dB s v):
  fQ (cE s l) (i*s.sz+a) vs=cE s (l.set i v):=by
 have d:(cE s (l.take i)).length=i*s.sz:=by rw[fi,take_len h]
 rw[On h,<-d,GK _ _ _ _ _ (by grind[lK]),c];have b:i<(l.set i v).length:=by simpa using h
 rw[On b,cV b];simp[List.take_set_of_le,List.drop_set_of_lt]
theorem Oo {s:bp} {l:List s.T} {i b:Nat} {n:Option Nat} {v:SV} (h:i<l.length) (e:rV (encS s (bj l i s.dflt)) b n=some v):gj (cE s l) (i*s.sz+b) n=some v.g:=by
 have a:=Ce e;rw[fU,tt] at a;have c:=Yg (s:=s) h;have d:(cE s l).length=i*s.sz+(s.sz+(cE s (l.drop (i+1))).length):=by
  have:=congrArg γf c;grind[lK]
 cases n with
 |none=>
  simp only[gj] at a ⊢;rw[<-List.getElem?_drop,c,List.getElem?_append_left]<;>grind;|some m=>
  simp only[gj,lK] at a;split at a
  ·rename_i f;simp only[gj];rw[if_pos (by omega),<-δi,c,List.drop_append_of_le_length (by grind[lK]),List.take_append_of_le_length (by grind[lK])];exact a
  ·cases a
theorem jg {b:Type} {x:Option b} {K:b->Prop} (h:iT x K):∃a,x=some a/\K a:=by
 cases x with
 |none=>exact h.elim;|some a=>exact⟨a,rfl,h⟩
theorem GL (o:bZ) (i:Nat):(gO o)[i]?=(o[i]?).map bq.g:=by simp[gO]
theorem nQ (o:bZ):(gO o).length=o.length:=by simp[gO]
theorem ql (o:bZ) (i:Nat) (x:bq):gO (o.set i x)=(gO o).set i x.g:=by simp[gO]
theorem fD {o:bZ} {i:Nat} {x:bq} (h:o[i]?=some x):(gO o)[i]?=some x.g:=by grind[GL]
theorem Oq:∀{cs:List SV} {l:List Int},ints cs=some l->cs.length=l.length/\∀i,i<l.length->(cs[i]?).map γE=some (.sc (.int .i64 (bj l i 0))):=by
 intro cs l h;have a:=BZ h;have c:cs.length=l.length:=by simpa using congrArg γf a
 refine⟨c,λi b=>?_⟩;have:=congrArg (λl=>l[i]?) a;simp only[List.getElem?_map] at this;rw[this,ν b,cV b];rfl
theorem Ot:∀{cs:List SV} {l:List (List Off)},mq.rowsOff cs=some l->cs.length=l.length/\∀i,i<l.length->cs[i]?=some (.row .off (bj l i []))
 |[],l,h=>by grind[mq.rowsOff];|c::cs,l,h=>by
  cases c with
  |row s x=>
   cases s<;>simp only[mq.rowsOff,reduceCtorEq] at h;obtain⟨e,a,rfl⟩:=ε.1 h;obtain⟨b,d⟩:=Ot a;grind[bj];|_=>simp[mq.rowsOff] at h
theorem Ym {cs:List SV} {sz i:Nat} {n:Option Nat} {K:SV->Prop} (h:mq.zh cs sz i n K) (d:i*sz<cs.length):∃v,gj (gL cs) (i*sz) n=some v.g/\K v:=by
 unfold mq.zh at h;split at h
 ·rw[Nat.mul_one] at d ⊢;split at h
  ·rename_i l a;obtain⟨b,c⟩:=Oq a;grind[gj,tJ,γE]
  ·split at h
   ·rename_i l a;obtain⟨b,c⟩:=Ot a;grind[gj,tJ]
   simp_all
 simp_all
theorem Yn {cs:List AV} {base a m:Nat} {v:AV} (h:gj ((cs.drop base).take m) a none=some v):gj cs (base+a) none=some v:=by
 grind[gj]
theorem Ou {o:bZ} {a:SV} {n:Option Nat} {K:SV->Prop} (h:mq o a n K):∃cs b v,behind (gO o) a.g=some (cs,b)/\gj cs b n=some v.g/\K v:=by
 cases a with
 |ptr x b t=>
  simp only[mq] at h;split at h
  ·rename_i cs e f z y;split at h
   ·rename_i D;obtain⟨v,k,j⟩:=jg h;exact⟨gL cs,b,v,by simp_all[behind,γE,fD,bq.g,jM],Ce k,j⟩
   simp_all
  simp_all;|ap x c f d t i=>
  simp only[mq] at h;split at h
  ·rename_i cs e A z y;split at h
   ·rename_i D;obtain⟨C,p⟩:=h;have w:(i+1)*f<=d*f:=γG _ C;rw[Nat.succ_mul] at w;have F:f*d=d*f:=Nat.mul_comm ..;by_cases E:f=0;·grind[mq.zh]
    ·have q:i*f<((cs.drop c).take (f*d)).length:=by grind
     obtain⟨v,k,j⟩:=Ym p q;have B:n=none:=by
      grind[mq.zh]
     subst B;refine⟨gL cs,c+i*f,v,by simp_all[behind,γE,fD,bq.g,jM],?_,j⟩;have:gL ((cs.drop c).take (f*d))=((gL cs).drop c).take (f*d):=by simp[fU]
     grind[Yn]
   simp_all
  simp_all;|ep s l i b=>
  simp only[mq] at h;obtain⟨u,p⟩:=h;obtain⟨v,k,j⟩:=jg p;exact⟨cE s l,i*s.sz+b,v,by simp[behind,γE],Oo u k,j⟩;|rp x i b m f=>
  simp only[mq] at h;split at h
  ·rename_i s l e z y;split at h
   ·rename_i r;subst r;obtain⟨w,u,p⟩:=h;obtain⟨v,k,j⟩:=jg p;exact⟨cE s l,i*s.sz+b,v,by simp_all[behind,γE,fD,bq.g,fi],Oo u k,j⟩
   simp_all
  simp_all;|_=>simp only[mq] at h
theorem Ov (o:Store) (d:Nat) {v:Value} (h:v≠ .slice none 0 0):freeze o d (.sc v)=some (.sc v):=by
 grind[freeze]
theorem Ox (o:Store) (d:Nat) {a:AV} (h:Plain a):freeze o d a=some a:=by
 rcases h with⟨v,rfl,_,h⟩|⟨n,b,rfl,_⟩<;>grind[Ov,freeze]
theorem GM {f:AV->Option AV}:∀{l:List AV},(∀a∈l,f a=some a)->l.mapM f=some l
 |[],_=>by simp;|a::l,h=>by simp[List.mapM_cons,h a (by simp),GM (l:=l) λb c=>h b (by simp[c])]
theorem xk {o:Store} {d:Nat} {f:SV->(SV->Prop)->Prop} (c:∀v K,f v K->∃b:SV,freeze o d v.g=some b.g/\K b):
  ∀{l:List SV} {K:List SV->Prop},u7 f l K->∃a,(gL l).mapM (freeze o d)=some (gL a)/\K a
 |[],K,h=>⟨[],by simp[gL],h⟩
 |v::l,K,h=>by
  obtain⟨b,j,i⟩:=c v _ h;obtain⟨a,k,e⟩:=xk c i;exact⟨b::a,by simp_all[gL],e⟩
theorem zt {s:bp} {l:List s.T} {b a:Nat}:((cE s l).drop (b*s.sz)).take (a*s.sz)=cE s ((l.drop b).take a):=by
 rw[Gm,N9]
theorem GN {o:bZ}:∀{d:Nat} {v:SV} {K:SV->Prop},q9 o d v K->∃y,freeze (gO o) d v.g=some y.g/\K y:=by
 intro d;induction d with
 |zero=>
  intro v K h;cases v<;>simp only[q9] at h<;>grind[q9,γE,freeze,cE,Ov];|succ d p=>
  intro v K h;cases v<;>simp only[q9] at h;case sc v=>
   grind[γE,freeze,cE]
  case agg B=>
   obtain⟨A,z,r⟩:=xk (λv K m=>p m) h;grind[γE,freeze]
  case bJ B=>
   obtain⟨A,z,r⟩:=xk (λv K m=>p m) h;grind[γE,freeze]
  case fn f a b=>
   obtain⟨I,z,r⟩:=xk (λv K m=>p m) h;obtain⟨J,L,H⟩:=xk (λv K m=>p m) r;grind[γE,freeze]
  case ow E n F=>
   split at h
   ·rename_i s l e G w;split at h
    ·rename_i k;obtain⟨rfl,t⟩:=h;subst k;refine⟨_,?_,t⟩;have i:(cE s l).mapM (freeze (gO o) d)=some (cE s l):=GM λa C=>by
      grind[Ox,mT]
     have D:ω (l.length*s.sz) (cE s l)=cE s l:=γn (by grind[fi]);simp_all[γE,freeze,fD,bq.g,fi,oJ]
    simp_all
   simp_all
  case os E j c n F=>
   split at h
   ·rename_i s l e G w;split at h
    ·rename_i k;obtain⟨rfl,u,t⟩:=h;subst k;refine⟨_,?_,t⟩;have i:(cE s ((l.drop j).take c)).mapM (freeze (gO o) d)=some (cE s ((l.drop j).take c)):=GM λa C=>by
      grind[Ox,mT]
     have x:(j+c)*s.sz<=l.length*s.sz:=γG _ u;rw[εa] at x;have q:((l.drop j).take c).length=c:=by simp;omega
     simp only[γE,freeze,fD w,bq.g,fi,x,and_self,if_true,zt,i,oJ,q];simp_all
    simp_all
   simp_all
  all_goals grind[γE,freeze]
theorem Cf {k:IntKind} {n:Int} (h:cn k n):eV k n=n:=by
 cases k<;>simp only[cn,eV] at h ⊢<;>simp_all
theorem mV {c:Prop} [Decidable c] {A:Prop} (h:if c then A else False):c/\A:=by
 simp_all
theorem agy {b:Int} {k:Nat} (h:b<=k):min b.toNat k=b.toNat:=by omega
theorem Yo (a b:Int):(a==b)=decide (a=b):=rfl
theorem Yp (a b:Int):(a !=b)=decide (a≠b):=by
 grind
theorem zu {k:IntKind} {n:Int} {K:Int->Prop} (h:uZ k n K):K (eV k n):=by
 have a:k= .u32->eV k n=n % 4294967296:=by
  grind[s9,IntKind.wrap,IntKind.bits,IntKind.signed]
 have b:k= .u64->eV k n=n % 18446744073709551616:=by
  grind[s9,IntKind.wrap,IntKind.bits,IntKind.signed]
 unfold uZ at h;grind[Cf]
theorem go_sound {e:BinOp} {k i:IntKind} {a b:Int} {K:SV->Prop} (h:gY.go e K k a i b):∃v f:_,gV e (.int k a) (.int i b)=some v/\f.g= .sc v/\K f:=by
 cases e<;>simp only[gY.go] at h;case shl=>
  obtain⟨j,m,l⟩:=h;refine⟨.int k (eV k (a*2^b.toNat)),.si k (eV k (a*2^b.toNat)),?_,rfl,zu l⟩;simp_all[gV,FB]
 case shr=>
  obtain⟨j,m,n⟩:=h;refine⟨.int k (a / 2^b.toNat),_,?_,rfl,n⟩;have:a.fdiv (2^b.toNat)=a / 2^b.toNat:=Int.fdiv_eq_ediv_of_nonneg _ (by grind);simp_all[gV,FB]
 case add=>
  obtain⟨d,c⟩:=mV h;subst d;exact⟨.int k (eV k (a+b)),.si k (eV k (a+b)),by simp only[gV,if_true,k9],rfl,zu c⟩
 case sub=>
  obtain⟨d,c⟩:=mV h;subst d;exact⟨.int k (eV k (a - b)),.si k (eV k (a - b)),by simp only[gV,if_true,k9],rfl,zu c⟩
 case mul=>
  obtain⟨d,c⟩:=mV h;subst d;exact⟨.int k (eV k (a*b)),.si k (eV k (a*b)),by simp only[gV,if_true,k9],rfl,zu c⟩
 case quo=>
  obtain⟨d,c⟩:=mV h;subst d;exact⟨.int k (a.tdiv b),_,by simp_all[gV,k9,Cf],rfl,c.2.2⟩
 case rem=>
  obtain⟨d,c⟩:=mV h;subst d;exact⟨.int k (a.tmod b),_,by simp_all[gV,k9],rfl,c.2⟩
 case and=>
  obtain⟨d,c⟩:=mV h;subst d;exact⟨.int k (gY.vd k a b),_,by simp only[gV,if_true,k9,gY.vd],rfl,c⟩
 case or=>
  obtain⟨d,c⟩:=mV h;subst d;exact⟨.int k (gY.nK k a b),_,by simp only[gV,if_true,k9,gY.nK],rfl,c⟩
 case xor=>
  obtain⟨d,c⟩:=mV h;subst d;exact⟨.int k (gY.Gn k a b),_,by simp only[gV,if_true,k9,gY.Gn],rfl,c⟩
 case andNot=>
  obtain⟨d,c⟩:=mV h;subst d;exact⟨.int k (gY.B7 k a b),_,by simp only[gV,if_true,k9,gY.B7],rfl,c⟩
 case eql=>
  obtain⟨d,c⟩:=mV h;subst d;exact⟨.bool (decide (a=b)),_,by simp_all[gV,k9,Yo],rfl,c⟩
 case neq=>
  obtain⟨d,c⟩:=mV h;subst d;exact⟨.bool (decide (a≠b)),_,by simp_all[gV,k9,Yp],rfl,c⟩
 case lss=>
  obtain⟨d,c⟩:=mV h;subst d;exact⟨.bool (decide (a<b)),_,by simp only[gV,if_true,k9],rfl,c⟩
 case leq=>
  obtain⟨d,c⟩:=mV h;subst d;exact⟨.bool (decide (a<=b)),_,by simp only[gV,if_true,k9],rfl,c⟩
 case gtr=>
  obtain⟨d,c⟩:=mV h;subst d;exact⟨.bool (decide (b<a)),_,by simp only[gV,if_true,k9],rfl,c⟩
 case geq=>
  obtain⟨d,c⟩:=mV h;subst d;exact⟨.bool (decide (b<=a)),_,by simp only[gV,if_true,k9],rfl,c⟩
theorem Yq {j:BinOp} {x y:SV} {K:SV->Prop} (h:gY j x y K):∃a b v c,x.g= .sc a/\y.g= .sc b/\gV j a b=some v/\c.g= .sc v/\K c:=by
 unfold gY at h;split at h
 ·split at h;·rename_i i;exact⟨_,_,_,_,rfl,rfl,i,rfl,h⟩
  ·rename_i i;exact⟨_,_,_,_,rfl,rfl,i,rfl,h⟩
  simp_all
 ·obtain⟨v,c,d,e,f⟩:=go_sound h;exact⟨_,_,v,c,rfl,rfl,d,e,f⟩
 ·obtain⟨v,c,d,e,f⟩:=go_sound h;exact⟨_,_,v,c,rfl,rfl,d,e,f⟩
 ·obtain⟨v,c,d,e,f⟩:=go_sound h;exact⟨_,_,v,c,rfl,rfl,d,e,f⟩
 ·split at h;·exact⟨_,_,_,_,rfl,rfl,by grind[gV],rfl,h⟩
  ·exact⟨_,_,_,_,rfl,rfl,by grind[gV],rfl,h⟩
  simp_all
 simp_all
theorem zw {k:IntKind} {a b:Int}:seq1 (.int k a) (.int k b)=some (decide (a=b)):=by
 simp only[seq1,if_true,γ];rfl
theorem Yr {x y:SV} {r:Bool} (h:Gp x y=some r):∃a b,x.g= .sc a/\y.g= .sc b/\seq1 a b=some r:=by
 cases x<;>simp only[Gp,reduceCtorEq] at h;all_goals
  obtain⟨b,c,rfl⟩:=ε.1 h;first
   |exact⟨_,_,rfl,iK c,zw⟩;|exact⟨_,_,rfl,w9 c,by simp[seq1]⟩
theorem Oy:∀{x y:List SV} {r:Bool},tC x y=some r->∃a b,gL x=a.map .sc/\gL y=b.map .sc/\gk a b=some r
 |[],[],r,h=>by simp[tC] at h;subst h;exact⟨[],[],rfl,rfl,rfl⟩;|[],_::_,r,h=>by grind[tC];|_::_,[],r,h=>by grind[tC];|x::l,y::n,r,h=>by
  simp only[tC] at h;split at h
  ·rename_i a b e f;simp only[γ] at h;subst h;obtain⟨u,v,g,j,k⟩:=Yr e;obtain⟨d,c,i,o,m⟩:=Oy f;exact⟨u::d,v::c,by grind[gL],by grind[gL],by grind[gk]⟩
  ·cases h
theorem GQ:∀(l:List Value),rM (l.map .sc)=some l
 |[]=>rfl
 |v::l=>by simp[rM,GQ l]
theorem tK:∀{a b:List Value},a.map δd=b.map δd->a=b
 |[],[],_=>rfl
 |[],_::_,h=>by simp at h;|_::_,[],h=>by simp at h;|x::a,y::b,h=>by
  simp only[ξ,Δ,γ9] at h;rw[h.1,tK h.2]
theorem vi:∀{e:List Nat} {x:List SV} {a:List Value},lj e x=true->gL x=a.map .sc->eD e a=true
 |[],[],a,_,h=>by
  cases a with
  |nil=>rfl;|cons a i=>simp[gL] at h
 |[],_::_,a,h,_=>by grind[lj];|_::_,[],a,h,_=>by grind[lj];|k::e,x::j,a,h,f=>by
  cases a with
  |nil=>grind[gL];|cons a i=>
   simp only[gL,ξ,Δ] at f;obtain⟨c,d⟩:=f;match k,x,h with
   |0,.si k n,h=>simp only[lj] at h;simp only[γE,γ9] at c;subst c;simpa[eD] using vi h d;|0,.il k n,h=>simp only[lj] at h;simp only[γE,γ9] at c;subst c;simpa[eD] using vi h d;|1,.sb b,h=>simp only[lj] at h;simp only[γE,γ9] at c;subst c;simpa[eD] using vi h d;|1,.bl b,h=>simp only[lj] at h;simp only[γE,γ9] at c;subst c;simpa[eD] using vi h d
theorem Ys {c:List Nat} {a b:List SV} {r:Bool} (d:(lj c a&&lj c b)=true) (h:tC a b=some r):wy c (gL a) (gL b)=some r:=by
 obtain⟨u,v,f,e,g⟩:=Oy h;simp only[ζ] at d;rw[f,e];simp only[wy,GQ,vi d.1 f,vi d.2 e,Bool.and_self,if_true,g]
theorem Yt {s s':bp} {l:List s.T} {a:List s'.T} (h:iJ s s' l=some a):s=s'/\HEq l a:=by
 unfold iJ at h;grind
theorem zx {s s':bp} {l:List s.T} {l':List s'.T} (h:iJ s s' l=some l'):s'=s/\cE s' l'=cE s l/\l'.length=l.length:=by
 grind[Yt]
theorem GR:∀{a:List (Nat×Nat×SV)} {cs b:List SV},rW a cs=some b->li (a.map λq=>(q.1,q.2.1,q.2.2.g)) (gL cs)=some (gL b)
 |[],cs,b,h=>by simp[rW] at h;subst h;rfl;|(d,n,v)::r,cs,b,h=>by
  simp only[rW] at h;split at h
  ·rename_i c;obtain⟨i,f,e⟩:=c;have:=GR h;simp_all[li,Cb,jM,Cc,zr]
  ·cases h
theorem Ci {s:bp}:∀{n:Nat} {cs:List SV} {l:List s.T},tB s n cs=some l->gL cs=cE s l/\l.length=n
 |0,[],l,h=>by grind[tB,gL,cE];|0,_::_,l,h=>by simp[tB] at h;|n+1,cs,l,h=>by
  simp only[tB] at h;split at h
  ·rename_i x f a b;simp only[γ] at h;subst h;obtain⟨d,c⟩:=Ci b;have e:=nJ a;refine⟨?_,by simp[c]⟩;rw[fU] at d ⊢;conv=>lhs;rw[<-γH s.sz cs]
   grind[cE]
  ·cases h
theorem Yu {o:bZ} {s:bp} {x:SV} {K:List s.T->Prop} (h:u9 o s x K):∃l,mL (gO o) s.sz x.g=some (l.length,cE s l)/\K l:=by
 cases x with
 |row q l=>
  simp only[u9] at h;obtain⟨f,c,w⟩:=jg h;obtain⟨rfl,p,m⟩:=zx c;exact⟨f,by simp_all[γE,mL,fi],w⟩;|ow y n u=>
  simp only[u9] at h;split at h
  ·rename_i q l e A B;split at h
   ·rename_i b;subst b;obtain⟨rfl,k⟩:=h;obtain⟨f,c,i⟩:=jg k;obtain⟨rfl,p,m⟩:=zx c;refine⟨f,?_,i⟩;have t:ω (l.length*s.sz) (cE s l)=cE s l:=γn (by grind[fi]);simp_all[γE,mL,fD,bq.g,fi]
   simp_all
  simp_all;|os y d a n u=>
  simp only[u9] at h;split at h
  ·rename_i q l e A B;split at h
   ·rename_i b;subst b;obtain⟨rfl,j,k⟩:=h;obtain⟨f,c,i⟩:=jg k;obtain⟨rfl,p,m⟩:=zx c;refine⟨f,?_,i⟩;have r:(d+a)*s.sz<=l.length*s.sz:=γG _ j;rw[εa] at r;have z:((l.drop d).take a).length=a:=by simp;omega
    simp_all[γE,mL,fD,bq.g,fi,zt]
   simp_all
  simp_all;|sc v=>
  grind[u9,γE,mL,cE];|_=>simp only[u9] at h
theorem GU {v:SV} {n:Int} (h:zi v=some n):ig v.g=some n:=by
 cases v<;>simp[zi] at h<;>simp[γE,ig,h]
theorem pz {d:Nat} {x:Option SV} {K:Nat->Prop} (h:nM d x K):∃n,ik d (x.map γE)=some n/\K n:=by
 unfold nM at h;grind[γE,ik]
theorem vj {bE:Nat} {x:bq} {o:bZ} {K:bZ->Prop} (h:mkK bE x o K):∃o',kM bE x.g (gO o)=some (gO o')/\K o':=by
 grind[mkK,kM,fD,bq.g,ql]
theorem Yv {s:bp} (e:s.keyed=true) (x y:s.T):gk (dJ s x) (dJ s y)=some (decide (x=y)):=by
 cases s<;>simp only[bp.keyed,reduceCtorEq] at e;·grind[dJ,gk,zw]
 ·obtain⟨b,⟨m,o,a,l,c,i⟩⟩:=x;obtain⟨g,⟨k,h,j,n,d,f⟩⟩:=y;simp_all[dJ,iv,gk,zw]
 ·obtain⟨b,⟨m,o,a,l,c,i⟩,⟨C,t,B,A,D,w⟩⟩:=x;obtain⟨g,⟨k,h,j,n,d,f⟩,⟨p,z,r,u,v,q⟩⟩:=y;simp only[dJ,iv,gk,zw,γ,γ8];grind
theorem Yw {s:bp} {a:Bool} (d:s.keyed=true) (b:a=false->s.sz=1) (x y:s.T):keq (px s a x) (px s a y)=some (decide (x=y)):=by
 cases a with
 |true=>grind[px,keq,Yv];|false=>
  have c:=b rfl;cases s<;>simp only[bp.keyed,reduceCtorEq] at d<;>simp only[bp.sz,reduceCtorEq,Nat.reduceEqDiff] at c;simp_all[px,dJ,keq,zw]
theorem GV {a sv:bp} {c:Bool} (f:a.keyed=true) (e:c=false->a.sz=1) (x:a.T):∀(es:List (a.T×sv.T)) (i:Nat),
  ∃r,nE (px a c x) (es.map λp=>(px a c p.1,mQ sv p.2)) i=some r/\(match nL a sv x es with|some v=>∃j,r=some (i+j,mQ sv v)/\(∃p,es[j]?=some p/\p.1=x)/\(∀g<j,∀p,es[g]?=some p->p.1≠x)|none=>r=none/\∀p∈es,p.1≠x)
 |[],i=>⟨none,by simp[nE],by simp[nL]⟩
 |p::es,i=>by
  simp only[ξ,nE,Yw f e];by_cases b:p.1=x
  ·refine⟨some (i,mQ sv p.2),by simp[b],?_⟩;simp only[nL,List.find?_cons,b,decide_true,γl];exact⟨0,by simp,⟨p,by simp,b⟩,by simp⟩
  ·obtain⟨r,m,k⟩:=GV f e x es (i+1);have d:¬x=p.1:=λh=>b h.symm;refine⟨r,by simp[d,m],?_⟩;have n:nL a sv x (p::es)=nL a sv x es:=by grind[nL]
   rw[n];split at k
   ·obtain⟨j,w,⟨q,t,l⟩,o⟩:=k;refine⟨j+1,by grind,⟨q,by simp_all,l⟩,λg u s y=>?_⟩;grind
   grind
theorem GX {a sv:bp} {x:a.T} {v:sv.T}:∀{es:List (a.T×sv.T)},(∀p∈es,p.1≠x)->rX a sv x v es=es++[(x,v)]
 |[],_=>rfl
 |p::es,h=>by
  simp only[rX,if_neg (h p (by simp)),γy];rw[GX λq b=>h q (by simp[b])]
theorem Oz {a sv:bp} {x:a.T} {v:sv.T}:∀{es:List (a.T×sv.T)} {j:Nat},(∃p,es[j]?=some p/\p.1=x)->(∀b<j,∀p,es[b]?=some p->p.1≠x)->rX a sv x v es=es.modify j λ_=>(x,v)
 |[],j,⟨p,h,_⟩,_=>by simp at h;|p::es,0,⟨q,h,d⟩,_=>by
  grind[rX];|p::es,j+1,⟨q,h,d⟩,c=>by
  have g:=c 0 (by omega) p (by simp);simp only[rX,if_neg g,ζs];rw[Oz (j:=j) ⟨q,by simpa using h,d⟩ λb i e f=>c (b+1) (by omega) e (by simp_all)]
theorem OA {f:List Nat} {d:Bool} {s:bp} {v:SV} {x:s.T} (e:lj f v.cellsOf=true) (o:ve d v=true) (p:s.flat=true) (n:jK s v.cellsOf=some x):lh f d v.g=some (px s d x):=by
 have k:=nJ n;have c:gL v.cellsOf=(dJ s x).map .sc:=by grind[fU,BY]
 have i:=vi e c;by_cases l:∃h,v= .agg h
 ·obtain⟨h,rfl⟩:=l;simp_all[SV.cellsOf,ve,γE,lh,GQ,px]
 ·have b:d=false:=by
   simp_all[ve]
  subst b;have j:v.cellsOf=[v]:=by
   cases v<;>first|rfl|simp_all
  rw[j] at c;simp only[gL] at c;cases m:dJ s x with
  |nil=>simp_all;|cons a r=>
   rw[m] at c i;simp only[ξ,Δ] at c;simp_all[lh,px]
theorem OB {s:bp} (h:s.wZ=true) (x:s.T):((encS s x).headD .ud).g=mQ s x:=by
 cases s<;>simp[bp.wZ] at h<;>simp[encS,mQ,dJ,γE]
theorem OC {s:bp} (h:s.wZ=true) (x:s.T):dB s x=[mQ s x]:=by
 cases s<;>simp[bp.wZ] at h<;>simp[dB,mQ,dJ]
theorem OD {s:bp} (h:s.keyed=true):s.flat=true:=by
 cases s<;>simp[bp.keyed] at h<;>rfl
structure pA (call:dh) (C:Oa):Prop where
 pure:∀f args K,C.pure f args K->∃r:SV,call f (gL args) [] false=some (r.g,[])/\K r
 own:∀f args o K,C.own f args o K->∃(r:SV) (o':bZ),iI call f (gL args) (gO o)=some (r.g,gO o')/\K r o'
section
variable {call:dh} {p:iR} {o:bZ} {bE:Nat} {K:SV->bZ->Prop}
theorem GY (j:pA call p.C) {f:FuncId} {args:List SV} {own:Bool} (h:eO.zj p f args o own K):
  ∃(v:SV) (o':bZ),gw call f (gL args) (gO o) own=some (v.g,gO o')/\K v o':=by
 unfold eO.zj at h;split at h
 ·rename_i c;obtain⟨r,o',k,e⟩:=j.own _ _ _ _ h;exact⟨r,o',by simp_all[gw],e⟩
 ·rename_i c;have c:own=false:=by simp_all
  subst c;obtain⟨b,k,e⟩:=xk (o:=gO o) (d:=6) (λv K m=>GN m) h;obtain⟨r,l,i⟩:=j.pure _ _ _ e;split at i
  ·rename_i a;refine⟨r,o,?_,i⟩;simp only[gw,χ,if_false,k,l];rw[if_pos];simp only[δK] at a ⊢;rcases a with a|a
   ·left;rw[fU,List.flatMap_map];exact a
   grind[Om]
  simp_all
theorem Cj (ρ:Operand->SV) (l:List Operand):gL (l.map ρ)=l.map λx=>(ρ x).g:=by simp[fU]
theorem Yx {a:List (Nat×Nat×Operand)} {ρ:Operand->SV} {cs b:List SV} (h:rW (a.map λq=>(q.1,q.2.1,ρ q.2.2)) cs=some b):
  li (a.map λq=>(q.1,q.2.1,(ρ q.2.2).g)) (gL cs)=some (gL b):=by
 have:=GR h;grind[δn]
theorem GZ {a:List (Nat×Operand)} {sz:Nat} {ρ:Operand->SV} {cs b:List SV} (h:rW (a.map λq=>(q.1,sz,ρ q.2)) cs=some b):
  li (a.map λq=>(q.1,sz,(ρ q.2).g)) (gL cs)=some (gL b):=by
 have:=GR h;grind[δn]
theorem G0 (z:List Value):gL (z.map SV.oK)=z.map .sc:=by rw[fU,Gy]
theorem G2 (a:Nat) (z:List Value):gL ((δ a (z.map SV.oK)).flatten)=(δ a (z.map δd)).flatten:=by
 rw[fU,List.map_flatten,List.map_replicate,Gy]
theorem Yy (s:bp) (x:s.T) (n:Nat):(δ n (dB s x)).flatten=cE s (δ n x):=by
 induction n<;>grind[cE]
theorem zy {ρ:Operand->SV} (l:Option Operand):(l.map ρ).map γE=l.map λx=>(ρ x).g:=by cases l<;>rfl
theorem Yz:∀{l:List Int} {i:Nat} {v:Int},i<l.length->fQ (l.map λn=>δd (iv n)) 0 ((l.set i v).map λn=>δd (iv n))=(l.map λn=>δd (iv n)).set i (.sc (iv v)):=by
 intro l i v e;have d:∀(b a c:List AV),b.length=c.length->fQ (a++c) a.length b=a++b:=by
  intro b;induction b with
  |nil=>grind[fQ];|cons w b f=>
   intro a c h;cases c with
   |nil=>simp at h;|cons y c=>
    simp only[γB,ζb] at h;simp only[fQ];have:(a++y::c).set a.length w=(a++[w])++c:=by
     simp_all
    grind
 have:=d ((l.set i v).map λn=>δd (iv n)) [] (l.map λn=>δd (iv n)) (by simp);simp_all
theorem OE {b c:Type} (f:b->c) (x:b):∀(l:List b) (j:Nat),(l.modify j λ_=>x).map f=(l.map f).modify j λ_=>f x
 |[],j=>by simp;|a::l,0=>by simp_all;|a::l,j+1=>by simp only[ζs,ξ,OE f x l j]
theorem YA (v:Value):(δd v).cellsOf=[.sc v]:=rfl
theorem OG:∀{l:List Int} {i j:Nat} {v:Int},tG l (i+j) v j=l.set i v
 |[],_,_,_=>rfl
 |a::l,0,j,v=>by
  have h:∀(l:List Int) (c:Nat),j<c->tG l j v c=l:=by
   intro l;induction l with
   |nil=>intro _ _;rfl;|cons b l d=>intro c e;simp only[tG,if_neg (show ¬j=c by omega),d (c+1) (by omega)]
  simp_all[tG];|a::l,i+1,j,v=>by
  simp only[tG,if_neg (show ¬i+1+j=j by omega),List.set_cons_succ];rw[show i+1+j=i+(j+1) from by omega,OG]
theorem YB {ρ:Operand->SV} {n:Nat} {a x:Operand} (h:eO p (.store n a x) ρ o bE K):
  ∃(v:SV) (o':bZ),bK call (.store n a x) (λx=>(ρ x).g) (gO o) bE=some (v.g,gO o')/\K v o':=by
 simp only[eO] at h;split at h
 ·rename_i W b L B;split at h
  ·rename_i f e Y E z;split at h
   ·rename_i D;obtain⟨V,C,X,P,R⟩:=D;refine⟨.ud,_,?_,h⟩;simp only[bK,B,γE,fD z,bq.g,Cb,jM,Cc];rw[if_pos ⟨V,C,X,P,R.imp (λq=>q) λhp=>Gz _ hp⟩,ql,bq.g,zr,GH]
   simp_all
  simp_all
 ·rename_i W i b m Y B;split at h
  ·rename_i s l e E z;split at h
   ·rename_i D;obtain⟨rfl,C,X⟩:=D;obtain⟨rfl,N,P⟩:=h;obtain⟨v,hv,R⟩:=jg P;refine⟨.ud,_,?_,R⟩;have T:=nJ hv;rw[<-fU,zr,GH] at T;have O:gL (encS s (bj l i s.dflt))=dB s (bj l i s.dflt):=by rw[fU,tt]
    rw[O] at T;have y:(i+1)*s.sz<=l.length*s.sz:=γG _ N;rw[Nat.succ_mul] at y;have u:∀c∈eC E (gL (ρ x).cellsOf),Plain c:=by
     intro c hc;obtain⟨j,hj⟩:=List.mem_iff_getElem?.1 hc;have U:=(θ.1 hj).1;rw[s7,jM,C] at U;have a1:(fQ (dB s (bj l i s.dflt)) b (eC E (gL (ρ x).cellsOf)))[b+j]?=some c:=by
      have a0:∀(r f:List AV) (b j:Nat) (c:AV),r[j]?=some c->b+r.length<=f.length->(fQ f b r)[b+j]?=some c:=by
       intro r;induction r with
       |nil=>simp_all;|cons w r ih=>
        intro f b j c h M;simp only[γB] at M;simp only[fQ];cases j with
        |zero=>
         simp only[List.getElem?_cons_zero,γ] at h;subst h;have F:∀(r f:List AV) (Z k:Nat),k<Z->(fQ f Z r)[k]?=f[k]?:=by
          intro r;induction r<;>grind[fQ]
         grind;|succ j=>
         have:=ih (f.set b w) (b+1) j c (by simpa using h) (by simp;omega);grind
      grind[s7,jM,lK]
     grind[zf]
    obtain⟨G,Q⟩:=GI u;simp only[bK,B,γE,fD z,bq.g,Cb,fi,jM];rw[if_pos ⟨trivial,C,G,by omega,.inr Q⟩,ql,bq.g,Yl N (by grind[s7,jM]) T]
   simp_all
  simp_all
 ·rename_i W d Y t L i B;split at h
  ·rename_i f e a3 E z;split at h
   ·rename_i v H;split at h
    ·rename_i l M;split at h
     ·rename_i D;obtain⟨V,C⟩:=D;rw[show tG l i v 0=l.set i v from OG (j:=0)] at h;obtain⟨N,hk⟩:=h;refine⟨.ud,_,?_,hk⟩;have S:(ρ x).cellsOf=[ρ x]:=by
       cases hr:ρ x<;>rw[hr] at H<;>simp[SV.int] at H<;>rfl
      have I:(ρ x).g= .sc (iv v):=iK H;have A:=BZ M;have a2:l.length=t:=by
       have:=congrArg γf A;grind
      have J:gL f=gL (f.take d)++(l.map λn=>δd (iv n))++gL (f.drop (d+t)):=by
       rw[<-A,fU,fU,fU,<-γb,<-γb];congr 1;rw[<-δi,List.append_assoc,γH,γH]
      have a4:(gL (f.take d)).length=d:=by grind[jM]
      have hq:eC E [δd (iv v)]=[δd (iv v)]:=by unfold eC;split<;>rfl
      simp only[bK,B,γE,fD z,bq.g,I,YA,List.length_singleton,jM,hq];rw[if_pos ⟨V,trivial,by simp[eJ,AV.one,iv,Value.oneCell'],by omega,.inr (by simp[dr,AV.pure])⟩,ql,bq.g,zr];congr 4;have e1:gL ((l.set i v).map (SV.si .i64))=(l.set i v).map λn=>δd (iv n):=by
       rw[fU,δg];rfl
      rw[e1,J];have hm:=GK ((l.set i v).map λn=>δd (iv n)) (gL (f.take d)) (l.map λn=>δd (iv n)) (gL (f.drop (d+t))) 0 (by simp);grind[Yz,fQ]
     simp_all
    simp_all
   simp_all
  simp_all
 simp_all
theorem YC {ρ:Operand->SV} {e:TypeId} {sz b:Nat} {s x:Operand} {pu:Bool} (h:eO p (.append e sz b s x pu) ρ o bE K):
  ∃(v:SV) (o':bZ),bK call (.append e sz b s x pu) (λx=>(ρ x).g) (gO o) bE=some (v.g,gO o')/\K v o':=by
 simp only[eO] at h;split at h
 ·rename_i t tl U a;split at h
  ·rename_i S n G j m R k M;split at h
   ·rename_i O l Z I H;split at h
    ·rename_i F;obtain⟨rfl,q,rfl,rfl,rfl,rfl,i,w⟩:=F;obtain⟨rfl,C,y,B⟩:=h;rw[M] at a;unfold Ob at a;split at a
     ·rename_i j' W Y;injection Y with e1 N e3;subst e1 N e3;split at a
      ·rename_i s2 N L D;split at a
       ·rename_i A;injection a with a;subst a;refine⟨_,_,?_,B⟩;have E:mL (gO o) t.sz (.os j 0 1 (1*t.sz))=some (1,gL L):=by
         simp only[mL,fD D,bq.g,cE,ζn,δp,jM];rw[if_pos ⟨by omega,A,by omega⟩,δ8,γn (by grind[jM])]
        have J:eJ (gL L)=true:=by grind[Cc]
        simp only[bK,k,M,γE,pZ];simp only[E,J,ζE,if_false,fD H,bq.g,fi,q];rw[if_pos ⟨trivial,trivial,trivial,trivial,C,y,.inl trivial⟩,ql,bq.g];grind
       ·cases a
      ·cases a
     ·cases a
    simp_all
   simp_all
  simp_all
 ·rename_i t U _;split at h
  ·rename_i z;subst z;obtain⟨f,V,d⟩:=Yu h;have r:eJ (cE t f)=true:=B5 _ _;have c:dr (cE t f)=true:=oJ _ _;simp only[bK,pZ,V,r,ζE,if_false];split at d
   ·rename_i k;rw[k];simp only[γE];by_cases u:f.length=0;·exact⟨_,_,by simp only[u,if_true];rfl,d.1 u⟩
    ·obtain⟨q,i,w⟩:=d.2 u;obtain⟨o',P,Q⟩:=vj w;refine⟨_,o',?_,Q⟩;simp only[bq.g] at P;rw[if_neg u,if_pos ⟨q,i,.inr c⟩,P];rfl
   ·rename_i S n G k;split at d
    ·rename_i O l Z I H;split at d
     ·rename_i F;obtain⟨rfl,q,rfl⟩:=F;obtain⟨rfl,i,w,C⟩:=d;obtain⟨l',y,B⟩:=jg C;obtain⟨rfl,T,X⟩:=zx y;refine⟨_,_,?_,B⟩;rw[k];simp only[γE,fD H,bq.g,fi];rw[if_pos ⟨trivial,trivial,trivial,trivial,i,w,.inr c⟩,ql,bq.g,N8,T];grind
     simp_all
    simp_all
   ·rename_i O l k;obtain⟨q,i⟩:=d;refine⟨_,_,?_,i⟩;simp_all[γE]
   simp_all
  simp_all
 simp_all
theorem OH {mx:Bool} {a b:Int}:(if mx then(if b>a then b else a) else(if b<a then b else a))=if mx then max a b else min a b:=by
 grind
theorem YD (hC:pA call p.C) {op:cJ} {ρ:Operand->SV} (h:eO p op ρ o bE K):
  ∃(v:SV) (o':bZ),bK call op (λx=>(ρ x).g) (gO o) bE=some (v.g,gO o')/\K v o':=by
 cases op with
 |uB x=>exact⟨_,_,rfl,h⟩;|pick c a b=>
  simp only[eO] at h;split at h;·grind[bK,γE]
  ·grind[bK,γE]
  ·rename_i c hc;cases c<;>grind[bK,γE]
  simp_all;|alloc z e pu=>
  obtain⟨o',hm,hk⟩:=vj h;grind[bq.g,G0,bK,γE];|box e x=>
  simp only[eO] at h;split at h
  ·rename_i h1;obtain⟨o',hm,hk⟩:=vj h;simp only[bq.g] at hm;exact⟨_,o',by simp_all[bK,Cb,Cc,jM,γE],hk⟩
  simp_all;|build z parts=>
  simp only[eO] at h;obtain⟨cs,h1,h2⟩:=jg h;have:=Yx h1;grind[G0,bK,γE];|o9 z len parts e sz=>
  simp only[eO] at h;split at h
  ·rename_i s cs hs hf;split at h
   ·rename_i hsz;split at h
    ·rename_i hany;split at h
     ·rename_i hlen;obtain⟨o',hm,hk⟩:=vj h;simp only[bq.g,cE,ζn,δp] at hm;have hfa:=GZ hf;rw[G2] at hfa;refine⟨_,o',?_,hk⟩;subst hsz;have hp:dr (gL cs)=false:=by
       clear hf hfa hm hlen h;induction cs with
       |nil=>simp at hany;|cons c cs ih=>
        simp only[List.any_cons,δK] at hany;simp only[gL,dr];rcases hany with hc|hc
        ·have h9:c.g.pure=false:=by
          cases c<;>grind[γE,AV.pure,SV.Oc]
         simp_all
        simp_all
      simp_all[bK,eC,γE]
     simp_all
    obtain⟨l,h1,h2⟩:=jg h;obtain⟨h3,h4⟩:=Ci h1;obtain⟨o',hm,hk⟩:=vj h2;simp only[bq.g] at hm;have hfa:=GZ hf;rw[G2] at hfa;refine⟨_,o',?_,hk⟩;subst hsz;rw[GG] at h3;have hp:dr (gL cs)=true:=(GI (pu:=true) (cs:=gL cs) λc hc=>mT (s:=s) (l:=l) (by rw[<-h3];exact hc)).2;grind[eC,bK,γE]
   simp_all
  simp_all;|sU z len parts e sz=>
  simp only[eO] at h;split at h
  ·rename_i s cs hs hf;split at h
   ·rename_i hsz;obtain⟨l,h1,h2⟩:=jg h;obtain⟨h3,h4⟩:=Ci h1;have hfa:=GZ hf;rw[G2] at hfa;rw[GG] at h3;have hp:dr (gL cs)=true:=(GI (pu:=true) (cs:=gL cs) λc hc=>mT (s:=s) (l:=l) (by rw[<-h3];exact hc)).2;have hq:eC true (gL cs)=cE s l:=h3;exact⟨_,_,by simp_all[bK,γE],h2⟩
   simp_all
  simp_all;|load n a=>
  simp only[eO] at h;grind[Ou,bK];|store n a x=>exact YB h;|uC x=>
  simp only[eO] at h;grind[bK,γE];|bin op x y=>
  simp only[eO] at h;grind[Yq,bK];|beq neg x y=>
  simp only[eO] at h;split at h
  ·rename_i a b h1 h2;exact⟨_,_,by simp_all[bK,w9,γE],h⟩
  simp_all;|rK neg ks x y=>
  simp only[eO] at h;split at h
  ·rename_i a b h1 h2;split at h
   ·rename_i hk;obtain⟨r,hr,h3⟩:=jg h;grind[bK,γE,Ys]
   simp_all
  simp_all;|un op x=>
  simp only[eO] at h;split at h<;>grind[bK,γE,yO,Cf];|conv k x=>
  simp only[eO] at h;split at h;·grind[bK,γE]
  ·grind[bK,γE,Cf]
  ·rename_i kk n _ hx;exact⟨.si k (eV k n),_,by grind[bK,γE],zu h⟩
  simp_all;|uD off x=>
  simp only[eO] at h;grind[bK,γE,ov];|field off n x=>
  simp only[eO] at h;split at h
  ·rename_i cs hx;obtain⟨v,h1,h2⟩:=jg h;grind[bK,γE,Ce]
  simp_all;|uE len sz x i=>
  simp only[eO] at h;split at h
  ·rename_i k n hi;split at h
   ·rename_i hn;split at h;·rename_i hx;exact⟨_,_,by simp_all[bK,γE,ig,ov],h⟩
    ·rename_i hx;exact⟨_,_,by simp only[bK,hi,hx,γE,ig,if_pos hn,ov,γl,ζD],h⟩
    ·rename_i hx;exact⟨_,_,by simp only[bK,hi,hx,γE,ig,if_pos hn,ov,γl,ζD],h⟩
    simp_all
   simp_all
  ·rename_i k n hi;split at h;·rename_i hx;exact⟨_,_,by simp_all[bK,γE,ig,ov],h.2.2⟩
   simp_all
  simp_all;|rL sz x i=>
  simp only[eO] at h;split at h
  ·rename_i n hi;have hi:=GU hi;split at h
   ·rename_i s l hx;split at h
    ·rename_i hsz;subst hsz;obtain⟨h1,h2,h3⟩:=h;refine⟨_,_,?_,h3⟩;simp_all[bK,γE,pY,fi]
    simp_all
   ·rename_i id m sz' hx;split at h
    ·rename_i s l e pu ho;split at h
     ·rename_i hsz;obtain⟨rfl,rfl⟩:=hsz;obtain⟨rfl,h1,h2,h3⟩:=h;refine⟨_,_,?_,h3⟩;simp_all[bK,γE,pY,fD,bq.g,fi,po]
     simp_all
    simp_all
   ·rename_i id off len m sz' hx;split at h
    ·rename_i s l e pu ho;split at h
     ·rename_i hsz;obtain⟨rfl,rfl⟩:=hsz;obtain⟨rfl,h1,h2,h4,h3⟩:=h;refine⟨_,_,?_,h3⟩;have hm:(off+len)*s.sz<=l.length*s.sz:=γG _ h4;rw[εa] at hm;simp only[bK,hi,hx,γE,pY,fD ho,bq.g,fi];rw[po (by omega),if_pos ⟨trivial,trivial,h1,h2,hm⟩];grind
     simp_all
    simp_all
   ·rename_i id off len m sz' hx;split at h
    ·rename_i s l e pu ho;split at h
     ·rename_i hsz;obtain⟨rfl,rfl⟩:=hsz;obtain⟨rfl,h1,h2,h4,h3⟩:=h;refine⟨_,_,?_,h3⟩;have hm:(off+len)*s.sz<=l.length*s.sz:=γG _ h4;have hp:=Gj s;rw[εa] at hm;simp only[bK,hi,hx,γE,pY,fD ho,bq.g,fi];rw[By (by omega),show off*s.sz+(l.length*s.sz+s.sz) - l.length*s.sz - s.sz=off*s.sz by omega,if_pos ⟨trivial,trivial,h1,h2,hm⟩];grind
     simp_all
    simp_all
   simp_all
  simp_all;|idx len sz n x i=>
  simp only[eO] at h;split at h
  ·rename_i k' k cs hi hx;split at h
   ·rename_i hk;obtain⟨v,h1,h2⟩:=jg h;exact⟨_,_,by simp_all[bK,γE,ig,Ce],h2⟩
   simp_all
  ·rename_i k' k cs hi hx;split at h
   ·rename_i l _ _ hl;split at h
    ·rename_i hll;obtain⟨h1,h2,h3⟩:=h;refine⟨_,_,?_,h3⟩;obtain⟨h4,h5⟩:=Oq hl;simp_all[bK,γE,ig,gj,tJ]
    simp_all
   simp_all
  simp_all;|wv x i=>simp_all[eO];|pW z e sz bytes l c pu=>
  simp only[eO] at h;split at h
  ·rename_i n m s hn hm hs;have hn:=GU hn;have hm:=GU hm;split at h
   ·rename_i hsz;subst hsz;obtain⟨x,hx,h1,h2,h3,h4,h5⟩:=jg h;obtain⟨o',hmk,hk⟩:=vj h5;refine⟨_,o',?_,hk⟩;have hd:=nJ hx;rw[<-fU,GH,G0] at hd;simp_all[bq.g,bK,Yy,γE]
   simp_all
  simp_all;|slice sz x lo hi=>
  simp only[eO] at h;split at h
  ·rename_i s l hx;split at h
   ·rename_i hsz;subst hsz;obtain⟨a,ha,h1⟩:=pz h;obtain⟨b,hb,h2,h3,h4⟩:=pz h1;refine⟨_,_,?_,h4⟩;rw[zy] at ha hb;have hlen:((l.drop a).take (b - a)).length=b - a:=by simp;omega
    simp_all[bK,γE,qa,fi,zt]
   simp_all
  ·rename_i id m sz' hx;split at h
   ·rename_i s l e pu ho;split at h
    ·rename_i hsz;obtain⟨rfl,rfl⟩:=hsz;obtain⟨rfl,h⟩:=h;obtain⟨a,ha,h1⟩:=pz h;obtain⟨b,hb,h2,h3,h4⟩:=pz h1;refine⟨_,_,?_,h4⟩;rw[zy] at ha hb;simp_all[bK,γE,qa,fD,bq.g,fi]
    simp_all
   simp_all
  ·rename_i id off len m sz' hx;split at h
   ·rename_i s l e pu ho;split at h
    ·rename_i hsz;obtain⟨rfl,rfl⟩:=hsz;obtain⟨rfl,h⟩:=h;obtain⟨a,ha,h1⟩:=pz h;obtain⟨b,hb,h2,h3,h4⟩:=pz h1;refine⟨_,_,?_,h4⟩;rw[zy] at ha hb;simp only[bK,hx,γE,qa,ha,hb,fD ho,bq.g,fi];grind
    simp_all
   simp_all
  simp_all;|slice3 sz x lo hi mx=>
  simp only[eO] at h;split at h
  ·rename_i s l hx;split at h
   ·rename_i hsz;subst hsz;obtain⟨a,ha,h1⟩:=pz h;obtain⟨b,hb,h2⟩:=pz h1;obtain⟨m,hm,h3,h4,h5,h6⟩:=pz h2;refine⟨_,_,?_,h6⟩;rw[zy] at ha;simp only[γl] at hb hm;have hlen:((l.drop a).take (b - a)).length=b - a:=by simp;omega
    simp_all[bK,γE,rO,fi,zt]
   simp_all
  ·rename_i id n sz' hx;split at h
   ·rename_i s l e pu ho;split at h
    ·rename_i hsz;obtain⟨rfl,rfl⟩:=hsz;obtain⟨rfl,h⟩:=h;obtain⟨a,ha,h1⟩:=pz h;obtain⟨b,hb,h2⟩:=pz h1;obtain⟨m,hm,h3,h4,h5,h6⟩:=pz h2;refine⟨_,_,?_,h6⟩;rw[zy] at ha;simp only[γl] at hb hm;simp only[bK,hx,γE,rO,ha,hb,hm,fD ho,bq.g,fi];simp_all[Gj]
    simp_all
   simp_all
  simp_all;|uF x lo hi=>simp_all[eO];|append e sz bytes s x pu=>exact YC h;|len k x=>
  simp only[eO] at h;split at h;·grind[bK,γE,lg]
  ·grind[bK,γE,lg]
  ·grind[bK,γE,lg]
  ·grind[bK,γE,lg]
  ·grind[bK,γE,lg]
  ·grind[bK,γE,lg]
  ·rename_i id hx;split at h
   ·rename_i sk sv ka es kt pu ho;exact⟨_,_,by simp_all[bK,γE,lg,fD,bq.g],h⟩
   simp_all
  simp_all;|uG n=>exact⟨_,_,rfl,h⟩;|mm mx x y=>
  simp only[eO] at h;split at h
  ·rename_i hx hy;split at h
   ·rename_i hk;exact⟨_,_,by simp_all[bK,γE],h⟩
   simp_all
  ·rename_i k a hx;obtain⟨b,hb,h2⟩:=jg h;exact⟨_,_,by simp only[bK,hx,iK hb,γE,if_true,OH],h2⟩
  ·rename_i k a hx _;obtain⟨b,hb,h2⟩:=jg h;exact⟨_,_,by simp only[bK,hx,iK hb,γE,if_true,OH],h2⟩
  simp_all;|call f args own=>
  simp only[eO] at h;grind[GY,Cj,bK];|jI f args own=>
  simp only[eO] at h;grind[GY,vh,Cj,bK,γE];|extract x i=>
  simp only[eO] at h;split at h
  ·rename_i vs hx;obtain⟨v,h1,h2⟩:=jg h;grind[bK,γE,tJ]
  simp_all;|sV f first captured=>exact⟨_,_,by grind[bK,γE,Cj],h⟩;|uH t x=>
  simp only[eO] at h;split at h
  ·rename_i cs hx;split at h
   ·rename_i hp;exact⟨_,_,by simp_all[bK,γE,Gz],h⟩
   simp_all
  simp_all;|ot tab x args=>
  simp only[eO] at h;split at h<;>grind[GY,gL,γE,Cj,bK];|pX kt pu=>
  simp only[eO] at h;grind[vj,bq.g,bK,γE];|lookup z agg ks ka x k ok=>
  simp only[eO] at h;split at h
  ·rename_i id hx;split at h
   ·rename_i sk sv xe es kt pu ho;split at h
    ·rename_i hh;obtain⟨rfl,rfl,h1,h2,rfl,h4,h5,h6⟩:=hh;obtain⟨kv,hkv,h7⟩:=jg h;obtain⟨zv,hzv,h8⟩:=jg h7;have hkey:=OA h5 h6 (OD h1) hkv;have hz:qO z false=some (mQ sv zv):=by
      have hd:=nJ hzv;rw[Gy,OC h2] at hd;cases z with
      |nil=>simp at hd;|cons a r=>
       simp_all[qO]
     obtain⟨r,hr,hm⟩:=GV (sv:=sv) h1 h4 kv es 0;refine⟨_,_,?_,h8⟩;simp only[bK,hx,γE,hkey,fD ho,bq.g,if_true,hr,hz];cases hf:nL sk sv kv es with
     |some v=>
      rw[hf] at hm;obtain⟨j,rfl,_⟩:=hm;simp only[Option.getD_some];cases ok<;>simp only[χ,if_false,if_true,γE,gL,OB h2,ζF,εZ];|none=>
      rw[hf] at hm;obtain⟨rfl,_⟩:=hm;simp only[Option.getD_none];cases ok<;>simp only[χ,if_false,if_true,γE,gL,OB h2,ζF,εZ]
    simp_all
   simp_all
  simp_all;|qN ks ka x k v=>
  simp only[eO] at h;split at h
  ·rename_i id hx;split at h
   ·rename_i sk sv xe es kt pu ho;split at h
    ·rename_i hh;obtain⟨rfl,rfl,h1,h2,h4,h5,h6,h9⟩:=hh;obtain⟨kv,hkv,h7⟩:=jg h;obtain⟨vv,hvv,h8⟩:=jg h7;have hkey:=OA h5 h6 (OD h1) hkv;have hv:(ρ v).g=mQ sv vv:=by
      have hd:=nJ hvv;rw[OC h2] at hd;have hc:(ρ v).cellsOf=[ρ v]:=by
       revert h9;cases ρ v<;>simp[SV.cellsOf,ve]
      simp_all
     obtain⟨r,hr,hm⟩:=GV (sv:=sv) h1 h4 kv es 0;refine⟨_,_,?_,h8⟩;have hpure:(mQ sv vv).pure=true:=by simp[mQ,AV.pure]
     simp only[bK,hx,γE,hkey,fD ho,bq.g,hv,hpure,hr,ql];rw[if_neg (by simp)];cases hf:nL sk sv kv es with
     |some w=>
      rw[hf] at hm;obtain⟨j,rfl,h10,h11⟩:=hm;rw[Oz h10 h11];simp_all[OE];|none=>
      grind[GX]
    simp_all
   simp_all
  simp_all
end
mutual
theorem G3 {o:Store} {k:Nat}:∀{v:AV},v.cj k=true->v.bU o (λi=>decide (k<=i))=some v
 | .os m d j e,h=>by
  simp_all[AV.cj,AV.bU,if_neg];| .ptr m d e,h=>by
  simp_all[AV.cj,AV.bU,if_neg];| .agg g,h=>by simp only[AV.cj] at h;simp only[AV.bU,xl h,γl];| .bJ g,h=>by simp only[AV.cj] at h;simp only[AV.bU,xl h,γl];| .fn f a b,h=>by
  simp only[AV.cj,ζ] at h;simp only[AV.bU,xl h.1,xl h.2];| .ud,_| .sc _,_| .sl _ _,_| .ep _ _,_| .mp _,_| .je _ _,_=>by simp only[AV.bU]
theorem xl {o:Store} {k:Nat}:∀{l:List AV},ei k l=true->gW o (λi=>decide (k<=i)) l=some l
 |[],_=>by simp[gW];|c::g,h=>by
  simp only[ei,ζ] at h;simp only[gW,G3 h.1,xl h.2]
end
theorem OI {o:Store} {k:Nat}:∀{l:List (Value×AV)},ei k (l.map (·.2))=true->qd o (λi=>decide (k<=i)) l=some l
 |[],_=>by simp[qd];|(q,c)::a,h=>by
  simp only[ξ,ei,ζ] at h;simp only[qd,G3 h.1,OI h.2]
theorem YE {o:Store} {k:Nat} {x:bR} (h:x.cj k=true):x.bU o (λi=>decide (k<=i))=some x:=by
 cases x with
 |dead=>rfl;|cells b e f a=>
  cases a with
  |true=>simp only[bR.bU,if_true];|false=>simp_all[bR.cj,bR.bU,xl]
 |map d c a=>
  cases a with
  |true=>simp only[bR.bU,if_true];|false=>simp_all[bR.cj,bR.bU,OI]
theorem OJ {o:Store} {k:Nat}:∀{r:Store},(∀x∈r,x.cj k=true)->ju o (λi=>decide (k<=i)) r=some r
 |[],_=>rfl
 |x::r,h=>by
  simp only[ju,YE (h x (by simp)),OJ (r:=r) λy a=>h y (by simp[a])]
theorem OL {k:Nat}:∀{o:Store} {i:Nat},(fA (λj=>decide (k<=j)) i o).take (k - i)=o.take (k - i)
 |[],i=>by simp[fA];|x::r,i=>by
  simp only[fA];by_cases a:i<k
  ·rw[show k - i=(k - (i+1))+1 from by omega,δ3,δ3,OL];grind
  simp_all
theorem agz {k i:Nat} (h:i<k):(ψ k).contains i=true:=by simp[h]
theorem OM {o:Store} {k:Nat}:∀{d:Nat} {vs:List AV},ei k vs=true->cT o d vs (ψ k)=ψ k:=by
 intro d;induction d with
 |zero=>grind[cT];|succ d e=>
  intro vs h;cases vs with
  |nil=>simp[cT];|cons v vs=>
   simp only[ei,ζ] at h;have i:=h.1;simp only[cT];cases v with
   |agg g=>grind[AV.cj];|bJ g=>grind[AV.cj];|fn f a b=>grind[AV.cj];|ptr c _ _=>simp_all[AV.cj];|os c _ _ _=>simp_all[AV.cj];|mp c=>simp_all[AV.cj];|_=>simp only[e h.2]
theorem OO:∀{n s i p:Nat},s<=i->i<s+n->idxOf (ζh s n) i p=some (p+(i - s))
 |0,s,i,p,a,b=>by omega;|n+1,s,i,p,a,b=>by
  simp only[εp,idxOf];by_cases h:s=i;·subst h;simp
  ·have:(s==i)=false:=by simpa using h
   rw[this];simp only[χ,if_false];rw[OO (by omega) (by omega)];grind
theorem G4 {k i:Nat} (h:i<k):idxOf (ψ k) i=some i:=by
 rw[δC,OO (by omega) (by omega)];simp
mutual
theorem Cm {k:Nat}:∀{v:AV},v.cj k=true->v.ren (λj=>idxOf (ψ k) j)=some v
 | .os g d m e,h=>by simp_all[AV.cj,δz,G4];| .ptr g d e,h=>by simp_all[AV.cj,δz,G4];| .mp g,h=>by simp_all[AV.cj,δz,G4];| .agg i,h=>by simp only[AV.cj] at h;simp only[δz,xm h,γl];| .bJ i,h=>by simp only[AV.cj] at h;simp only[δz,xm h,γl];| .fn f a b,h=>by
  simp only[AV.cj,ζ] at h;simp only[δz,xm h.1,xm h.2];| .ud,_| .sc _,_| .sl _ _,_| .ep _ _,_| .je _ _,_=>by simp only[δz]
theorem xm {k:Nat}:∀{l:List AV},ei k l=true->iH (λj=>idxOf (ψ k) j) l=some l
 |[],_=>by simp[iH];|c::i,h=>by
  simp only[ei,ζ] at h;simp only[iH,Cm h.1,xm h.2]
end
theorem OP {k:Nat}:∀{l:List (Value×AV)},ei k (l.map (·.2))=true->ox (λj=>idxOf (ψ k) j) l=some l
 |[],_=>by simp[ox];|(q,c)::a,h=>by
  simp only[ξ,ei,ζ] at h;simp only[ox,Cm h.1,OP h.2]
theorem YF {k:Nat} {x:bR} (h:x.cj k=true):x.ren (λj=>idxOf (ψ k) j)=some x:=by
 cases x with
 |dead=>rfl;|cells b e f a=>
  cases a with
  |true=>simp only[bR.ren,if_true];|false=>simp_all[bR.cj,bR.ren,xm]
 |map d c a=>
  cases a with
  |true=>simp only[bR.ren,if_true];|false=>simp_all[bR.cj,bR.ren,OP]
theorem G5 {k:Nat} {o:Store} (a:∀x∈o.take k,x.cj k=true) (c:k<=o.length):∀{n s:Nat},s+n=k->kN o (ψ k) (ζh s n)=some ((o.take k).drop s)
 |0,s,h=>by
  grind[kN];|n+1,s,h=>by
  simp only[εp,kN];have d:s<o.length:=by omega
  have e:o[s]?=some o[s]:=ν d;rw[e,G5 a c (by omega)];have f:o[s]∈o.take k:=by
   rw[List.mem_take_iff_getElem];grind
  simp only[YF (a _ f),γl];congr 1;have b:s<(o.take k).length:=by simp;omega
  rw[List.drop_eq_getElem_cons b];simp
theorem nodup_range':∀{n s:Nat},iI.pd (ζh s n)=true
 |0,_=>by simp[iI.pd];|n+1,s=>by
  simp only[εp,iI.pd,nodup_range',γ8,Bool.not_eq_true'];grind
theorem OQ {k:Nat}:∀{a b:List AV},ei k a=true->ei k b=true->ei k (a++b)=true
 |[],b,_,h=>h
 |x::a,b,h,c=>by
  simp only[ei,ζ] at h;simp only[γy,ei,h.1,OQ h.2 c,Bool.and_self]
theorem G6 {k:Nat}:∀{o:Store},(∀x∈o,x.cj k=true)->ei k (o.flatMap lC.bR.yR)=true
 |[],_=>by simp[ei];|x::o,h=>by
  simp only[δW];refine OQ ?_ (G6 λy a=>h y (by simp[a]));have b:=h x (by simp);cases x<;>grind[lC.bR.yR,ei,bR.cj]
theorem OS {k:Nat} {r:AV} {o:Store} (e:r.cj k=true) (b:∀x∈o,x.cj k=true) (j:k<=o.length):lC k r o=some (r,o.take k):=by
 unfold lC;rw[G3 e,OJ b];simp only;have a:(fA (λi=>decide (k<=i)) 0 o).take k=o.take k:=by simpa using OL (k:=k) (o:=o) (i:=0)
 have d:∀{o:Store} {i:Nat},(fA (λi=>decide (k<=i)) i o).length=o.length:=by
  intro o;induction o with
  |nil=>intro i;rfl;|cons x o l=>simp_all[fA]
 have h:∀x∈o.take k,x.cj k=true:=λx g=>b x (List.mem_of_mem_take g);rw[a,OM (by grind[ei,G6])];have f:iI.pd (ψ k)=true:=by rw[δC];exact nodup_range'
 rw[if_pos f,Cm e];have c:=G5 (k:=k) (o:=fA (λi=>decide (k<=i)) 0 o) (by simp_all) (by simp_all) (n:=k) (s:=0) (by omega);rw[<-δC,a,δ8] at c;rw[c]
theorem G7:∀{env:fj} {s:Nat} {v:SV},(jL env s).g=v.g->gE (xf env s v)=gE env
 |[],_,_,_=>rfl
 |p::r,s,v,h=>by
  simp only[xf,jL] at h ⊢;cases a:δu p.1 s with
  |true=>
   simp_all[gE];|false=>
   rw[a] at h;simp only[cond_false] at h ⊢;have:=G7 h;grind[gE]
theorem YG {env:fj} {g:Option (Option Nat×Bool)} {K:fj->Bool->Prop} (h:Gs env g K):∃a w,gE a=gE env/\mf (gE env) g=some w/\K a w:=by
 unfold Gs at h;split at h;·exact⟨_,_,rfl,rfl,h⟩
 ·exact h.elim
 ·rename_i s b;split at h;·grind[mf,nP,γE]
  ·rename_i c d;cases c<;>grind[G7,mf,nP,γE]
  all_goals grind[mf,nP,γE,gL]
section
variable {call:dh} {p:iR}
theorem OT:∀{a b:bZ},jY a b->gO a=gO b
 |[],[],_=>rfl
 |x::a,y::b,h=>by
  obtain⟨c,d⟩:=h;have e:x.g=y.g:=c;simp only[gO,ξ,e];congr 1;exact OT d
def vk:Trace->Trace->Prop
 |[],[]=>True
 |x::a,y::b=>(x.1=y.1/\x.2.1=y.2.1/\∀j∈x.2.2,j∈y.2.2)/\vk a b
 |_,_=>False
theorem vk.look:∀{a b:Trace} {i:Nat},vk a b->(qc a i).1=(qc b i).1/\∀j∈(qc a i).2,j∈(qc b i).2
 |[],[],_,_=>⟨rfl,λj h=>h⟩
 |(k,x)::a,(g,y)::b,i,h=>by
  obtain⟨⟨c,e,d⟩,f⟩:=h;simp only at c e d;subst c;simp only[qc];split;·exact⟨e,d⟩
  ·exact vk.look f
theorem YH {a b d c:List Nat} (f:∀j∈a,j∈d) (e:∀j∈b,j∈c) (h:wz d c=true):wz a b=true:=by
 grind[wz]
theorem YI {n:Nat} {a b:Trace} {c:List (Nat×Nat)} (h:vk a b) (d:sX n b c=true):sX n a c=true:=by
 unfold sX at d ⊢;rw[List.all_eq_true] at d ⊢;intro p e;have l:=d p e;obtain⟨g,k⟩:=h.look (i:=p.1);obtain⟨f,j⟩:=h.look (i:=p.2);grind[YH]
theorem G8 (u:pA call p.C) {base:Nat}:∀{d:List dy} {st:cq} {l:Trace} {K:cq->Trace->Prop},xg p base d st l K->
  ∃st' T,fR call base d st.g=some st'.g/\vk (mg call base d st.g) T/\K st' (T.reverse++l)
 |[],st,l,K,h=>⟨st,[],rfl,trivial,h⟩
 |i::r,st,l,K,h=>by
  simp only[xg] at h;obtain⟨a,w,B,s,q⟩:=YG h;have A:st.g=⟨gE a,gO st.o⟩:=by grind[cq.g]
  rw[<-B] at s;cases w with
  |true=>
   simp only[if_true] at q;obtain⟨v,y,E,c⟩:=YD u q;have b:iq call base i st.g=some (cq.g ⟨uY a i.dst v,y⟩):=by
    grind[iq,Ol,yP,cq.g,Oi]
   have k:∀W:List Nat,(∀j∈eu call i.op (λx=>(jw a x).g) (gO st.o) (base+i.bE),j∈W)->
     xg p base r ⟨uY a i.dst v,y⟩ ((i.idx,dU i.op (λx=>(jw a x).g) (st.o.map bq.g) (base+i.bE),W)::l) K->
     ∃st' T,fR call base (i::r) st.g=some st'.g/\vk (mg call base (i::r) st.g) T/\K st' (T.reverse++l):=λW G c=>by
    obtain⟨st',T,D,z,F⟩:=G8 u c;refine⟨st',(i.idx,dU i.op (λx=>(jw a x).g) (st.o.map bq.g) (base+i.bE),W)::T,by grind[fR],?_,?_⟩
    ·simp only[mg,b];rw[A];simp only[s,Ol];exact⟨⟨rfl,rfl,G⟩,z⟩
    simp_all
   unfold Oe at c;split at c
   ·rename_i f n t;split at c
    ·obtain⟨H,c⟩:=c;refine k [] (λj m=>?_) c;rw[t] at E m;have e:iI call f (n.map λx=>(jw a x).g) (gO st.o)=some (v.g,gO y):=by simp_all[bK,gw]
     simp only[eu,e,List.mem_filter,decide_eq_true_eq] at m;grind[OT]
    ·exact k _ (λj m=>F5 m) c
   ·exact k _ (λj m=>F5 m) c;|false=>
   simp only[χ,if_false] at q;obtain⟨st',T,D,z,F⟩:=G8 u q;have b:iq call base i st.g=some (cq.g ⟨uY a i.dst (.bJ []),st.o⟩):=by
    grind[iq,cq.g,Oi,γE,gL]
   refine⟨st',(i.idx,[],[])::T,by grind[fR],?_,?_⟩
   ·simp only[mg,b];rw[A];simp only[s];exact⟨⟨rfl,rfl,λj h=>h⟩,z⟩
   simp_all
theorem YJ (k:Nat):gO (δ k .dead)=fS k:=by simp[gO,fS,bq.g]
theorem OU (a b:bZ):gO (a++b)=gO a++gO b:=by simp[gO]
theorem YK (x:bq):x.g.mK=x.mK:=by cases x<;>rfl
theorem YL (base:Nat) (o:bZ):gO (Gt base o)=qP base (gO o):=by
 unfold Gt qP;have:((gO o).drop base).all (·.mK)=(o.drop base).all (·.mK):=by
  simp only[gO,<-List.map_drop,ζM];grind[YK]
 rw[this];cases(o.drop base).all (·.mK);·rfl
 ·simp[gO]
theorem YM (i:pA call p.C) {k:Nat} {b:List dy} {a:List (Nat×Nat)} {st:cq} {K:cq->Prop} (h:Gu p k b a st K):∃st',pe call k b a st.g=some st'.g/\K st':=by
 unfold Gu at h;obtain⟨st',T,f,j,d⟩:=G8 i h;rw[List.append_nil,List.reverse_reverse] at d;have e:(cq.mk st.env (st.o++δ k .dead)).g=⟨st.g.env,st.g.o++fS k⟩:=by simp[cq.g,OU,YJ]
 rw[e] at f j;have c:st.g.o.length=st.o.length:=by simp[cq.g,nQ]
 split at d
 ·rename_i l;refine⟨_,?_,d⟩;simp only[pe,c];rw[f];simp only;rw[if_pos (by
   grind[fS,YI])];grind[cq.g,YL]
 simp_all
end
theorem CB {v:SV}:isNil v=true↔v.g= .sc (.slice none 0 0):=by
 constructor
 ·intro h;unfold isNil at h;split at h;·rfl
  ·cases h
 ·intro h;cases v<;>simp only[γE,reduceCtorEq,γ9] at h;subst h;rfl
section
variable {o:bZ} {id:Nat} {s:bp} {l:List s.T} {e:TypeId}
def pid (id:Nat):Nat->Bool:=λi=>i==id
mutual
theorem OV (r:o[id]?=some (.row s l e true)):∀{v:SV} {K:SV->Prop},jy id s l v K->∃E:SV,v.g.bU (gO o) (pid id)=some E.g/\K E
 | .ow j n A,K,h=>by
  simp only[jy] at h;split at h
  ·rename_i q;subst q;split at h
   ·rename_i u;subst u;obtain⟨rfl,D⟩:=h;refine⟨_,?_,D⟩;have I:ω (l.length*s.sz) (cE s l)=cE s l:=γn (by grind[fi]);simp_all[γE,AV.bU,pid,fD,bq.g,fi]
   simp_all
  ·rename_i q;refine⟨_,?_,h⟩;simp_all[γE,AV.bU,pid];| .os j w p n A,K,h=>by
  simp only[jy] at h;split at h
  ·rename_i q;subst q;split at h
   ·rename_i u;subst u;obtain⟨rfl,C,D⟩:=h;refine⟨_,?_,D⟩;have F:(w+p)*s.sz<=l.length*s.sz:=γG _ C;rw[εa] at F;have B:((l.drop w).take p).length=p:=by simp;omega
    simp only[γE,AV.bU,pid,BEq.rfl,if_true,fD r,bq.g,fi,F,and_self,zt,B]
   simp_all
  ·rename_i q;refine⟨_,?_,h⟩;simp_all[γE,AV.bU,pid];| .oc j w p n A,K,h=>by
  simp only[jy] at h;split at h;·exact h.elim
  ·rename_i q;exact⟨_,by simp_all[γE,AV.bU,pid],h⟩;| .rp j i f n A,K,h=>by
  simp only[jy] at h;split at h;·exact h.elim
  ·rename_i q;exact⟨_,by simp_all[γE,AV.bU,pid],h⟩;| .ptr j f t,K,h=>by
  simp only[jy] at h;split at h;·exact h.elim
  ·rename_i q;exact⟨_,by simp_all[γE,AV.bU,pid],h⟩;| .ap j a b c d i,K,h=>by
  simp only[jy] at h;split at h;·exact h.elim
  ·rename_i q;exact⟨_,by simp_all[γE,AV.bU,pid],h⟩;| .agg x,K,h=>by
  simp only[jy] at h;obtain⟨m,z,y⟩:=vl r h;grind[γE,AV.bU];| .bJ x,K,h=>by
  simp only[jy] at h;obtain⟨m,z,y⟩:=vl r h;grind[γE,AV.bU];| .fn f a b,K,h=>by
  simp only[jy] at h;obtain⟨M,z,y⟩:=vl r h;obtain⟨L,G,H⟩:=vl r y;grind[γE,AV.bU];| .ud,K,h=>⟨.ud,by grind[γE,AV.bU],by grind[jy]⟩
 | .sc v,K,h=>⟨.sc v,by grind[γE,AV.bU],by grind[jy]⟩
 | .il k n,K,h=>⟨.il k n,by grind[γE,AV.bU],by grind[jy]⟩
 | .si k n,K,h=>⟨.si k n,by grind[γE,AV.bU],by grind[jy]⟩
 | .bl b,K,h=>⟨.bl b,by grind[γE,AV.bU],by grind[jy]⟩
 | .sb b,K,h=>⟨.sb b,by grind[γE,AV.bU],by grind[jy]⟩
 | .row s l,K,h=>⟨.row s l,by grind[γE,AV.bU],by grind[jy]⟩
 | .ep s l i f,K,h=>⟨.ep s l i f,by grind[γE,AV.bU],by grind[jy]⟩
 | .mp i,K,h=>⟨.mp i,by grind[γE,AV.bU],by grind[jy]⟩
 | .ia t x,K,h=>⟨.ia t x,by grind[γE,AV.bU],by grind[jy]⟩
 | .ite c a b,K,h=>⟨.ite c a b,by grind[γE,AV.bU],by grind[jy]⟩
theorem vl (r:o[id]?=some (.row s l e true)):∀{x:List SV} {K:List SV->Prop},ra id s l x K->∃m:List SV,gW (gO o) (pid id) (gL x)=some (gL m)/\K m
 |[],K,h=>⟨[],by simp[gL,gW],by grind[ra]⟩
 |c::x,K,h=>by
  simp only[ra] at h;obtain⟨J,z,y⟩:=OV r h;obtain⟨m,G,H⟩:=vl r y;grind[gL,gW]
end
theorem G9 (b:o[id]?=some (.row s l e true)):∀{env:fj} {K:fj->Prop},zk id s l env K->∃a,uK (gO o) (pid id) (gE env)=some (gE a)/\K a
 |[],K,h=>⟨[],rfl,h⟩
 |(k,v)::r,K,h=>by
  simp only[zk] at h;obtain⟨f,d,c⟩:=OV b h;obtain⟨j,g,i⟩:=G9 b c;grind[gE,uK]
theorem CC {o:Store} {q:Nat->Bool}:∀{cs:List AV},(∀a∈cs,Plain a)->gW o q cs=some cs
 |[],_=>by simp[gW];|a::cs,h=>by
  have d:=CC (o:=o) (q:=q) (cs:=cs) λb c=>h b (by simp[c]);rcases h a (by simp) with⟨v,rfl,_⟩|⟨n,e,rfl,_⟩<;>simp only[gW,AV.bU,d]
theorem Ha {o:Store} {q:Nat->Bool}:∀{es:List (Value×AV)},(∀a∈es,∃v,a.2= .sc v)->qd o q es=some es
 |[],_=>by simp[qd];|(k,a)::es,h=>by
  obtain⟨v,b⟩:=h (k,a) (by simp);simp only at b;subst b;simp only[qd,AV.bU,Ha (es:=es) λa c=>h a (by simp[c])]
theorem rY (j:o[id]?=some (.row s l e true)):∀{i:Nat} {r:bZ} {K:bZ->Prop},nN id s l i r K->∃r' mid,ju (gO o) (pid id) (gO r)=some mid/\fA (pid id) i mid=gO r'/\K r'
 |i,[],K,h=>⟨[],[],rfl,rfl,h⟩
 |i,x::r,K,h=>by
  cases x with
  |dead=>
   simp only[nN] at h;obtain⟨r',mid,w,n,f⟩:=rY j h;grind[gO,bq.g,ju,bR.bU,fA];|cells N p F d=>
   simp only[nN] at h;cases d with
   |true=>
    simp only[if_true] at h;split at h;·exact h.elim
    ·rename_i B;obtain⟨r',mid,w,n,f⟩:=rY j h;refine⟨_,.cells (gL N) p F true::mid,?_,?_,f⟩;all_goals simp_all[gO,bq.g,ju,bR.bU,fA,pid];|false=>
    simp only[χ,if_false] at h;obtain⟨A,z,k⟩:=vl j h;obtain⟨r',mid,w,n,f⟩:=rY j k;refine⟨_,.cells (gL A) p F false::mid,?_,?_,f⟩;all_goals simp_all[gO,bq.g,ju,bR.bU,fA]
  |oH v u p t=>
   simp only[nN] at h;split at h;·exact h.elim
   ·obtain⟨O,z,k⟩:=vl j h;split at k
    ·rename_i m M;obtain⟨L,_⟩:=Ci M;obtain⟨r',mid,w,n,f⟩:=rY j k;refine⟨_,(bq.row v (u++m) p false).g::mid,?_,?_,f⟩
     ·simp only[gO,ξ,bq.g] at w z ⊢;have G:∀(a b c:List AV),gW (γc bq.g o) (pid id) a=some a->gW (γc bq.g o) (pid id) b=some c->gW (γc bq.g o) (pid id) (a++b)=some (a++c):=λa b c w n=>by
       induction a<;>grind[gW]
      have P:gW (γc bq.g o) (pid id) (cE v u)=some (cE v u):=CC (λa C=>mT C);simp_all[ju,bR.bU,N8]
     ·simp only[bq.g,fA,n];rfl
    simp_all;|row v u p d=>
   simp only[nN] at h;have y:(bq.row v u p d).g.bU (gO o) (pid id)=some (bq.row v u p d).g:=by
    cases d with
    |true=>simp only[bq.g,bR.bU,if_true];|false=>
     simp only[bq.g,bR.bU,χ,if_false];grind[CC,mT]
   split at h
   ·rename_i B;cases d with
    |false=>simp_all;|true=>
     simp only[if_true] at h;obtain⟨r',mid,w,n,f⟩:=rY j h;refine⟨_,(bq.row v u p true).g::mid,?_,?_,f⟩;all_goals simp_all[gO,ju,bq.g,fA,pid]
   ·rename_i B;obtain⟨r',mid,w,n,f⟩:=rY j h;refine⟨_,(bq.row v u p d).g::mid,?_,?_,f⟩;·grind[gO,ju]
    ·cases d<;>simp only[bq.g,fA,n,pid,beq_iff_eq,if_neg B]<;>rfl;|map H D I E J d=>
   simp only[nN] at h;have y:(bq.map H D I E J d).g.bU (gO o) (pid id)=some (bq.map H D I E J d).g:=by
    cases d with
    |true=>simp only[bq.g,bR.bU,if_true];|false=>
     simp only[bq.g,bR.bU,χ,if_false];rw[Ha (λa C=>by obtain⟨q,_,rfl⟩:=γa.1 C;exact⟨_,rfl⟩),γl]
   obtain⟨r',mid,w,n,f⟩:=rY j h;grind[gO,ju,bq.g,fA]
end
theorem YN {v:SV}:(∃id,tH.xh v=some id/\∃a b c,v.g= .os id a b c)\/(tH.xh v=none/\∀id a b c,v.g≠ .os id a b c):=by
 cases v<;>simp[tH.xh,γE]
theorem OW {p:iR} {lo:Nat} {h:ky} {st:cq} {K:cq->Prop} {v:SV} (t:h.own=false) (f:Bh h st.g=some v.g)
  (d:match tH.xh v with
   |some id=>if Nat.ble lo id then(match st.o[id]? with
    |some (.row s l e pu)=>zk id s l st.env λenv=>nN id s l 0 (if pu then st.o else st.o.set id (.row s l e true)) λo=>K ⟨env,o⟩
    |_=>False) else K st
   |none=>K st):∃st',jU lo h st.g=st'.g/\K st':=by
 let _:=p;unfold jU;rw[if_neg (by simp[t]),f];rcases @YN v with⟨id,w,a,b,c,x⟩|⟨w,x⟩
 ·rw[w] at d;rw[x];simp only at d ⊢;split at d
  ·rename_i q;rw[if_pos q];split at d
   ·rename_i s l e pu m;have D:(λi=>i==id)=pid id:=rfl;cases pu with
    |true=>
     simp only[if_true] at d;obtain⟨j,A,n⟩:=G9 m d;obtain⟨B,u,C,y,r⟩:=rY m n;refine⟨_,?_,r⟩;simp_all[yQ,cq.g,fD,bq.g,Bl];|false=>
     simp only[χ,if_false] at d;have z:id<st.o.length:=(θ.1 m).1;have k:(st.o.set id (.row s l e true))[id]?=some (.row s l e true):=by simp_all
     obtain⟨j,A,n⟩:=G9 (o:=st.o.set id (.row s l e true)) k d;obtain⟨B,u,C,y,r⟩:=rY k n;refine⟨_,?_,r⟩;simp_all[yQ,cq.g,fD,bq.g,oJ,ql,Bl]
   simp_all
  grind
 grind
section
variable {p:iR} {lo:Nat}
theorem YP {h:ky} {st:cq} {K:cq->Prop} (a:tH p lo h st K):∃st',jU lo h st.g=st'.g/\K st':=by
 unfold tH at a;split at a
 ·rename_i f;unfold jU;rw[if_pos f];unfold Bj;split at a
  ·rename_i b;simp only[b];split at a
   ·rename_i r;have t:=CB.1 r;rw[<-nP] at t;have B:dL st.g.env h.slot= .sc (.slice none 0 0):=t;rw[B];split at a
    ·rename_i s J;split at a
     ·rename_i w;refine⟨_,?_,a⟩;simp[cq.g,gE,gO,γE,bq.g,cE,w]
     simp_all
    simp_all
   ·rename_i r;split at a
    ·rename_i z;split at a
     ·rename_i m G D d;have n:dL st.g.env h.slot= .os m 0 G (G*D):=by
       show dL (gE st.env) h.slot=_;rw[nP,d];rfl
      rw[n];split at a
      ·rename_i s l e y;refine⟨_,?_,a⟩;simp_all[Bi,cq.g,fD,bq.g,ql]
      simp_all
     simp_all
    ·rename_i z;refine⟨st,?_,a⟩;split
     ·rename_i L;have:dL (gE st.env) h.slot= .sc (.slice none 0 0):=L;grind[nP,CB]
     all_goals simp_all
  ·rename_i k b;simp only[b];split at a
   ·rename_i m c j d;have n:dL st.g.env h.slot= .ptr m c j:=by
     show dL (gE st.env) h.slot=_;rw[nP,d];rfl
    rw[n];split at a
    ·rename_i i e F E y;have u:st.g.o[m]?=some (.cells (gL i) e F E):=fD y;simp only[u];split at a
     ·rename_i r;cases C:i[c+k]? with
      |none=>simp_all;|some v=>
       rw[C] at r;simp only[Option.any_some] at r;have M:=CB.1 r;have A:(gL i)[c+k]?=some (.sc (.slice none 0 0)):=by grind[tJ]
       simp only[A,jM];split at a
       ·rename_i I;rw[if_pos I];split at a
        ·rename_i s J;split at a
         ·rename_i w;refine⟨_,?_,a⟩;have N:gL (i.set (c+k) (.ow st.o.length 0 h.sz))=(gL i).set (c+k) (.os st.o.length 0 0 0):=by
           simp_all[fU,γE]
          simp_all[cq.g,bq.g,gO,cE]
         simp_all
        simp_all
       simp_all
     grind[tJ,CB]
    simp_all
   simp_all
 ·rename_i f;have f:h.own=false:=by simpa using f
  unfold tH.Og at a;cases b:h.off with
  |none=>
   rw[b] at a;simp only at a;refine OW (p:=p) (v:=jL st.env h.slot) f ?_ ?_;all_goals grind[Bh,cq.g,nP];|some k=>
   rw[b] at a;simp only at a;cases q:jL st.env h.slot with
   |ptr m c j=>
    rw[q] at a;simp only at a;cases y:st.o[m]? with
    |none=>simp_all;|some x=>
     rw[y] at a;cases x with
     |cells i e F E=>
      simp only at a;by_cases H:i.length=j
      ·rw[if_pos H] at a;cases C:i[c+k]? with
       |none=>simp_all;|some v=>
        rw[C] at a;refine OW (p:=p) (v:=v) f ?_ ?_
        ·unfold Bh;rw[b];have:dL st.g.env h.slot= .ptr m c j:=by
          show dL (gE st.env) h.slot=_;rw[nP,q];rfl
         have u:st.g.o[m]?=some (.cells (gL i) e F E):=fD y;simp_all[behind,jM,tJ]
        grind
      simp_all;|_=>exact a.elim
   |_=>rw[q] at a;exact a.elim
theorem He:∀{hs:List ky} {st:cq} {K:cq->Prop},zl p lo hs st K->∃st',hs.foldl (λs h=>jU lo h s) st.g=st'.g/\K st'
 |[],st,K,h=>⟨st,rfl,h⟩
 |h::hs,st,K,hk=>by
  simp only[zl] at hk;obtain⟨st1,h1,h2⟩:=YP hk;obtain⟨st2,h3,h4⟩:=He h2;exact⟨st2,by rw[List.foldl_cons,h1,h3],h4⟩
theorem YQ (a:List Nat) (env:fj):gE (Gv a env)=prune a (gE env):=by
 simp[Gv,prune,gE,<-nP]
theorem Hf (k:Nat) (st:cq):(trimS k st).g=trim k st.g:=by
 unfold trimS trim;have b:st.g.o.length=st.o.length:=by simp[cq.g,nQ]
 have c:(st.g.env.all λp=>p.2.cj k)=(st.env.all λp=>p.2.cj k):=by
  simp only[cq.g,gE,ζM];grind[zq]
 have d:((st.g.o.take k).all λx=>x.cj k)=((st.o.take k).all λx=>x.cj k):=by
  simp only[cq.g,gO,<-List.map_take,ζM];grind[Cd]
 rw[b,c,d];by_cases a:st.o.length<=k;·simp_all
 ·rw[if_neg a,if_neg a];split;·simp[cq.g,gO]
  ·rfl
variable {T:Tab}
theorem OX {v:Int} {n:Nat} {K:Nat->Prop}:∀{j:Nat},j<=n->splitN v n K j->(n - j:Nat)<=v->∃i:Nat,v=i/\K i
 |0,_,h,a=>by
  grind[splitN];|j+1,c,h,a=>by
  simp only[splitN] at h;by_cases b:v=(n - (j+1):Nat);·grind
  ·exact OX (by omega) h.2 (by omega)
theorem OY {v:Int} {n:Nat} {K:Nat->Prop}:∀{j:Nat},splitN v n K j->0<=v
 |0,h=>h.1
 |j+1,h=>OY h.2
theorem YR {x:Option (Nat×Nat×Nat)} {st:cq} {K:cq->Prop} (h:splitK x st K):∃st',st'.g=st.g/\K st':=by
 unfold splitK at h;split at h;·grind
 ·rename_i p a n;split at h
  ·rename_i c e q r b;split at h
   ·rename_i k v o;obtain⟨i,rfl,f⟩:=OX (Nat.le_refl _) h (by have:=OY h;omega);refine⟨_,?_,f⟩;have l:gL (c.set a (.il k i))=gL c:=by
     rw[fU,fU,List.map_set];apply δc;grind[γE]
    simp only[cq.g,ql,bq.g,l,cq.mk.injEq,St.mk.injEq,true_and];apply δc;intro j;rw[List.getElem?_set];split
    ·rename_i d;subst d;have m:=(θ.1 b).1;rw[if_pos (by grind[nQ]),GL,b];rfl
    ·rfl
   simp_all
  simp_all
theorem OZ:∀{e a:fj},xi e a->gE e=gE a
 |[],[],_=>rfl
 |[],_::_,h=>by grind[xi];|_::_,[],h=>by grind[xi];|(k,v)::e,(d,c)::a,h=>by
  simp only[xi] at h;split at h
  ·rename_i b;subst b;have:=OZ h.2;simp only[gE,ξ] at this ⊢;rw[this,show v.g=c.g from h.1]
  simp_all
theorem xn:∀{o o':bZ},jY o o'->gO o=gO o'
 |[],[],_=>rfl
 |[],_::_,h=>by grind[jY];|_::_,[],h=>by grind[jY];|x::o,y::o',h=>by
  simp only[jY] at h;have:=xn h.2;simp only[gO,ξ] at this ⊢;rw[this,show x.g=y.g from h.1]
theorem CG {s t:cq} (h:zm s t):s.g=t.g:=by
 simp only[cq.g,OZ h.1,xn h.2]
theorem agA (env:fj) (args:List Operand):args.map (eF (gE env))=gL (args.map (jw env)):=by
 simp_all[fU,zp]
theorem vm (hC:pA T.K p.C) (hI:∀f F,p.it f=some F->T.fn f=some F):∀{c:IR} {Λ:Nat->cC} {st:cq} {Q:Out->cq->Prop},wpS p lo c Λ st Q->VW T ze lo c st.g λout s=>∃ss,s=ss.g/\Q out ss:=by
 intro c;induction c with
 |skip=>intro Λ st Q h;exact VW.skip ⟨st,rfl,h⟩;|exit id=>intro Λ st Q h;exact VW.exit ⟨st,rfl,h⟩;|ret=>intro Λ st Q h;exact VW.ret ⟨st,rfl,h⟩;|goto l=>intro Λ st Q h;exact VW.goto ⟨st,rfl,h⟩;|ou x a b iha ihb=>
  intro Λ st Q h;simp only[wpS] at h;have hx:eF st.g.env x=(jw st.env x).g:=zp _ _;split at h
  ·rename_i he;rw[he] at hx;exact VW.ou hx (by rw[if_pos rfl];exact iha h)
  ·rename_i he;rw[he] at hx;exact VW.ou hx (by rw[if_neg (by simp)];exact ihb h)
  ·rename_i c he;rw[he] at hx;have hset:∀v:SV,(SV.sb c).g=v.g->(cq.mk (B9 st.env x v) st.o).g=st.g:=λv hv=>by
    cases x with
    |tmp t=>
     have:jL st.env t= .sb c:=he;simp only[cq.g,B9];rw[G7 (by rw[this];exact hv)];|_=>rfl
   refine VW.ou hx ?_;cases c with
   |true=>
    have:=iha (h.1 rfl);rw[hset (.bl true) rfl] at this;rw[if_pos rfl];exact this;|false=>
    have:=ihb (h.2 rfl);rw[hset (.bl false) rfl] at this;rw[if_neg (by simp)];exact this
  ·exact h.elim;|turns l b ih=>
  intro Λ st Q h;cases l with
  |none=>
   simp only[wpS] at h;refine VW.Ya ((ih h).mono ?_);rintro out s ⟨ss,rfl,h2⟩;cases out with
   |norm=>exact⟨by simp,ss,rfl,h2⟩;|exit id=>exact⟨by simp,ss,rfl,h2⟩;|ret=>exact⟨by simp,ss,rfl,h2⟩;|goto l=>exact h2.elim
  |some l=>
   simp only[wpS] at h;split at h
   ·rename_i X shape next J m inner _;obtain⟨⟨h0,hx⟩,hstep⟩:=h;refine VW.Yb (λk s=>∃x,s=(shape x).g/\J x/\m x=k) ?_ (m (next st)) _ ⟨next st,CG h0,hx,rfl⟩;rintro k s ⟨x,rfl,hj,rfl⟩;refine(ih (hstep x hj)).mono ?_;rintro out s ⟨ss,rfl,h2⟩;cases out with
    |goto l'=>
     obtain⟨rfl,h3,h4,h5⟩:=h2;refine .inl ⟨rfl,_,h5,_,?_,h4,rfl⟩;have h6:=CG h3;rw[<-h6,Hf,show(shape x).o.length=(shape x).g.o.length from by simp[cq.g,nQ]];|norm=>exact .inr ⟨by simp,ss,rfl,h2⟩;|exit id=>exact .inr ⟨by simp,ss,rfl,h2⟩;|ret=>exact .inr ⟨by simp,ss,rfl,h2⟩
   ·exact h.elim
 |region id draw k ops jJ live pre post=>
  intro Λ st Q h;simp only[wpS] at h;obtain⟨st0,h0,h⟩:=YR h;obtain⟨st1,h1,h2⟩:=He h;obtain⟨st2,h3,h4⟩:=YM hC h2;obtain⟨Gx,h5,h6⟩:=He h4;refine VW.region ?_;rw[<-h0,h1,h3];refine⟨Gx,?_,h6⟩;rw[<-h5];simp only[cq.g,YQ];|sW g caps d a b _ _=>intro Λ st Q h;exact h.elim;|seq a b iha ihb=>
  intro Λ st Q h;simp only[wpS] at h;refine VW.seq ((iha h).mono ?_);rintro out s ⟨ss,rfl,h2⟩;cases out with
  |norm=>rw[if_pos rfl];exact ihb h2;|exit id=>rw[if_neg (by simp)];exact⟨ss,rfl,h2⟩;|ret=>rw[if_neg (by simp)];exact⟨ss,rfl,h2⟩;|goto l=>rw[if_neg (by simp)];exact⟨ss,rfl,h2⟩
 |cond x a b iha ihb=>
  intro Λ st Q h;simp only[wpS] at h;have hx:eF st.g.env x=(jw st.env x).g:=zp _ _;have hdr:(cq.mk (xj x st.env) st.o).g=⟨pg x st.g.env,st.g.o⟩:=by
   have:∀(t:Nat) (env:fj),(zn t env).map (λp=>(p.1,p.2.g))=qT t (env.map λp=>(p.1,p.2.g)):=by
    intro t env;induction env with
    |nil=>rfl;|cons p env ih=>
     simp only[zn,qT,ξ];cases δu p.1 t with
     |true=>simpa using ih;|false=>simpa using ih
   cases x with
   |tmp t=>simp only[cq.g,gE,xj,pg];rw[this];|_=>rfl
  split at h
  ·rename_i he;rw[he] at hx;exact VW.cond hx (by rw[if_pos rfl,<-hdr];exact iha h)
  ·rename_i he;rw[he] at hx;exact VW.cond hx (by rw[if_neg (by simp),<-hdr];exact ihb h)
  ·rename_i c he;rw[he] at hx;refine VW.cond hx ?_;cases c with
   |true=>rw[if_pos rfl,<-hdr];exact iha (h.1 rfl);|false=>rw[if_neg (by simp),<-hdr];exact ihb (h.2 rfl)
  ·exact h.elim;|block id b ih=>
  intro Λ st Q h;simp only[wpS] at h;exact VW.block ((ih h).mono λout s ⟨ss,e,h2⟩=>⟨ss,e,h2⟩);|loop b ih=>
  intro Λ st Q h;simp only[wpS] at h;split at h
  ·rename_i n YT;clear YT;induction n generalizing st with
   |zero=>exact h.elim;|succ n ihn=>
    simp only[Gw] at h;refine VW.loop ((ih h).mono ?_);rintro out s ⟨ss,rfl,h2⟩;cases out with
    |norm=>
     rw[if_pos rfl];have:=ihn h2;rwa [Hf,show st.o.length=st.g.o.length from by simp[cq.g,nQ]] at this;|exit id=>rw[if_neg (by simp)];exact⟨ss,rfl,h2⟩;|ret=>rw[if_neg (by simp)];exact⟨ss,rfl,h2⟩;|goto l=>rw[if_neg (by simp)];exact⟨ss,rfl,h2⟩
  ·exact h.elim
  ·rename_i X shape next J m inner _;obtain⟨⟨h0,hx⟩,hstep⟩:=h;refine VW.X9 (λk s=>∃x,s=(shape x).g/\J x/\m x=k) ?_ (m (next st)) _ ⟨next st,CG h0,hx,rfl⟩;rintro k s ⟨x,rfl,hj,rfl⟩;refine(ih (hstep x hj)).mono ?_;rintro out s ⟨ss,rfl,h2⟩;cases out with
   |norm=>
    rw[if_pos rfl];obtain⟨h3,h4,h5⟩:=h2;refine⟨_,h5,_,?_,h4,rfl⟩;have h6:=CG h3;rw[<-h6,Hf,show(shape x).o.length=(shape x).g.o.length from by simp[cq.g,nQ]];|exit id=>rw[if_neg (by simp)];exact⟨ss,rfl,h2⟩;|ret=>rw[if_neg (by simp)];exact⟨ss,rfl,h2⟩;|goto l=>rw[if_neg (by simp)];exact⟨ss,rfl,h2⟩
theorem O0 {st:cq}:∀{a:List mM} {K:List SV->Prop},nO.goK st a K->∃l,a.mapM (qQ st.g)=some (gL l)/\K l
 |[],K,h=>⟨[],by simp[gL],h⟩
 |r::a,K,h=>by
  simp only[nO.goK] at h;have b:∃v,qQ st.g r=some v.g/\nO.goK st a λl=>K (v::l):=by
   unfold nO.Oh at h;unfold qQ;split at h
   ·rename_i c;rw[c];exact⟨_,by grind[cq.g,nP],h⟩
   grind[Ou,cq.g,nP]
  obtain⟨v,i,d⟩:=b;obtain⟨l,f,e⟩:=O0 d;exact⟨v::l,by simp_all[gL],e⟩
theorem xo {st:cq} {b:List mM} {K:SV->Prop} (h:nO st b K):∃r,nG st.g b=some r.g/\K r:=by
 unfold nO at h;obtain⟨l,c,a⟩:=O0 h;unfold nG;rw[c];match l,a with
 |[],a=>exact⟨_,rfl,a⟩;|[v],a=>exact⟨v,rfl,a⟩;|v::w::l,a=>exact⟨_,rfl,a⟩
theorem vn:∀(i:Nat) (args:List SV),gE (mU i args)=iu i (gL args)
 |_,[]=>rfl
 |i,v::a=>by
  have:=vn (i+1) a;grind[gE,mU,gL,iu]
theorem zz {Λ:Nat->cC} {P:Program} (hT:kB P T) (hC:pA T.K p.C) (hI:∀f F,p.it f=some F->T.fn f=some F) {f:FuncId} {F:eZ} (hF:T.fn f=some F) {args:List SV} {r:AV} (hK:T.K f (gL args) [] false=none) (hlen:args.length=F.params)
  {Q:SV->Prop} (hQ:∀v,Q v->v.g=r) (h:py p Λ F args Q):gA P f=true/\kP P f (gL args) [] r []:=by
 unfold py at h;have hw:=vm hC hI h;have hst:(cq.mk (mU 0 args) []).g=⟨iu 0 (gL args),[]⟩:=by simp[cq.g,vn,gO]
 rw[hst] at hw;obtain⟨h1,h2,_⟩:=BX hT hF (o:=[]) (own:=false) hK (by rw[jM];exact hlen) (v:=r) (o':=[]) (hw.mono λout s hs=>by
  obtain⟨ss,rfl,hq⟩:=hs;cases out with
  |exit id=>exact hq.elim;|goto l=>exact hq.elim;|norm=>
   obtain⟨r0,h1,h2⟩:=xo hq;obtain⟨v,h3,h4⟩:=GN h2;refine⟨.inl rfl,?_⟩;rw[h1];show finish false 0 r0.g ss.g.o=_;have:freeze ss.g.o 6 r0.g=some v.g:=h3;simp[finish,this,hQ _ h4];|ret=>
   obtain⟨r0,h1,h2⟩:=xo hq;obtain⟨v,h3,h4⟩:=GN h2;refine⟨.inr rfl,?_⟩;rw[h1];show finish false 0 r0.g ss.g.o=_;have:freeze ss.g.o 6 r0.g=some v.g:=h3;simp[finish,this,hQ _ h4]);exact⟨h1,h2⟩
end
structure qm (α:Type) where
 put:α->SV
 dec:SV->Option α
 ok:∀v a,dec v=some a->v.g=(put a).g
 inj:∀a b,(put a).g=(put b).g->a=b
structure qo (α:Type) where
 put:α->List SV
 dec:List SV->Option α
 ok:∀v a,dec v=some a->gL v=gL (put a)
 inj:∀a b,gL (put a)=gL (put b)->a=b
def qo.one {d:Type} (c:qm d):qo d where
 put a:=[c.put a];dec
  |[v]=>c.dec v
  |_=>none;ok v a h:=by
  match v,h with
  |[v],h=>simp only[gL,c.ok v a h]
 inj a b h:=by
  simp only[gL,Δ,and_true] at h;exact c.inj a b h
def qo.cons {f g:Type} (c:qm f) (d:qo g):qo (f×g) where
 put a:=c.put a.1::d.put a.2;dec
  |v::e=>match c.dec v,d.dec e with
   |some a,some b=>some (a,b)
   |_,_=>none
  |[]=>none;ok v a h:=by
  match v,h with
  |v::e,h=>
   simp only at h;split at h
   ·rename_i x y j i;simp only[γ] at h;subst h;simp only[gL,c.ok v x j,d.ok e y i]
   ·cases h
 inj a b h:=by
  simp only[gL,Δ] at h;exact Prod.ext (c.inj _ _ h.1) (d.inj _ _ h.2)
def qo.nil:qo Unit where
 put _:=[];dec
  |[]=>some ()
  |_=>none;ok v a h:=by
  grind
 inj a b h:=rfl
structure bL where
 f:FuncId
 α:Type
 A:qo α
 dom:α->Prop
 res:α->SV
def Holds (P:Program) (c:bL):Prop:=∀a,c.dom a->gA P c.f=true/\kP P c.f (gL (c.A.put a)) [] (c.res a).G []
def lL (f:FuncId):List bL->Option bL
 |[]=>none
 |c::r=>bif δu c.f f then some c else lL f r
def vo (L:List bL) (f:FuncId) (args:List SV) (K:SV->Prop):Prop:=
 match lL f L with
 |some c=>iT (c.A.dec args) λa=>c.dom a/\B8 (c.res a) K
 |none=>False
structure kQ where
 K:FuncId->List AV->Store->Option (AV×Store)
 C:FuncId->List SV->bZ->(SV->bZ->Prop)->Prop
def kQ.none:kQ:=⟨λ_ _ _=> .none,λ_ _ _ _=>False⟩
noncomputable def rc (L:List bL) (W:kQ):dh:=λf args o own=>
 if own then W.K f args o
 else match o with
  |[]=>match lL f L with
   |some c=>(ans (λa=>gL (c.A.put a)) c.dom (λa=>(c.res a).G) args).map λv=>(v,[])
   |none=> .none
  |_=> .none
noncomputable def pB (a:FuncId->Option eZ) (L:List bL) (W:kQ):Tab:=⟨a,rc L W⟩
structure mW (P:Program) (W:kQ):Prop where
 K:∀f args o r o',W.K f args o=some (r,o')->gA P f=true/\kP P f args o r o'
 C:∀(call:dh),(∀f args o,call f args o true=W.K f args o)->∀f args o K,W.C f args o K->∃(r:SV) (o':bZ),iI call f (gL args) (gO o)=some (r.g,gO o')/\K r o'
theorem mW.none (P:Program):mW P kQ.none where
 K:=λ_ _ _ _ _ h=>by cases h
 C:=λ_ _ _ _ _ _ h=>h.elim
theorem O1:∀{L:List bL} {f:FuncId} {c:bL},lL f L=some c->c.f=f/\c∈L
 |[],_,_,h=>by cases h;|d::L,f,c,h=>by
  simp only[lL] at h;cases a:δu d.f f with
  |true=>
   simp_all;|false=>
   rw[a] at h;simp only[cond_false] at h;obtain⟨b,e⟩:=O1 h;simp_all
theorem Hh:∀{v:SV} {K:SV->Prop},B8 v K->∃w:SV,w.g=v.G/\K w
 | .ite c a b,K,h=>by
  cases c with
  |true=>exact Hh (v:=a) (h.1 rfl);|false=>exact Hh (v:=b) (h.2 rfl)
 | .ud,_,h| .sc _,_,h| .il _ _,_,h| .si _ _,_,h| .bl _,_,h| .sb _,_,h| .agg _,_,h| .bJ _,_,h| .row _ _,_,h| .ep _ _ _ _,_,h| .ptr _ _ _,_,h| .ap _ _ _ _ _ _,_,h| .rp _ _ _ _ _,_,h| .ow _ _ _,_,h| .os _ _ _ _ _,_,h| .oc _ _ _ _ _,_,h| .mp _,_,h| .fn _ _ _,_,h| .ia _ _,_,h=>⟨_,rfl,h⟩
theorem vp:∀{w v:SV},v.qk w->v.g=w.G
 | .ite c a b,v,h=>by
  cases c with
  |true=>exact vp (w:=a) (h.1 rfl);|false=>exact vp (w:=b) (h.2 rfl)
 | .ud,_,h| .sc _,_,h| .il _ _,_,h| .si _ _,_,h| .bl _,_,h| .sb _,_,h| .agg _,_,h| .bJ _,_,h| .row _ _,_,h| .ep _ _ _ _,_,h| .ptr _ _ _,_,h| .ap _ _ _ _ _ _,_,h| .rp _ _ _ _ _,_,h| .ow _ _ _,_,h| .os _ _ _ _ _,_,h| .oc _ _ _ _ _,_,h| .mp _,_,h| .fn _ _ _,_,h| .ia _ _,_,h=>h
variable {P:Program} {L:List bL} {W:kQ} {fn:FuncId->Option eZ}
theorem rZ (j:mW P W) (k:∀c∈L,Holds P c) (n:kB P ⟨fn,λ_ _ _ _=>none⟩):kB P (pB fn L W) where
 fn:=n.fn;K:=λg e o b r q h=>by
  simp only[pB,rc] at h;cases b with
  |true=>
   simp only[if_true] at h;obtain⟨p,d⟩:=j.K _ _ _ _ _ h;simp_all;|false=>
   simp only[χ,if_false] at h;split at h
   ·split at h
    ·rename_i c l;obtain⟨rfl,f⟩:=O1 l;obtain⟨v,m,d⟩:=ε.1 h;simp only[Prod.mk.injEq] at d;obtain⟨rfl,rfl⟩:=d;obtain⟨a,rfl,i,rfl⟩:=Yd m;obtain⟨t,s⟩:=k c f a i;simp_all
    ·cases h
   ·cases h
theorem r7 (hW:mW P W):pA (pB fn L W).K ⟨vo L,W.C⟩ where
 pure:=λf args K h=>by
  simp only[vo] at h;split at h
  ·rename_i c hc;obtain⟨a,h1,h2,h3⟩:=jg h;obtain⟨r,h4,h5⟩:=Hh h3;refine⟨r,?_,h5⟩;have:=c.A.ok _ _ h1;simp only[pB,rc,χ,if_false,hc,this];rw[Yc (enc:=λa=>gL (c.A.put a)) c.A.inj h2,h4];rfl
  ·exact h.elim
 own:=λf args o K h=>hW.C _ (λf args o=>by simp[pB,rc]) f args o K h
theorem CH {f:FuncId} {args:List AV} (h:lL f L=none):(pB fn L W).K f args [] false=none:=by
 simp[pB,rc,h]
def kR (L:List bL) (W:kQ) (a:TypeId->Option bp) (c:List Nat×Bool->Option (bp×bp)) (b:FuncId->Option eZ):iR:=⟨⟨vo L,W.C⟩,a,c,λ_=>none,b,λ_=>false⟩
theorem holds_of (c:bL) {F:eZ} {ty:TypeId->Option bp} {mt:List Nat×Bool->Option (bp×bp)} {Λ:c.α->Nat->cC} (h0:kB P ⟨fn,λ_ _ _ _=>none⟩) (hW:mW P W) (hL:∀c∈L,Holds P c)
  (hF:fn c.f=some F) (hfr:lL c.f L=none) (hlen:∀a,(c.A.put a).length=F.params)
  (h:∀a,c.dom a->py (kR L W ty mt fn) (Λ a) F (c.A.put a) λv=>v.qk (c.res a)):Holds P c:=by
 intro a hd;exact zz (p:=kR L W ty mt fn) (Λ:=Λ a) (rZ hW hL h0) (r7 hW) (λ_ _ h=>h) hF (CH hfr) (hlen a) (λ_ h=>vp h) (h a hd)
def Hj (L:List bL) (W:kQ) (a:TypeId->Option bp) (c:List Nat×Bool->Option (bp×bp)) (b:FuncId->Option eZ) (d:FuncId->Bool):iR:=⟨⟨vo L,W.C⟩,a,c,λ_=>none,b,d⟩
theorem YU (c:bL) {F:eZ} {ty:TypeId->Option bp} {mt:List Nat×Bool->Option (bp×bp)} {ro:FuncId->Bool} {Λ:c.α->Nat->cC} (h0:kB P ⟨fn,λ_ _ _ _=>none⟩) (hW:mW P W) (hL:∀c∈L,Holds P c)
  (hF:fn c.f=some F) (hfr:lL c.f L=none) (hlen:∀a,(c.A.put a).length=F.params)
  (h:∀a,c.dom a->py (Hj L W ty mt fn ro) (Λ a) F (c.A.put a) λv=>v.qk (c.res a)):Holds P c:=by
 intro a hd;exact zz (p:=Hj L W ty mt fn ro) (Λ:=Λ a) (rZ hW hL h0) (r7 hW) (λ_ _ h=>h) hF (CH hfr) (hlen a) (λ_ h=>vp h) (h a hd)
def eK (k:IntKind):qm Int where
 put n:=.si k n;dec v:=v.int k;ok v a h:=by rw[iK h];rfl
 inj a b h:=by grind[γE]
def O2:qm Bool where
 put b:=.sb b;dec v:=v.boo;ok v a h:=by rw[w9 h];rfl
 inj a b h:=by grind[γE]
theorem sa:(s:bp)->(x y:s.T)->dJ s x=dJ s y->(e:s.flat=true:=by rfl)->x=y
 | .i k,x,y,h,_=>by grind[dJ];| .b,x,y,h,_=>by grind[dJ];| .dR,⟨o,B,r,f,j,q⟩,⟨p,l,g,u,A,z⟩,h,_=>by
  simp_all[dJ,iv];| .off,⟨b,⟨o,B,r,f,j,q⟩,v⟩,⟨c,⟨p,l,g,u,A,z⟩,w⟩,h,_=>by
  simp_all[dJ,iv];| .need,⟨a,b⟩,⟨c,d⟩,h,_=>by
  simp_all[dJ,iv];| .key,⟨b,⟨o,B,r,f,j,q⟩⟩,⟨c,⟨p,l,g,u,A,z⟩⟩,h,_=>by
  simp_all[dJ,iv];| .sit,⟨m,⟨o,B,r,f,j,q⟩,⟨K,F,G,N,L,P⟩⟩,⟨n,⟨p,l,g,u,A,z⟩,⟨O,J,M,I,H,E⟩⟩,h,_=>by
  simp_all[dJ,iv];| .bH _,_,_,_,e=>by grind[bp.flat];| .pair s t,(a,b),(c,d),h,e=>by
  simp only[bp.flat,ζ] at e;simp only[dJ] at h;obtain⟨D,C⟩:=εy h (by grind[Gk]);rw[sa s a c D e.1,sa t b d C e.2]
theorem Hk {d i:Type} {n:Nat} {f:d->List i} (a:∀x,(f x).length=n) (c:∀x y,f x=f y->x=y):∀{l m:List d},l.length=m.length->l.flatMap f=m.flatMap f->l=m
 |[],[],_,_=>rfl
 |[],_::_,h,_=>by simp at h;|_::_,[],h,_=>by simp at h;|x::l,y::m,b,h=>by
  simp only[δW] at h;obtain⟨e,g⟩:=εy h (by rw[a,a]);simp only[γB,ζb] at b;rw[c x y e,Hk a c b g]
theorem xp:(s:bp)->(x y:s.T)->(h:dB s x=dB s y)->x=y
 | .bH s,x,y,h=>by
  simp only[dB,Δ,AV.sl.injEq,and_true] at h;exact Hk (lK s) (xp s) h.1 h.2;| .pair s t,(a,b),(c,d),h=>by
  simp only[dB] at h;obtain⟨e,f⟩:=εy h (by grind[lK]);rw[xp s a c e,xp t b d f];| .i k,x,y,h=>sa (.i k) x y (tK h)
 | .b,x,y,h=>sa .b x y (tK h)
 | .dR,x,y,h=>sa .dR x y (tK h)
 | .off,x,y,h=>sa .off x y (tK h)
 | .need,x,y,h=>sa .need x y (tK h)
 | .key,x,y,h=>sa .key x y (tK h)
 | .sit,x,y,h=>sa .sit x y (tK h)
theorem lM (s:bp) {l m:List s.T} (a:l.length=m.length) (h:cE s l=cE s m):l=m:=
 Hk (lK s) (xp s) a h
def eG (s:bp):qm s.T where
 put x:=.agg (encS s x);dec
  | .agg c=>jK s c
  |_=>none;ok v a h:=by
  grind[γE,fU,nJ,tt]
 inj a b h:=by
  grind[γE,fU,tt,xp]
theorem oL {s:bp} {v:SV} {l:List s.T} (h:jf s v=some l):v.g=(SV.row s l).g:=by
 cases v<;>simp only[jf,reduceCtorEq] at h;grind[zx,γE,cE]
def dM (s:bp):qm (List s.T) where
 put l:=.row s l;dec:=jf s;ok v a h:=oL h;inj a b h:=by
  grind[γE,lM]
end Go.Vi
